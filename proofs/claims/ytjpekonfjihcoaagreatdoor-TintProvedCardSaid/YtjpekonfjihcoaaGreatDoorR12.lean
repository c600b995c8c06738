/- Contracts of the reference: along, Side. No condition beyond small numbers. -/
import Derived.ArgAppend
import Derived.Below
import Derived.BigQuiet
import Derived.Deep.DeepCutAuto
import Derived.Deep.DeepFit
import Derived.Deep.LoopGhost
import Derived.Deep.QuietTactic
import Derived.Deep.RegionHeld
import Derived.Deep.RegionHeld3
import Derived.Deep.RegionWith
import Derived.Deep.Upon
import Derived.Defers
import Derived.Laws.BytesArg
import Derived.Laws.EntriesVeiled
import Derived.Laws.OwnMore
import Derived.Lib.Hide
import Derived.Lib.IndexBytes
import Derived.Lib.ItoaNum
import Derived.Lib.SplitLaws
import Derived.LoopIn
import Derived.LoopNIn
import Derived.Maps.AppendAt
import Derived.Maps.Keyed
import Derived.Maps.OwnIn
import Derived.OrdersHeld
import Derived.OwnWalkIn
import Derived.RangeFuncBound
import Derived.RangeFuncCalls
import Derived.RangeFuncLeaves
import Derived.RangeFuncNested
import Derived.Recover
import Derived.RegionIn
import Derived.Shelf.Abstract
import Derived.Shelf.Strconv.Itoa3
import Derived.Shelf.Strings.Split
import Derived.TacticsIn
import Derived.TacticsInMore
import Derived.Test.YtjpekonfjihcoaaGreatDoorProg
import Derived.WalkKit
import Derived.WalkLawsBesides
import Derived.WalkSpells
import Derived.Test.YtjpekonfjihcoaaGreatDoorM2
import Derived.Test.YtjpekonfjihcoaaGreatDoorM3
import Derived.Test.YtjpekonfjihcoaaGreatDoorM14
import Derived.Test.YtjpekonfjihcoaaGreatDoorM1
namespace Go.TintM
end Go.TintM
set_option maxRecDepth 100000
set_option maxHeartbeats 64000000
set_option linter.unusedVariables false
set_option linter.unusedSimpArgs false
namespace Go.Proofs.YtjpekonfjihcoaaGreatDoor
open Go.RowKit Go.My Go.TintM

theorem ralong_any (d : Nat → Int) (lo hi : Nat → Nat) (hd : ∀ p, p < 3 → -2 ≤ d p ∧ d p ≤ 2) (hl : ∀ p, p < 3 → lo p ≤ 99 ∧ hi p ≤ 99) (w : World) :
  Calls Tryz.prog 102 #[dirV d, ampV lo hi] w fun e w' => e = .returned (.int .i64 (moreD d lo hi)) ∧ Ext w w' := by
 have Hd := Lib.hid hd
 have Hl := Lib.hid hl
 have hf : ∀ p, p < 3 → -198 ≤ max (d p * lo p) (d p * hi p) ∧ max (d p * lo p) (d p * hi p) ≤ 198 := fun p hp => by
  have h1 := mul_in (hd p hp) (hl p hp).1
  have h2 := mul_in (hd p hp) (hl p hp).2
  omega
 have Hs := Lib.hid (triTo_small hf)
 have He := Lib.hid (triTo_3 fun p => max (d p * lo p) (d p * hi p))
 have Hu := Lib.hid (fun k => (show triTo (fun p => max (d p * lo p) (d p * hi p)) (k + 1) = triTo (fun p => max (d p * lo p) (d p * hi p)) k + max (d k * lo k) (d k * hi k) from rfl))
 have Hq := Lib.hid (show moreD d lo hi = tri (fun p => max (d p * lo p) (d p * hi p)) from rfl)
 have h0 : triTo (fun p => max (d p * lo p) (d p * hi p)) 0 = 0 := rfl
 clear hd hl hf
 go_enter Tryz.func102, Tryz.ntmps102
 go_wp2
 obtain ⟨w0, hw0⟩ : ∃ W, W = (w.alloc (.cells #[.int .i64 (d 0), .int .i64 (d 1), .int .i64 (d 2)] 22)).alloc (.cells (ampC lo hi) 25) := ⟨_, rfl⟩
 have HE0 := Lib.hid (show Ext w w0 by rw [hw0]; exact ((Ext.refl w).alloc _).alloc _)
 have HD := Lib.hid (show DirBox w0 w.heap.size d by rw [hw0]; exact (DirBox.new w d).ext ((Ext.refl _).alloc _))
 have HA := Lib.hid (show AmpBox w0 (w.heap.size + 1) lo hi by
  have := AmpBox.new (w.alloc (.cells #[.int .i64 (d 0), .int .i64 (d 1), .int .i64 (d 2)] 22)) lo hi
  rw [World.size_alloc] at this
  rw [hw0]; exact this)
 rw [← hw0]
 clear hw0
 go_loopg [5, 6] 3 (fun g v i wr => ∃ k : Nat, k + g = 3 ∧ i = .int .i64 k ∧ Ext w0 wr ∧ v = .int .i64 (triTo (fun p => max (d p * lo p) (d p * hi p)) k))
 case atStart => exact ⟨0, by omega, rfl, Ext.refl _, by rw [h0]⟩
 case round =>
  obtain ⟨k, hk, rfl, hE, rfl⟩ := hrel
  have HE := Lib.hid hE
  clear hE h0
  by_cases hk3 : k < 3
  ·have hkI : (k : Int) < 3 := by omega
   have e1 := HD.out.ext HE.out |>.c k hk3
   have e2 := HA.out.ext HE.out |>.c0 k hk3
   have e3 := HA.out.ext HE.out |>.c1 k hk3
   have hdk := Hd.out k hk3
   have hlk := Hl.out k hk3
   have hsm := Hs.out k (by omega)
   have Huk := Lib.hid (Hu.out k)
   generalize hV : triTo (fun p => max (d p * lo p) (d p * hi p)) k = V at *
   clear hV
   generalize lo k = A at *
   generalize hi k = B at *
   generalize d k = D at *
   have m1 := mul_in hdk hlk.1
   have m2 := mul_in hdk hlk.2
   obtain ⟨X, hX⟩ : ∃ X, D * (A : Int) = X := ⟨_, rfl⟩
   obtain ⟨Y, hY⟩ : ∃ Y, D * (B : Int) = Y := ⟨_, rfl⟩
   rw [hX] at m1
   rw [hY] at m2
   rw [hX, hY] at Huk
   have q1 : IntKind.i64.wrap X = X := by rw [IntWalk.i64_in _ (by omega)]
   have q2 : IntKind.i64.wrap Y = Y := by rw [IntWalk.i64_in _ (by omega)]
   obtain ⟨M, hM⟩ : ∃ M, M = max X Y := ⟨_, rfl⟩
   rw [← hM] at Huk
   have hmx : (if X < Y then Y else X) = M := by rw [hM]; split <;> omega
   have q3 : IntKind.i64.wrap (V + M) = V + M := by rw [IntWalk.i64_in _ (by omega)]
   have hmx2 : max X Y = M := hM.symm
   clear m1 m2 hdk hlk hsm hM
   go_wp2_with fail
   refine wp_region_plan (.take 0 <| .take 1 <| .take 2 <| .take 3 <| .take 4 <| .take 5 <| .take 6 <| .take 7 <| .take 8 <| .take 9 <| .take 10 <| .take 11 <| .take 12 <| .take 13 <| .take 14 <| .take 15 <| .take 16 <| .take 17 <| .take 18 <| .take 19 <| .done) (fun W => Ext wr W) mixed (by kernel_rfl) (by kernel_rfl) rfl (fun _ _ d _ _ h => by cases d <;> exact h) ((Ext.refl wr).drew) ?_
   repeat ((first | (refine plan_take (v := ?_) rfl rfl (fun W hW => ?_) ?_; rotate_left; (focus (have d0 := cell_ext hW e1; have d1 := cell_ext hW e2; have d2 := cell_ext hW e3; go_simp; first | exact rfl | (split <;> first | exact rfl | (exfalso; omega)) | done))) | refine plan_skip rfl rfl ?_); simp only [puts])
   refine plan_done ?_
   clear e1 e2 e3
   go_wp2
   all_goals
    go_roundg (gk - 1)
    case measure => omega
    case rel => exact ⟨k + 1, by omega, by go_num, HE.out.drew, by rw [Huk.out]⟩
  ·obtain rfl : k = 3 := by omega
   have hV := He.out.trans Hq.out.symm
   rw [hV]
   clear hV
   go_wp2
   go_ret
   exact ⟨rfl, HE0.out.trans HE.out⟩

end Go.Proofs.YtjpekonfjihcoaaGreatDoor
