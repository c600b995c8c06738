/- Contract of the reference: Side. No condition beyond small numbers. -/
import Derived.ArgAppend
import Derived.Below
import Derived.BigQuiet
import Derived.Deep.DeepCutAuto
import Derived.Deep.DeepFit
import Derived.Deep.LoopGhost
import Derived.Deep.QuietTactic
import Derived.Deep.RegionHeld
import Derived.Deep.RegionHeld3
import Derived.Deep.RegionWith
import Derived.Deep.Upon
import Derived.Defers
import Derived.Laws.BytesArg
import Derived.Laws.EntriesVeiled
import Derived.Laws.OwnMore
import Derived.Lib.Hide
import Derived.Lib.IndexBytes
import Derived.Lib.ItoaNum
import Derived.Lib.SplitLaws
import Derived.LoopIn
import Derived.LoopNIn
import Derived.Maps.AppendAt
import Derived.Maps.Keyed
import Derived.Maps.OwnIn
import Derived.OrdersHeld
import Derived.OwnWalkIn
import Derived.RangeFuncBound
import Derived.RangeFuncCalls
import Derived.RangeFuncLeaves
import Derived.RangeFuncNested
import Derived.Recover
import Derived.RegionIn
import Derived.Shelf.Abstract
import Derived.Shelf.Strconv.Itoa3
import Derived.Shelf.Strings.Split
import Derived.TacticsIn
import Derived.TacticsInMore
import Derived.Test.YtjpekonfjihcoaaGreatDoorProg
import Derived.WalkKit
import Derived.WalkLawsBesides
import Derived.WalkSpells
import Derived.Test.YtjpekonfjihcoaaGreatDoorM2
import Derived.Test.YtjpekonfjihcoaaGreatDoorM3
import Derived.Test.YtjpekonfjihcoaaGreatDoorM27
import Derived.Test.YtjpekonfjihcoaaGreatDoorM14
import Derived.Test.YtjpekonfjihcoaaGreatDoorM1
namespace Go.TintM
end Go.TintM
set_option maxRecDepth 100000
set_option maxHeartbeats 64000000
set_option linter.unusedVariables false
set_option linter.unusedSimpArgs false
namespace Go.Proofs.YtjpekonfjihcoaaGreatDoor
open Go.RowKit Go.My Go.TintM
attribute [local go_sem] equal22

theorem size_zero {d : Nat → Int} (h0 : d 0 = 0) (h1 : d 1 = 0) (h2 : d 2 = 0) : decide (sizeD d ≠ 0) = false := by simp [sizeD, tri, h0, h1, h2]
theorem size_some {d : Nat → Int} (h : d 0 ≠ 0 ∨ d 1 ≠ 0 ∨ d 2 ≠ 0) : decide (sizeD d ≠ 0) = true := by
 rw [decide_eq_true_iff]
 show max (d 0) (-d 0) + max (d 1) (-d 1) + max (d 2) (-d 2) ≠ 0
 omega

theorem rSide_any (d : Nat → Int) (hd : ∀ p, p < 3 → -2 ≤ d p ∧ d p ≤ 2) (w : World) :
  Calls Tryz.prog 57 #[dirV d] w fun e w' => e = .returned (.bool (decide (sizeD d ≠ 0))) ∧ Ext w w' := by
 have R := Lib.hid (fun p (hp : p < 3) W => (show Calls Tryz.prog 81 #[.int .i64 (d p), .int .i64 (-2), .int .i64 2] W fun e w' => e = .returned (.bool true) ∧ W = w' from by
  have h := rin_any (d p) (-2) 2 W
  rw [show inB (d p) (-2) 2 = true by have := hd p hp; simp [inB]; omega] at h
  exact h))
 have Hz := Lib.hid (fun (h0 : d 0 = 0) (h1 : d 1 = 0) (h2 : d 2 = 0) => size_zero h0 h1 h2)
 have Hn := Lib.hid (fun (h : d 0 ≠ 0 ∨ d 1 ≠ 0 ∨ d 2 ≠ 0) => size_some h)
 clear hd
 obtain ⟨b, hb⟩ : ∃ b, b = decide (sizeD d ≠ 0) := ⟨_, rfl⟩
 rw [← hb] at Hz Hn ⊢
 clear hb
 go_enter Tryz.func57, Tryz.ntmps57
 go_wp2
 obtain ⟨w0, hw0⟩ : ∃ W, W = w.alloc (.cells #[.int .i64 (d 0), .int .i64 (d 1), .int .i64 (d 2)] 22) := ⟨_, rfl⟩
 have HE0 := Lib.hid (show Ext w w0 by rw [hw0]; exact (Ext.refl w).alloc _)
 have HD := Lib.hid (show DirBox w0 w.heap.size d by rw [hw0]; exact DirBox.new w d)
 rw [← hw0]
 clear hw0
 go_loopg [3] 3 (fun g i wr => ∃ k : Nat, k + g = 3 ∧ i = .int .i64 k ∧ wr = w0)
 case atStart => exact ⟨0, by omega, rfl, rfl⟩
 case round =>
  obtain ⟨k, hk, rfl, hwr⟩ := hrel
  obtain rfl := hwr.symm
  by_cases hk3 : k < 3
  ·have hkI : (k : Int) < 3 := by omega
   have e1 := HD.out.c k hk3
   have Rk := Lib.hid (R.out k hk3)
   generalize d k = D at *
   go_wp2_with (first | (go_at_call 81; refine (Rk.out _).mono ?_; rintro e w5 ⟨rfl, h5⟩; obtain rfl := h5.symm))
   go_roundg (gk - 1)
   case measure => omega
   case rel => exact ⟨k + 1, by omega, by go_num, rfl⟩
  ·obtain rfl : k = 3 := by omega
   have e0 := HD.out.c 0 (by omega)
   have e1 := HD.out.c 1 (by omega)
   have e2 := HD.out.c 2 (by omega)
   have HZ := Lib.hid Hz.out
   clear R Hz
   generalize d 0 = d0 at *
   generalize d 1 = d1 at *
   generalize d 2 = d2 at *
   by_cases h0 : d0 = 0
   ·by_cases h1 : d1 = 0
    ·by_cases h2 : d2 = 0
     ·obtain rfl := HZ.out h0 h1 h2
      subst h0 h1 h2
      go_wp2
      go_ret
      exact ⟨rfl, HE0.out⟩
     ·obtain rfl := Hn.out (.inr (.inr h2))
      subst h0 h1
      go_wp2
      go_ret
      exact ⟨ret_bool (by simp [h2]), HE0.out⟩
    ·obtain rfl := Hn.out (.inr (.inl h1))
     subst h0
     go_wp2
     go_ret
     exact ⟨ret_bool (by simp [h1]), HE0.out⟩
   ·obtain rfl := Hn.out (.inl h0)
    go_wp2
    go_ret
    exact ⟨ret_bool (by simp [h0]), HE0.out⟩

end Go.Proofs.YtjpekonfjihcoaaGreatDoor
