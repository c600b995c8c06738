/- Contract: the reference's Near. No condition beyond sheets as defined. -/
import Derived.ArgAppend
import Derived.Below
import Derived.BigQuiet
import Derived.Deep.DeepCutAuto
import Derived.Deep.DeepFit
import Derived.Deep.LoopGhost
import Derived.Deep.QuietTactic
import Derived.Deep.RegionHeld
import Derived.Deep.RegionHeld3
import Derived.Deep.RegionWith
import Derived.Deep.Upon
import Derived.Defers
import Derived.Laws.EntriesVeiled
import Derived.Laws.OwnMore
import Derived.Lib.Hide
import Derived.Lib.IndexBytes
import Derived.Lib.ItoaNum
import Derived.Lib.SplitLaws
import Derived.LoopIn
import Derived.LoopNIn
import Derived.Maps.AppendAt
import Derived.Maps.Keyed
import Derived.Maps.OwnIn
import Derived.OrdersHeld
import Derived.OwnWalkIn
import Derived.RangeFuncBound
import Derived.RangeFuncCalls
import Derived.RangeFuncLeaves
import Derived.RangeFuncNested
import Derived.Recover
import Derived.RegionIn
import Derived.Shelf.Abstract
import Derived.TacticsIn
import Derived.TacticsInMore
import Derived.Test.YtjpekonfjihcoaaGreatDoorProg
import Derived.WalkKit
import Derived.WalkLawsBesides
import Derived.WalkSpells
import Derived.Test.YtjpekonfjihcoaaGreatDoorM2
import Derived.Test.YtjpekonfjihcoaaGreatDoorM37
import Derived.Test.YtjpekonfjihcoaaGreatDoorM29
import Derived.Test.YtjpekonfjihcoaaGreatDoorM3
import Derived.Test.YtjpekonfjihcoaaGreatDoorM4
import Derived.Test.YtjpekonfjihcoaaGreatDoorM38
import Derived.Test.YtjpekonfjihcoaaGreatDoorR8
import Derived.Test.YtjpekonfjihcoaaGreatDoorM1
import Derived.Test.YtjpekonfjihcoaaGreatDoorM17
namespace Go.TintM
end Go.TintM
set_option maxRecDepth 100000
set_option maxHeartbeats 64000000
set_option linter.unusedVariables false
set_option linter.unusedSimpArgs false
namespace Go.Proofs.YtjpekonfjihcoaaGreatDoor
open Go.RowKit Go.My Go.TintM

def bIx (f : Nat → Int) : Nat → Nat
 | 0 => 0
 | k + 1 => argm f k
theorem bIx_succ (f : Nat → Int) (k : Nat) : bIx f (k + 1) = if f k < f (bIx f k) then k else bIx f k := by
 cases k with
 | zero => simp [bIx, argm]
 | succ k => rfl
theorem bIx_lt (f : Nat → Int) {n k : Nat} (hn : 0 < n) (hk : k ≤ n) : bIx f k < n := by
 cases k with
 | zero => exact hn
 | succ k => have := argm_le f k; simp only [bIx]; omega
theorem near_ix (s : Sh) (h : 0 < (allMix s.tins.length).length) : nearOf s = (allMix s.tins.length).getD (bIx (fun j => offOf s ((allMix s.tins.length).getD j [])) (allMix s.tins.length).length) [] := by
 obtain ⟨n, hn⟩ : ∃ n, (allMix s.tins.length).length = n + 1 := ⟨(allMix s.tins.length).length - 1, by omega⟩
 rw [hn]
 show _ = (allMix s.tins.length).getD (argm (fun j => offOf s ((allMix s.tins.length).getD j [])) n) []
 rw [← argm_best (offOf s) (allMix s.tins.length) [] n (by omega)]
 unfold nearOf
 cases hL : allMix s.tins.length with
 | nil => rw [hL] at hn; simp at hn
 | cons x l =>
  rw [hL] at hn
  simp only [List.length_cons] at hn
  have : l.length = n := by omega
  subst this
  simp [List.getD]

theorem rNear_any (s : Sh) (g : Fine s) (ot : Option Addr) (cap : Nat) (w : World) (h : TinsAt w ot (ofSh s).tins) :
  Calls Tryz.prog 48 #[sheetV (ofSh s) ot cap] w fun e w' => ∃ v, e = .returned (.tuple #[v, .int .i64 (offOf s (nearOf s))]) ∧ IsInts w' v (upL (nearOf s)) ∧ Ext w w' := by
 have RA := Lib.hid (fun W => rAll_any (ofSh s) ot cap (by rw [tins_len]; exact g.len1) (by rw [tins_len]; exact g.len2) W)
 rw [tins_len] at RA
 have RC := Lib.hid (fun m (hm : m ∈ allMix s.tins.length) om cm W (hE : Ext w W) (hi : IntsAt W om (upL m)) => rNeeded_any s g m ((mem_allMix g).1 hm) ot cap om cm W (h.ext hE) hi)
 have hL2 := allMix_len ⟨s.tins.length, by have := g.len2; omega⟩ g.len1
 simp only at hL2
 have hL := hL2.1
 have hL0 := hL2.2
 have Hnear := Lib.hid (near_ix s hL0)
 clear h g hL2
 generalize nearOf s = NN at *
 generalize allMix s.tins.length = L at *
 obtain ⟨f, hf⟩ : ∃ f, f = fun j => offOf s (L.getD j []) := ⟨_, rfl⟩
 rw [← hf] at Hnear
 have Hf := Lib.hid (fun j => (show f j = offOf s (L.getD j []) by rw [hf]))
 clear hf
 have Hget := Lib.hid (fun j (hj : j < L.length) => (show L.getD j [] = L[j] by simp [List.getD, hj]))
 go_enter Tryz.func48, Tryz.ntmps48
 have hz : (0 : Int) < (L.length : Int) := by omega
 go_wp2_with (first | (go_at_call 92; refine (RA.out _).mono ?_; rintro e w1 ⟨⟨v1, rfl, ho1⟩, hE1⟩; obtain ⟨oa, ca, hv1, n1, n2, n3, hr1⟩ := ho1.slice; subst hv1; obtain ⟨bZ, oZ, om0, cm0, hbZ, hcZ, hrow0⟩ := rows_at hr1 hL0; subst hbZ; rw [← Hget.out 0 hL0] at hcZ hrow0; rw [Nat.add_zero] at hcZ; have HRow0 := Lib.hid hrow0; have HR := Lib.hid hr1; have HE1 := Lib.hid (((Ext.refl w).alloc _).trans hE1); have HP := Lib.hid ((SheetBox.new w (ofSh s) ot cap).ext hE1); clear ho1 hr1 hE1 hrow0))
 clear hcZ
 go_loopg [5, 6] L.length (fun g v i wr => ∃ (k : Nat) (om : Option Addr) (cm : Nat), k + g = L.length ∧ i = .int .i64 k ∧ Ext w1 wr ∧ v = .slice om (L.getD (bIx f k) []).length cm ∧ Row w1 om cm (L.getD (bIx f k) []))
 case atStart => exact ⟨0, om0, cm0, by omega, rfl, Ext.refl _, by rw [show bIx f 0 = 0 from rfl, Hget.out 0 hL0], HRow0.out⟩
 case round =>
  clear HRow0
  obtain ⟨k, ob, cb, hk, rfl, hE, rfl, hrow⟩ := hrel
  have HE := Lib.hid hE
  have HRow := Lib.hid hrow
  have HPr := Lib.hid (HP.out.ext hE)
  have hbl := bIx_lt f hL0 (k := k) (by omega)
  clear hrow
  by_cases hlt : k < L.length
  ·obtain ⟨bA, oA, om, cm, hbA, hcA, hi⟩ := rows_at HR.out hlt
   simp only [Option.some.injEq, Addr.mk.injEq, and_true] at hbA
   obtain ⟨rfl, rfl⟩ := hbA
   have hcA := cell_ext hE hcA
   rw [← Hget.out k hlt] at hcA hi
   have hmem : L.getD k [] ∈ L := by rw [Hget.out k hlt]; exact List.getElem_mem hlt
   have hmemb : L.getD (bIx f k) [] ∈ L := by rw [Hget.out _ hbl]; exact List.getElem_mem hbl
   have R := Lib.hid (fun W (hW : Ext w1 W) => RC.out _ hmem om cm W (HE1.out.trans hW) (hi.ints.ext hW))
   have Rb := Lib.hid (fun W (hW : Ext w1 W) => RC.out _ hmemb ob cb W (HE1.out.trans hW) (HRow.out.ints.ext hW))
   rw [← Hf.out] at R Rb
   have Hi := Lib.hid hi
   have Hs := Lib.hid (bIx_succ f k)
   have Hq := Lib.hid (show L.getD k [] = L.getD k [] from rfl)
   clear hmem hmemb hi hE
   obtain ⟨m, hm⟩ : ∃ m, m = L.getD k [] := ⟨_, rfl⟩
   obtain ⟨mb, hmb⟩ : ∃ m, m = L.getD (bIx f k) [] := ⟨_, rfl⟩
   rw [← hm] at hcA Hi R
   rw [← hmb] at HRow Rb ⊢
   have HM := Lib.hid hm
   have HMb := Lib.hid hmb
   clear hm hmb
   obtain ⟨F, hF⟩ : ∃ F, F = f k := ⟨_, rfl⟩
   obtain ⟨G, hG⟩ : ∃ G, G = f (bIx f k) := ⟨_, rfl⟩
   rw [← hF] at R Hs
   rw [← hG] at Rb Hs
   clear hF hG
   have hltI : (k : Int) < (L.length : Int) := by omega
   have c0 := HPr.out 0 _ rfl
   have c1 := HPr.out 1 _ rfl
   have c2 := HPr.out 2 _ rfl
   have c3 := HPr.out 3 _ rfl
   have c4 := HPr.out 4 _ rfl
   have c5 := HPr.out 5 _ rfl
   have c6 := HPr.out 6 _ rfl
   have c7 := HPr.out 7 _ rfl
   have c8 := HPr.out 8 _ rfl
   have c9 := HPr.out 9 _ rfl
   have c10 := HPr.out 10 _ rfl
   have c11 := HPr.out 11 _ rfl
   have c12 := HPr.out 12 _ rfl
   have hcA' := cell_ext (Ext.refl wr).drew hcA
   go_wp2_with fail
   refine wp_region_plan (.take 0 <| .take 1 <| .take 2 <| .take 3 <| .take 4 <| .take 6 <| .take 7 <| .only 5 <| .only 8 <| .take 9 <| .done) (fun W => Ext wr W) mixed (by kernel_rfl) (by kernel_rfl) rfl (fun _ _ d _ _ h => by cases d <;> exact h) ((Ext.refl wr).drew) ?_
   repeat ((first | (refine plan_take (v := ?_) rfl rfl (fun W hW => ?_) ?_; rotate_left; (focus (have d0 := cell_ext hW c0; have d1 := cell_ext hW c1; have d2 := cell_ext hW c2; have d3 := cell_ext hW c3; have d4 := cell_ext hW c4; have d5 := cell_ext hW c5; have d6 := cell_ext hW c6; have d7 := cell_ext hW c7; have d8 := cell_ext hW c8; have d9 := cell_ext hW c9; have d10 := cell_ext hW c10; have d11 := cell_ext hW c11; have d12 := cell_ext hW c12; have d13 := cell_ext hW hcA; go_simp; first | exact rfl | (split <;> first | exact rfl | (exfalso; omega)) | done))) | refine plan_skip rfl rfl ?_); simp only [puts])
   refine plan_walk rfl ?_; intro K hK
   go_wp2_with (first | (go_at_call 85; refine (R.out _ (HE.out.trans (Ext.refl wr).drew)).mono ?_; rintro e w5 ⟨rfl, hE5⟩))
   have X := Lib.hid ((Ext.refl wr).drew.trans hE5)
   refine hK _ _ X.out ?_
   repeat ((first | (refine plan_take (v := ?_) rfl rfl (fun W hW => ?_) ?_; rotate_left; (focus (have d0 := cell_ext hW c0; have d1 := cell_ext hW c1; have d2 := cell_ext hW c2; have d3 := cell_ext hW c3; have d4 := cell_ext hW c4; have d5 := cell_ext hW c5; have d6 := cell_ext hW c6; have d7 := cell_ext hW c7; have d8 := cell_ext hW c8; have d9 := cell_ext hW c9; have d10 := cell_ext hW c10; have d11 := cell_ext hW c11; have d12 := cell_ext hW c12; go_simp; first | exact rfl | (split <;> first | exact rfl | (exfalso; omega)) | done))) | refine plan_skip rfl rfl ?_); simp only [puts])
   refine plan_walk rfl ?_; intro K hK
   clear hE5 R
   go_wp2_with (first | (go_at_call 85; refine (Rb.out _ (HE.out.trans X.out)).mono ?_; rintro e w6 ⟨rfl, hE6⟩))
   have X6 := Lib.hid (X.out.trans hE6)
   refine hK _ _ X6.out ?_
   repeat ((first | (refine plan_take (v := ?_) rfl rfl (fun W hW => ?_) ?_; rotate_left; (focus (skip; go_simp; first | exact rfl | (split <;> first | exact rfl | (exfalso; omega)) | done))) | refine plan_skip rfl rfl ?_); simp only [puts])
   refine plan_done ?_
   have hcA6 := cell_ext X6.out hcA
   clear hE6 c0 c1 c2 c3 c4 c5 c6 c7 c8 c9 c10 c11 c12 hcA hcA' Rb
   by_cases hFG : F < G
   ·have Hs2 := Lib.hid (show bIx f (k + 1) = k by rw [Hs.out, if_pos hFG])
    go_wp2
    go_roundg (gk - 1)
    case measure => omega
    case rel => exact ⟨k + 1, om, cm, by omega, by go_num, HE.out.trans X6.out, by rw [Hs2.out, HM.out], by rw [Hs2.out, ← HM.out]; exact Hi.out⟩
   ·have Hs2 := Lib.hid (show bIx f (k + 1) = bIx f k by rw [Hs.out, if_neg hFG])
    go_wp2
    go_roundg (gk - 1)
    case measure => omega
    case rel => exact ⟨k + 1, ob, cb, by omega, by go_num, HE.out.trans X6.out, by rw [Hs2.out, HMb.out], by rw [Hs2.out, ← HMb.out]; exact HRow.out⟩
  ·have hkk : k = L.length := by omega
   have hmemb : L.getD (bIx f k) [] ∈ L := by rw [Hget.out _ hbl]; exact List.getElem_mem hbl
   have Rb := Lib.hid (fun W (hW : Ext w1 W) => RC.out _ hmemb ob cb W (HE1.out.trans hW) (HRow.out.ints.ext hW))
   have hnn : L.getD (bIx f k) [] = NN := by rw [hkk]; exact Hnear.out.symm
   rw [hnn] at Rb HRow ⊢
   clear hkk hmemb hnn
   have c0 := HPr.out 0 _ rfl
   have c1 := HPr.out 1 _ rfl
   have c2 := HPr.out 2 _ rfl
   have c3 := HPr.out 3 _ rfl
   have c4 := HPr.out 4 _ rfl
   have c5 := HPr.out 5 _ rfl
   have c6 := HPr.out 6 _ rfl
   have c7 := HPr.out 7 _ rfl
   have c8 := HPr.out 8 _ rfl
   have c9 := HPr.out 9 _ rfl
   have c10 := HPr.out 10 _ rfl
   have c11 := HPr.out 11 _ rfl
   have c12 := HPr.out 12 _ rfl
   go_wp2_with (first | (go_at_call 85; refine (Rb.out _ HE.out).mono ?_; rintro e w5 ⟨rfl, hE5⟩))
   refine bodyPost_ret (results_tmp2 rfl _ _ _) (by simp) ?_
   exact ⟨_, rfl, isInts_of (HRow.out.ext (HE.out.trans hE5)), (HE1.out.trans HE.out).trans hE5⟩

end Go.Proofs.YtjpekonfjihcoaaGreatDoor
