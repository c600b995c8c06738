/- Contracts and mathematics, joined: R2, R4, R3, R5. Conditions stand with each. -/
import Derived.ArgAppend
import Derived.Below
import Derived.BigQuiet
import Derived.Deep.DeepCutAuto
import Derived.Deep.DeepFit
import Derived.Deep.LoopGhost
import Derived.Deep.QuietTactic
import Derived.Deep.RegionHeld
import Derived.Deep.RegionHeld3
import Derived.Deep.RegionWith
import Derived.Defers
import Derived.Laws.EntriesVeiled
import Derived.Laws.OwnMore
import Derived.Lib.Hide
import Derived.Lib.IndexBytes
import Derived.Lib.ItoaNum
import Derived.Lib.SplitLaws
import Derived.LoopIn
import Derived.LoopNIn
import Derived.Maps.AppendAt
import Derived.Maps.Keyed
import Derived.Maps.OwnIn
import Derived.OrdersHeld
import Derived.OwnWalkIn
import Derived.RangeFuncBound
import Derived.RangeFuncCalls
import Derived.RangeFuncLeaves
import Derived.RangeFuncNested
import Derived.Recover
import Derived.RegionIn
import Derived.Shelf.Abstract
import Derived.TacticsIn
import Derived.TacticsInMore
import Derived.Test.YtjpekonfjihcoaaGreatDoorProg
import Derived.WalkKit
import Derived.WalkLawsBesides
import Derived.WalkSpells
import Derived.Test.YtjpekonfjihcoaaGreatDoorM2
import Derived.Test.YtjpekonfjihcoaaGreatDoorM10
import Derived.Test.YtjpekonfjihcoaaGreatDoorR1
import Derived.Test.YtjpekonfjihcoaaGreatDoorM4
import Derived.Test.YtjpekonfjihcoaaGreatDoorM3
import Derived.Test.YtjpekonfjihcoaaGreatDoorM14
import Derived.Test.YtjpekonfjihcoaaGreatDoorM15
import Derived.Test.YtjpekonfjihcoaaGreatDoorM1
import Derived.Test.YtjpekonfjihcoaaGreatDoorM17
import Derived.Test.YtjpekonfjihcoaaGreatDoorAims3
import Derived.Test.YtjpekonfjihcoaaGreatDoorM16
namespace Go.TintM
end Go.TintM
set_option maxRecDepth 100000
set_option maxHeartbeats 64000000
set_option linter.unusedVariables false
set_option linter.unusedSimpArgs false
/- Contract: the reference's can. No condition beyond sheets and mixtures as defined. -/
namespace Go.Proofs.YtjpekonfjihcoaaGreatDoor
open Go.RowKit Go.My Go.TintM

theorem can_any (s : Sh) (g : Fine s) (m : List Nat) (hm : IsMix s m) (ot : Option Addr) (cap : Nat) (om : Option Addr) (cm p y : Nat) (hp : p < 3) (hy : y ≤ 20) (w : World) (h : TinsAt w ot (ofSh s).tins) (hi : IntsAt w om (upL m)) :
  Calls Tryz.prog 84 #[sheetV (ofSh s) ot cap, .slice om m.length cm, .int .i64 p, .int .i64 y] w fun e w' => e = .returned (.bool (may s m p y)) ∧ Ext w w' := by
 have hm8 : (upL m).all in8 = true := by
  rw [List.all_eq_true]
  intro x hx
  obtain ⟨n, hn, rfl⟩ := List.mem_map.1 hx
  have := hm.le n hn
  simp [in8, inB]; omega
 have hml : (upL m).length ≤ 1000 := by rw [upL_length, hm.len]; have := g.len2; omega
 have R62 := Lib.hid (fun W (hW : Ext w W) => rSums_any s g m hm ot cap om cm W (h.ext hW) (hi.ext hW))
 have R59 := Lib.hid (fun W (hW : Ext w W) => parts_any (upL m) om cm W (hi.ext hW) hml hm8)
 rw [upL_length, sum_up] at R59
 have hidx := fun (W : World) => index25 (lowS s m) (highS s m) hp W
 have ho := g.old p hp
 have hf1 := g.flo p hp
 have hf2 := g.fhi p hp
 have hoff := g.off2
 have R35 := Lib.hid (fun f (hf : f ≤ 9) W => faded_any s g ot cap p y f hp hy hf W)
 have Hno := Lib.hid (fun k (hk : s.fhi p + 1 - s.flo p ≤ k) (hh : ∀ j, j < k → canF s m p y (s.flo p + j) = false) => may_no hk hh)
 have Hyes := Lib.hid (fun k (hk : k < s.fhi p + 1 - s.flo p) (hh : canF s m p y (s.flo p + k) = true) => may_yes hk hh)
 have Hcan := Lib.hid (fun f => (show canF s m p y f = (decide (lowS s m p ≤ m.sum * left (s.old p) y f + m.sum * s.off) && decide (m.sum * left (s.old p) y f ≤ highS s m p + m.sum * s.off)) from rfl))
 have hhi := high_small g hm hp
 rw [hm.len] at hhi
 have hl4 := g.len2
 have hlow : lowS s m p ≤ highS s m p := low_high g hm.len hp
 have hs8 := hm.sum
 have hso := Nat.mul_le_mul hm.sum g.off2
 have Hle := Lib.hid (fun f => Nat.mul_le_mul hm.sum (Nat.le_trans (left_le (s.old p) y f) ho))
 clear h hi hm8 hml hm g
 generalize lowS s m p = L at *
 generalize highS s m p = H at *
 generalize m.sum = N at *
 go_enter Tryz.func84, Tryz.ntmps84
 go_wp2_with fail
 obtain ⟨wr, hwr⟩ : ∃ wr, wr = w.alloc (.cells (sheetC (ofSh s) ot cap) 28) := ⟨_, rfl⟩
 have HWr := Lib.hid (show Ext w wr by rw [hwr]; exact (Ext.refl w).alloc _)
 have HP := Lib.hid (show SheetBox wr w.heap.size (ofSh s) ot cap by rw [hwr]; exact SheetBox.new _ _ _ _)
 have c0 := HP.out 0 _ rfl
 have c1 := HP.out 1 _ rfl
 have c2 := HP.out 2 _ rfl
 have c3 := HP.out 3 _ rfl
 have c4 := HP.out 4 _ rfl
 have c5 := HP.out 5 _ rfl
 have c6 := HP.out 6 _ rfl
 have c7 := HP.out 7 _ rfl
 have c8 := HP.out 8 _ rfl
 have c9 := HP.out 9 _ rfl
 have c10 := HP.out 10 _ rfl
 have c11 := HP.out 11 _ rfl
 have c12 := HP.out 12 _ rfl
 rw [← hwr]
 clear hwr
 refine wp_region_plan (.take 0 <| .take 1 <| .take 3 <| .take 5 <| .two 2 7 (.take 4 <| .two 6 7 (.only 7 <| .only 8 <| .take 9 <| .done) (.only 6 <| .only 8 <| .take 9 <| .done)) (.only 2 <| .take 4 <| .only 6 <| .only 8 <| .take 9 <| .done)) (fun W => Ext wr W) mixed (by kernel_rfl) (by kernel_rfl) rfl (fun _ _ d _ _ h => by cases d <;> exact h) ((Ext.refl wr).drew) ?_
 repeat ((first | (refine plan_take (v := ?_) rfl rfl (fun W hW => ?_) ?_; rotate_left; (focus (have d0 := cell_ext hW c0; have d1 := cell_ext hW c1; have d2 := cell_ext hW c2; have d3 := cell_ext hW c3; have d4 := cell_ext hW c4; have d5 := cell_ext hW c5; have d6 := cell_ext hW c6; have d7 := cell_ext hW c7; have d8 := cell_ext hW c8; have d9 := cell_ext hW c9; have d10 := cell_ext hW c10; have d11 := cell_ext hW c11; have d12 := cell_ext hW c12; go_simp; first | exact rfl | (split <;> first | exact rfl | (exfalso; omega)) | done))) | refine plan_skip rfl rfl ?_); simp only [puts])
 clear c0 c1 c2 c3 c4 c5 c6 c7 c8 c9 c10 c11 c12
 refine plan_share (fun A a' w' => ∃ (q7 : Nat), a' = (((((A.put (some 15) (sumsV s m)).put (some 17) (spanV L H)).put (some 19) (.int .i64 N)).put (some 9) (.pointer (some ⟨q7, 0, none⟩))).put (some 10) (.int .i64 N)) ∧ Ext wr w' ∧ FS w' q7 L H) ?_ ?_
 ·obtain ⟨wd, hwd⟩ : ∃ wd, wd = wr.drew := ⟨_, rfl⟩
  have ed : Ext wr wd := by rw [hwd]; exact (Ext.refl wr).drew
  rw [← hwd]
  clear hwd
  refine plan_two rfl rfl ?_ ?_
  ·intro K hK
   go_wp2_with (first | (go_at_call 62; refine (R62.out _ (HWr.out.trans ed)).mono ?_; rintro e w1 ⟨rfl, h1⟩))
   have e1 := ed.trans h1
   refine hK _ _ e1 ?_
   repeat ((first | (refine plan_take (v := ?_) rfl rfl (fun W hW => ?_) ?_; rotate_left; (focus (skip; go_simp; first | exact rfl | (split <;> first | exact rfl | (exfalso; omega)) | done))) | refine plan_skip rfl rfl ?_); simp only [puts])
   refine plan_two rfl rfl ?_ ?_
   ·intro K hK
    go_wp2_with (first | (go_at_call 59; refine (R59.out _ (HWr.out.trans e1)).mono ?_; rintro e w2 ⟨rfl, rfl⟩))
    refine hK _ _ e1 ?_
    refine plan_walk rfl ?_; intro K hK
    go_wp2
    have e3 := e1.alloc (.cells #[.int .i64 0, .int .i64 0] 24)
    have n3 := ZS.new w1
    obtain ⟨w3, hw3⟩ : ∃ W, W = w1.alloc (.cells #[.int .i64 0, .int .i64 0] 24) := ⟨_, rfl⟩
    rw [← hw3] at e3 n3 ⊢
    clear hw3
    have s7 := e1.size
    refine hK _ _ e3 ?_
    refine plan_walk rfl ?_; intro K hK
    have hT := one_span n3 e3 (by omega) L H
    have HT := Lib.hid hT
    clear hT
    have a0 := n3.c0; have a1 := n3.c1; have f0 := n3.f0; have f1 := n3.f1
    go_wp2
    refine hK _ _ HT.out.1 ?_
    repeat ((first | (refine plan_take (v := ?_) rfl rfl (fun W hW => ?_) ?_; rotate_left; (focus (skip; go_simp; first | exact rfl | (split <;> first | exact rfl | (exfalso; omega)) | done))) | refine plan_skip rfl rfl ?_); simp only [puts])
    refine plan_met ?_
    exact ⟨_, rfl, HT.out.1, HT.out.2⟩
   ·intro K hK
    go_wp2
    have e5 := e1.alloc (.cells #[.int .i64 0, .int .i64 0] 24)
    have n5 := ZS.new w1
    obtain ⟨w5, hw5⟩ : ∃ W, W = w1.alloc (.cells #[.int .i64 0, .int .i64 0] 24) := ⟨_, rfl⟩
    rw [← hw5] at e5 n5 ⊢
    clear hw5
    have s7 := e1.size
    refine hK _ _ e5 ?_
    refine plan_walk rfl ?_; intro K hK
    go_wp2_with (first | (go_at_call 59; refine (R59.out _ (HWr.out.trans e5)).mono ?_; rintro e w6 ⟨rfl, rfl⟩))
    refine hK _ _ e5 ?_
    refine plan_walk rfl ?_; intro K hK
    have hT := one_span n5 e5 (by omega) L H
    have HT := Lib.hid hT
    clear hT
    have a0 := n5.c0; have a1 := n5.c1; have f0 := n5.f0; have f1 := n5.f1
    go_wp2
    refine hK _ _ HT.out.1 ?_
    repeat ((first | (refine plan_take (v := ?_) rfl rfl (fun W hW => ?_) ?_; rotate_left; (focus (skip; go_simp; first | exact rfl | (split <;> first | exact rfl | (exfalso; omega)) | done))) | refine plan_skip rfl rfl ?_); simp only [puts])
    refine plan_met ?_
    exact ⟨_, rfl, HT.out.1, HT.out.2⟩
  ·intro K hK
   go_wp2
   have e8 := ed.alloc (.cells #[.int .i64 0, .int .i64 0] 24)
   have n8 := ZS.new wd
   obtain ⟨w8, hw8⟩ : ∃ W, W = wd.alloc (.cells #[.int .i64 0, .int .i64 0] 24) := ⟨_, rfl⟩
   rw [← hw8] at e8 n8 ⊢
   clear hw8
   have s7 := ed.size
   refine hK _ _ e8 ?_
   refine plan_walk rfl ?_; intro K hK
   go_wp2_with (first | (go_at_call 62; refine (R62.out _ (HWr.out.trans e8)).mono ?_; rintro e w9 ⟨rfl, h9⟩))
   have e9 := e8.trans h9
   have z_9 := n8.ext h9
   refine hK _ _ e9 ?_
   repeat ((first | (refine plan_take (v := ?_) rfl rfl (fun W hW => ?_) ?_; rotate_left; (focus (skip; go_simp; first | exact rfl | (split <;> first | exact rfl | (exfalso; omega)) | done))) | refine plan_skip rfl rfl ?_); simp only [puts])
   refine plan_walk rfl ?_; intro K hK
   go_wp2_with (first | (go_at_call 59; refine (R59.out _ (HWr.out.trans e9)).mono ?_; rintro e w10 ⟨rfl, rfl⟩))
   refine hK _ _ e9 ?_
   refine plan_walk rfl ?_; intro K hK
   have hT := one_span z_9 e9 (by omega) L H
   have HT := Lib.hid hT
   clear hT
   have a0 := z_9.c0; have a1 := z_9.c1; have f0 := z_9.f0; have f1 := z_9.f1
   go_wp2
   refine hK _ _ HT.out.1 ?_
   repeat ((first | (refine plan_take (v := ?_) rfl rfl (fun W hW => ?_) ?_; rotate_left; (focus (skip; go_simp; first | exact rfl | (split <;> first | exact rfl | (exfalso; omega)) | done))) | refine plan_skip rfl rfl ?_); simp only [puts])
   refine plan_met ?_
   exact ⟨_, rfl, HT.out.1, HT.out.2⟩
 ·intro a' w4 ⟨q7, ha', hE, F7⟩
  subst ha'
  simp only [puts]
  have HE := Lib.hid (HWr.out.trans hE)
  have HP4 := Lib.hid (HP.out.ext hE)
  have b1 := (box_fade HP4.out hp).1
  have b2 := (box_fade HP4.out hp).2
  have HF := Lib.hid F7
  have hpI : (p : Int) < 3 := by omega
  have f0 := HF.out.c0
  have f1 := HF.out.c1
  have c0 := HP4.out 0 _ rfl
  have c1 := HP4.out 1 _ rfl
  have c2 := HP4.out 2 _ rfl
  have c3 := HP4.out 3 _ rfl
  have c4 := HP4.out 4 _ rfl
  have c5 := HP4.out 5 _ rfl
  have c6 := HP4.out 6 _ rfl
  have c7 := HP4.out 7 _ rfl
  have c8 := HP4.out 8 _ rfl
  have c9 := HP4.out 9 _ rfl
  have c10 := HP4.out 10 _ rfl
  have c11 := HP4.out 11 _ rfl
  have c12 := HP4.out 12 _ rfl
  have c11' : w4.cell? ⟨w.heap.size, 11, none⟩ = some (.int .i64 s.off) := c11
  clear HP hE F7 HWr HF hidx
  generalize hFL : s.flo p = FL at *
  generalize hFH : s.fhi p = FH at *
  have B2 := Lib.hid b2
  have F0 := Lib.hid f0
  have F1 := Lib.hid f1
  clear c0 c1 c2 c3 c4 c5 c6 c7 c8 c9 c10 c11 c12 c11'
  go_wp2_with fail
  clear b1 b2 f0 f1
  go_loopg [11, 12] (FH + 1 - FL) (fun g n b wr => ∃ k F : Nat, F = FL + k ∧ k + g = FH + 1 - FL ∧ Ext w4 wr ∧ n = .int .i64 (F : Nat) ∧ ∀ j, j < k → canF s m p y (FL + j) = false)
  case atStart => exact ⟨0, FL, by omega, by omega, Ext.refl _, rfl, fun j hj => by omega⟩
  case round =>
   obtain ⟨k, F, hF, hk, hEr, rfl, hno⟩ := hrel
   have HEr := Lib.hid hEr
   have b2 := cell_ext hEr B2.out
   have HP5 := Lib.hid (HP4.out.ext hEr)
   have c0 := HP5.out 0 _ rfl; have c1 := HP5.out 1 _ rfl; have c2 := HP5.out 2 _ rfl; have c3 := HP5.out 3 _ rfl; have c4 := HP5.out 4 _ rfl; have c5 := HP5.out 5 _ rfl; have c6 := HP5.out 6 _ rfl; have c7 := HP5.out 7 _ rfl; have c8 := HP5.out 8 _ rfl; have c9 := HP5.out 9 _ rfl; have c10 := HP5.out 10 _ rfl; have c11 := HP5.out 11 _ rfl; have c12 := HP5.out 12 _ rfl
   have f0 := cell_ext hEr F0.out
   have f1 := cell_ext hEr F1.out
   clear hEr
   have HN := Lib.hid hno
   clear hno
   by_cases hlt : k < FH + 1 - FL
   ·have hFle : F ≤ FH := by omega
    have hFi : (F : Int) ≤ (FH : Int) := by omega
    have hFe := Lib.hid hF
    have R := Lib.hid (R35.out F (by omega))
    have hc := Hcan.out F
    have hle := Hle.out F
    generalize left (s.old p) y F = B at *
    have i1 : ((N * B : Nat) : Int) = (N : Int) * (B : Int) := Int.natCast_mul N B
    have i2 : ((N * s.off : Nat) : Int) = (N : Int) * (s.off : Int) := Int.natCast_mul N s.off
    have q1 : IntKind.i64.wrap ((N : Int) * (B : Int)) = ((N * B : Nat) : Int) := by rw [← i1, IntWalk.i64_in _ (by omega)]
    have q2 : IntKind.i64.wrap ((N : Int) * (s.off : Int)) = ((N * s.off : Nat) : Int) := by rw [← i2, IntWalk.i64_in _ (by omega)]
    clear i1 i2
    generalize N * B = X at *
    generalize N * s.off = Z at *
    have q3 : IntKind.i64.wrap ((X : Int) + (Z : Int)) = (X : Int) + (Z : Int) := by rw [IntWalk.i64_in _ (by omega)]
    have q4 : IntKind.i64.wrap ((X : Int) - (Z : Int)) = (X : Int) - (Z : Int) := by rw [IntWalk.i64_in _ (by omega)]
    have q5 : IntKind.i64.wrap ((F : Int) + 1) = (F : Int) + 1 := by rw [IntWalk.i64_in _ (by omega)]
    by_cases h1 : L ≤ X + Z
    ·have h1i : (L : Int) ≤ (X : Int) + (Z : Int) := by omega
     by_cases h2 : X ≤ H + Z
     ·have h2i : (X : Int) - (Z : Int) ≤ (H : Int) := by omega
      have hc1 : canF s m p y (FL + k) = true := by rw [← hF, hc]; simp [h1, h2]
      have hY := Lib.hid (Hyes.out k hlt hc1)
      clear hc hc1 hle hF hlt h1 h2 hFle
      go_wp2_with (first | (go_at_call 35; refine (R.out _).mono ?_; rintro e w6 ⟨rfl, hE6⟩; have HE6 := Lib.hid hE6; have f0 := cell_ext hE6 f0; have f1 := cell_ext hE6 f1; have c11 : World.cell? w6 ⟨w.heap.size, 11, none⟩ = some (.int .i64 s.off) := cell_ext hE6 c11; clear hE6))
      go_ret
      exact ⟨ret_bool hY.out.symm, (HE.out.trans HEr.out).trans HE6.out⟩
     ·have h2i : ¬ (X : Int) - (Z : Int) ≤ (H : Int) := by omega
      have hc1 := Lib.hid (show canF s m p y (FL + k) = false by rw [← hF, hc]; simp [h1, h2])
      clear hc hle hF h1 h2 hFle
      go_wp2_with (first | (go_at_call 35; refine (R.out _).mono ?_; rintro e w6 ⟨rfl, hE6⟩; have HE6 := Lib.hid hE6; have f0 := cell_ext hE6 f0; have f1 := cell_ext hE6 f1; have c11 : World.cell? w6 ⟨w.heap.size, 11, none⟩ = some (.int .i64 s.off) := cell_ext hE6 c11; clear hE6))
      go_roundg (gk - 1)
      case measure => omega
      case rel => exact ⟨k + 1, F + 1, by have := hFe.out; omega, by omega, HEr.out.trans HE6.out, by go_num, fun j hj => by
       rcases Nat.lt_succ_iff_lt_or_eq.1 hj with hj | rfl
       ·exact HN.out j hj
       ·exact hc1.out⟩
    ·have h1i : ¬ (L : Int) ≤ (X : Int) + (Z : Int) := by omega
     have hc1 := Lib.hid (show canF s m p y (FL + k) = false by rw [← hF, hc]; simp [h1])
     clear hc hle hF h1 hFle
     go_wp2_with (first | (go_at_call 35; refine (R.out _).mono ?_; rintro e w6 ⟨rfl, hE6⟩; have HE6 := Lib.hid hE6; have f0 := cell_ext hE6 f0; have f1 := cell_ext hE6 f1; have c11 : World.cell? w6 ⟨w.heap.size, 11, none⟩ = some (.int .i64 s.off) := cell_ext hE6 c11; clear hE6))
     go_roundg (gk - 1)
     case measure => omega
     case rel => exact ⟨k + 1, F + 1, by have := hFe.out; omega, by omega, HEr.out.trans HE6.out, by go_num, fun j hj => by
      rcases Nat.lt_succ_iff_lt_or_eq.1 hj with hj | rfl
      ·exact HN.out j hj
      ·exact hc1.out⟩
   ·have hFi : ¬ (F : Int) ≤ (FH : Int) := by omega
    have hN := Lib.hid (Hno.out k (by omega) HN.out)
    clear hF hlt hk
    go_wp2
    go_ret
    exact ⟨ret_bool hN.out.symm, HE.out.trans HEr.out⟩

end Go.Proofs.YtjpekonfjihcoaaGreatDoor
/- Contracts: the reference's Needed and Word. No condition beyond sheets and mixtures as defined. -/
namespace Go.Proofs.YtjpekonfjihcoaaGreatDoor
open Go.RowKit Go.My Go.TintM

abbrev put6 (W : World) (q : Nat) (lo hi : Nat → Nat) : World := (World.setCell (World.setCell (World.setCell (World.setCell (World.setCell (World.setCell W ⟨q, 0, none⟩ (.int .i64 (lo 0 : Nat))) ⟨q, 1, none⟩ (.int .i64 (hi 0 : Nat))) ⟨q, 2, none⟩ (.int .i64 (lo 1 : Nat))) ⟨q, 3, none⟩ (.int .i64 (hi 1 : Nat))) ⟨q, 4, none⟩ (.int .i64 (lo 2 : Nat))) ⟨q, 5, none⟩ (.int .i64 (hi 2 : Nat)))
theorem put6_turned (W : World) (q : Nat) (lo hi : Nat → Nat) : Turned q W (put6 W q lo hi) := ((((((Turned.refl q W).set 0 _).set 1 _).set 2 _).set 3 _).set 4 _).set 5 _
structure Z6 (W : World) (q : Nat) : Prop where
 c : ∀ i, i < 6 → W.cell? ⟨q, i, none⟩ = some (.int .i64 0)
 f : ∀ i, i < 6 → W.frozen? ⟨q, i, none⟩ = false
structure F6 (W : World) (q : Nat) (lo hi : Nat → Nat) : Prop where
 c : ∀ k, k < 3 → W.cell? ⟨q, k * 2, none⟩ = some (.int .i64 (lo k : Nat)) ∧ W.cell? ⟨q, k * 2 + 1, none⟩ = some (.int .i64 (hi k : Nat))
theorem Z6.new (W : World) : Z6 (W.alloc (.cells #[.int .i64 0, .int .i64 0, .int .i64 0, .int .i64 0, .int .i64 0, .int .i64 0] 25)) W.heap.size := ⟨fun i hi => by
 match i, hi with
 | 0, _ => go_simp
 | 1, _ => go_simp
 | 2, _ => go_simp
 | 3, _ => go_simp
 | 4, _ => go_simp
 | 5, _ => go_simp, fun i hi => by go_simp⟩
section
variable {W W' : World} {q q' : Nat} {lo hi : Nat → Nat}
theorem Z6.lt (h : Z6 W q) : q < W.heap.size := World.block_lt_of_cell? _ _ (h.c 0 (by omega))
theorem Z6.ext (h : Z6 W q) (hE : Ext W W') : Z6 W' q := ⟨fun i hi => cell_ext hE (h.c i hi), fun i hi => (hE.frozen (by exact h.lt)).trans (h.f i hi)⟩
theorem Z6.turned (h : Z6 W q) (hT : Turned q' W W') (hne : ¬ q = q') : Z6 W' q := ⟨fun i hi => Turned.cell hT (by simpa using hne) (h.c i hi), fun i hi => (Turned.frozen hT (by simpa using hne) h.lt).trans (h.f i hi)⟩
theorem F6.turned (h : F6 W q lo hi) (hT : Turned q' W W') (hne : ¬ q = q') : F6 W' q lo hi := ⟨fun i hi => ⟨Turned.cell hT (by simpa using hne) (h.c i hi).1, Turned.cell hT (by simpa using hne) (h.c i hi).2⟩⟩
theorem F6.ext (h : F6 W q lo hi) (hE : Ext W W') : F6 W' q lo hi := ⟨fun i hi => ⟨cell_ext hE (h.c i hi).1, cell_ext hE (h.c i hi).2⟩⟩
theorem Z6.put (h : Z6 W q) (lo hi : Nat → Nat) : F6 (put6 W q lo hi) q lo hi := by
 have a0 := h.c 0 (by omega)
 have a1 := h.c 1 (by omega)
 have a2 := h.c 2 (by omega)
 have a3 := h.c 3 (by omega)
 have a4 := h.c 4 (by omega)
 have a5 := h.c 5 (by omega)
 refine ⟨fun k hk => ?_⟩
 match k, hk with
 | 0, _ => exact ⟨by go_simp, by go_simp⟩
 | 1, _ => exact ⟨by go_simp, by go_simp⟩
 | 2, _ => exact ⟨by go_simp, by go_simp⟩
end
def gapN (s : Sh) (m : List Nat) (p : Nat) : Int := max (hiGap s m p s.yhi) (loGap s m p s.ylo)
def needTo (s : Sh) (m : List Nat) (k : Nat) : Int := mx (([0, 1, 2].take k).map fun p => ceilD (gapN s m p) m.sum)
theorem needTo_succ (s : Sh) (m : List Nat) {k : Nat} (hk : k < 3) : needTo s m (k + 1) = max (needTo s m k) (ceilD (gapN s m k) m.sum) := by
 match k, hk with
 | 0, _ => rfl
 | 1, _ => rfl
 | 2, _ => rfl
theorem needTo_end (s : Sh) (m : List Nat) : needTo s m 3 = needed s m := rfl
theorem gap_small {s : Sh} (g : Fine s) {m : List Nat} (hm : IsMix s m) {p : Nat} (hp : p < 3) : -4000 ≤ gapN s m p ∧ gapN s m p ≤ 4000 := by
 have h1 := far_small g hm (p := p) (y := s.yhi) hp
 have h2 := far_small g hm (p := p) (y := s.ylo) hp
 have m1 := hiGap_mono (s := s) (m := m) (p := p) g.ylo
 have m2 := loGap_mono (s := s) (m := m) (p := p) g.ylo
 unfold far at h1 h2
 unfold gapN
 omega
theorem need_small {s : Sh} (g : Fine s) {m : List Nat} (hm : IsMix s m) : ∀ k, k ≤ 3 → 0 ≤ needTo s m k ∧ needTo s m k ≤ 5000 := by
 intro k
 induction k with
 | zero => intro _; exact ⟨by simp [needTo, mx], by simp [needTo, mx]⟩
 | succ k ih =>
  intro hk
  have h1 := ih (by omega)
  have h2 := ceil_small hm.pos hm.sum (gap_small g hm (p := k) (by omega))
  rw [needTo_succ s m (by omega)]
  omega

theorem rNeeded_any (s : Sh) (g : Fine s) (m : List Nat) (hm : IsMix s m) (ot : Option Addr) (cap : Nat) (om : Option Addr) (cm : Nat) (w : World) (h : TinsAt w ot (ofSh s).tins) (hi : IntsAt w om (upL m)) :
  Calls Tryz.prog 85 #[sheetV (ofSh s) ot cap, .slice om m.length cm] w fun e w' => e = .returned (.int .i64 (offOf s m)) ∧ Ext w w' := by
 have hm8 : (upL m).all in8 = true := by
  rw [List.all_eq_true]
  intro x hx
  obtain ⟨n, hn, rfl⟩ := List.mem_map.1 hx
  have := hm.le n hn
  simp [in8, inB]; omega
 have hml : (upL m).length ≤ 1000 := by rw [upL_length, hm.len]; have := g.len2; omega
 have R61 := Lib.hid (fun W => rAim_any s g ot cap W)
 have R62 := Lib.hid (fun W (hW : Ext w W) => rSums_any s g m hm ot cap om cm W (h.ext hW) (hi.ext hW))
 have R59 := Lib.hid (fun W (hW : Ext w W) => parts_any (upL m) om cm W (hi.ext hW) hml hm8)
 rw [upL_length, sum_up] at R59
 have Hgap := Lib.hid (fun k (hk : k < 3) => gap_small g hm hk)
 have Hgp := Lib.hid (fun k => (show gapN s m k = max ((highS s m k : Int) - ((m.sum * aimLo s k : Nat) : Int)) (((m.sum * aimHi s k : Nat) : Int) - (lowS s m k : Int)) from rfl))
 have Hce := Lib.hid (fun k (hk : k < 3) => ceil_small hm.pos hm.sum (gap_small g hm hk))
 have Hns := Lib.hid (fun k hk => need_small g hm k hk)
 have Hst := Lib.hid (fun k (hk : k < 3) => needTo_succ s m hk)
 have Hend := Lib.hid (show needTo s m 3 = offOf s m by rw [needTo_end, off_needed g hm.pos])
 have Hbig := Lib.hid (fun k (hk : k < 3) => (show aimLo s k ≤ 99 ∧ aimHi s k ≤ 99 ∧ highS s m k ≤ 99 * m.length * 8 ∧ lowS s m k ≤ highS s m k from ⟨Nat.le_trans (left_le _ _ _) (g.old k hk), Nat.le_trans (left_le _ _ _) (g.old k hk), high_small g hm hk, low_high g hm.len hk⟩))
 have hl4 : m.length ≤ 4 := by have := g.len2; have := hm.len; omega
 have hs8 := hm.sum
 have hs1 := hm.pos
 have H0 : needTo s m 0 = 0 := rfl
 clear h hi hm8 hml hm g
 obtain ⟨N, hN⟩ : ∃ N, N = m.sum := ⟨_, rfl⟩
 rw [← hN] at R59 hs8 hs1 Hgp Hce Hst
 clear hN
 go_enter Tryz.func85, Tryz.ntmps85
 go_wp2_with fail
 obtain ⟨wr, hwr⟩ : ∃ wr, wr = w.alloc (.cells (sheetC (ofSh s) ot cap) 28) := ⟨_, rfl⟩
 have HWr := Lib.hid (show Ext w wr by rw [hwr]; exact (Ext.refl w).alloc _)
 have HP := Lib.hid (show SheetBox wr w.heap.size (ofSh s) ot cap by rw [hwr]; exact SheetBox.new _ _ _ _)
 have c0 := HP.out 0 _ rfl
 have c1 := HP.out 1 _ rfl
 have c2 := HP.out 2 _ rfl
 have c3 := HP.out 3 _ rfl
 have c4 := HP.out 4 _ rfl
 have c5 := HP.out 5 _ rfl
 have c6 := HP.out 6 _ rfl
 have c7 := HP.out 7 _ rfl
 have c8 := HP.out 8 _ rfl
 have c9 := HP.out 9 _ rfl
 have c10 := HP.out 10 _ rfl
 have c11 := HP.out 11 _ rfl
 have c12 := HP.out 12 _ rfl
 rw [← hwr]
 clear hwr
 refine wp_region_plan (.take 0 <| .take 2 <| .take 3 <| .take 5 <| .three 1 7 8 (.three 4 7 8 (.three 6 7 8 (.two 7 8 (.only 8 <| .only 9 <| .only 10 <| .take 11 <| .done) (.only 7 <| .only 9 <| .only 10 <| .take 11 <| .done)) (.two 6 8 (.only 8 <| .only 9 <| .only 10 <| .take 11 <| .done) (.only 6 <| .only 9 <| .only 10 <| .take 11 <| .done)) (.two 6 7 (.only 7 <| .only 9 <| .only 10 <| .take 11 <| .done) (.only 6 <| .only 9 <| .only 10 <| .take 11 <| .done))) (.two 4 8 (.two 6 8 (.only 8 <| .only 9 <| .only 10 <| .take 11 <| .done) (.only 6 <| .only 9 <| .only 10 <| .take 11 <| .done)) (.only 4 <| .only 6 <| .only 9 <| .only 10 <| .take 11 <| .done)) (.two 4 7 (.two 6 7 (.only 7 <| .only 9 <| .only 10 <| .take 11 <| .done) (.only 6 <| .only 9 <| .only 10 <| .take 11 <| .done)) (.only 4 <| .only 6 <| .only 9 <| .only 10 <| .take 11 <| .done))) (.two 1 8 (.two 4 8 (.two 6 8 (.only 8 <| .only 9 <| .only 10 <| .take 11 <| .done) (.only 6 <| .only 9 <| .only 10 <| .take 11 <| .done)) (.only 4 <| .only 6 <| .only 9 <| .only 10 <| .take 11 <| .done)) (.only 1 <| .only 4 <| .only 6 <| .only 9 <| .only 10 <| .take 11 <| .done)) (.two 1 7 (.two 4 7 (.two 6 7 (.only 7 <| .only 9 <| .only 10 <| .take 11 <| .done) (.only 6 <| .only 9 <| .only 10 <| .take 11 <| .done)) (.only 4 <| .only 6 <| .only 9 <| .only 10 <| .take 11 <| .done)) (.only 1 <| .only 4 <| .only 6 <| .only 9 <| .only 10 <| .take 11 <| .done))) (fun W => Ext wr W) mixed (by kernel_rfl) (by kernel_rfl) rfl (fun _ _ d _ _ h => by cases d <;> exact h) ((Ext.refl wr).drew) ?_
 repeat ((first | (refine plan_take (v := ?_) rfl rfl (fun W hW => ?_) ?_; rotate_left; (focus (have d0 := cell_ext hW c0; have d1 := cell_ext hW c1; have d2 := cell_ext hW c2; have d3 := cell_ext hW c3; have d4 := cell_ext hW c4; have d5 := cell_ext hW c5; have d6 := cell_ext hW c6; have d7 := cell_ext hW c7; have d8 := cell_ext hW c8; have d9 := cell_ext hW c9; have d10 := cell_ext hW c10; have d11 := cell_ext hW c11; have d12 := cell_ext hW c12; go_simp; first | exact rfl | (split <;> first | exact rfl | (exfalso; omega)) | done))) | refine plan_skip rfl rfl ?_); simp only [puts])
 clear c0 c1 c2 c3 c4 c5 c6 c7 c8 c9 c10 c11 c12
 refine plan_share (fun A a' w' => ∃ (q7 q8 : Nat), a' = ((((((A.put (some 12) (aimV s)).put (some 15) (sumsV s m)).put (some 17) (.int .i64 N)).put (some 5) (.pointer (some ⟨q7, 0, none⟩))).put (some 6) (.pointer (some ⟨q8, 0, none⟩))).put (some 7) (.int .i64 N)) ∧ Ext wr w' ∧ F6 w' q7 (aimLo s) (aimHi s) ∧ F6 w' q8 (lowS s m) (highS s m)) ?_ ?_
 ·obtain ⟨wd, hwd⟩ : ∃ wd, wd = wr.drew := ⟨_, rfl⟩
  have ed : Ext wr wd := by rw [hwd]; exact (Ext.refl wr).drew
  rw [← hwd]
  clear hwd
  refine plan_three rfl rfl rfl ?_ ?_ ?_
  ·intro K hK
   go_wp2_with (first | (go_at_call 61; refine (R61.out _).mono ?_; rintro e w1 ⟨rfl, h1⟩))
   have e1 := ed.trans h1
   refine hK _ _ e1 ?_
   refine plan_three rfl rfl rfl ?_ ?_ ?_
   ·intro K hK
    go_wp2_with (first | (go_at_call 62; refine (R62.out _ (HWr.out.trans e1)).mono ?_; rintro e w2 ⟨rfl, h2⟩))
    have e2 := e1.trans h2
    refine hK _ _ e2 ?_
    refine plan_three rfl rfl rfl ?_ ?_ ?_
    ·intro K hK
     go_wp2_with (first | (go_at_call 59; refine (R59.out _ (HWr.out.trans e2)).mono ?_; rintro e w3 ⟨rfl, rfl⟩))
     refine hK _ _ e2 ?_
     refine plan_two rfl rfl ?_ ?_
     ·intro K hK
      go_wp2
      have e4 := e2.alloc (.cells #[.int .i64 0, .int .i64 0, .int .i64 0, .int .i64 0, .int .i64 0, .int .i64 0] 25)
      have n4 := Z6.new w2
      obtain ⟨w4, hw4⟩ : ∃ W, W = w2.alloc (.cells #[.int .i64 0, .int .i64 0, .int .i64 0, .int .i64 0, .int .i64 0, .int .i64 0] 25) := ⟨_, rfl⟩
      have h4 : Ext w2 w4 := by rw [hw4]; exact (Ext.refl _).alloc _
      rw [← hw4] at e4 n4 ⊢
      clear hw4
      refine hK _ _ e4 ?_
      refine plan_walk rfl ?_; intro K hK
      go_wp2
      have e5 := e4.alloc (.cells #[.int .i64 0, .int .i64 0, .int .i64 0, .int .i64 0, .int .i64 0, .int .i64 0] 25)
      have n5 := Z6.new w4
      have lt_5 := n4.lt
      obtain ⟨w5, hw5⟩ : ∃ W, W = w4.alloc (.cells #[.int .i64 0, .int .i64 0, .int .i64 0, .int .i64 0, .int .i64 0, .int .i64 0] 25) := ⟨_, rfl⟩
      have h5 : Ext w4 w5 := by rw [hw5]; exact (Ext.refl _).alloc _
      rw [← hw5] at e5 n5 ⊢
      clear hw5
      have z7_5 := n4.ext h5
      refine hK _ _ e5 ?_
      refine plan_walk rfl ?_; intro K hK
      have s7 := e2.size
      have s8 := e4.size
      have hne : ¬ w2.heap.size = w4.heap.size := by omega
      have hne2 : ¬ w4.heap.size = w2.heap.size := by omega
      have hT6 := put6_turned w5 (w2.heap.size) (aimLo s) (aimHi s)
      have e6 := ext_own e5 hT6 (by omega)
      have F7 := z7_5.put (aimLo s) (aimHi s)
      have z8n := n5.turned hT6 hne2
      have a0 := z7_5.c 0 (by omega); have f0 := z7_5.f 0 (by omega); have a1 := z7_5.c 1 (by omega); have f1 := z7_5.f 1 (by omega); have a2 := z7_5.c 2 (by omega); have f2 := z7_5.f 2 (by omega); have a3 := z7_5.c 3 (by omega); have f3 := z7_5.f 3 (by omega); have a4 := z7_5.c 4 (by omega); have f4 := z7_5.f 4 (by omega); have a5 := z7_5.c 5 (by omega); have f5 := z7_5.f 5 (by omega)
      go_wp2
      refine hK _ (put6 w5 (w2.heap.size) (aimLo s) (aimHi s)) e6 ?_
      clear a0 f0 a1 f1 a2 f2 a3 f3 a4 f4 a5 f5
      generalize put6 w5 (w2.heap.size) (aimLo s) (aimHi s) = w6 at *
      refine plan_walk rfl ?_; intro K hK
      have hT7 := put6_turned w6 (w4.heap.size) (lowS s m) (highS s m)
      have e7 := ext_own e6 hT7 (by omega)
      have F8 := z8n.put (lowS s m) (highS s m)
      have F7n := F7.turned hT7 hne
      have a0 := z8n.c 0 (by omega); have f0 := z8n.f 0 (by omega); have a1 := z8n.c 1 (by omega); have f1 := z8n.f 1 (by omega); have a2 := z8n.c 2 (by omega); have f2 := z8n.f 2 (by omega); have a3 := z8n.c 3 (by omega); have f3 := z8n.f 3 (by omega); have a4 := z8n.c 4 (by omega); have f4 := z8n.f 4 (by omega); have a5 := z8n.c 5 (by omega); have f5 := z8n.f 5 (by omega)
      go_wp2
      refine hK _ (put6 w6 (w4.heap.size) (lowS s m) (highS s m)) e7 ?_
      repeat ((first | (refine plan_take (v := ?_) rfl rfl (fun W hW => ?_) ?_; rotate_left; (focus (skip; go_simp; first | exact rfl | (split <;> first | exact rfl | (exfalso; omega)) | done))) | refine plan_skip rfl rfl ?_); simp only [puts])
      refine plan_met ?_
      exact ⟨_, _, rfl, e7, F7n, F8⟩
     ·intro K hK
      go_wp2
      have e8 := e2.alloc (.cells #[.int .i64 0, .int .i64 0, .int .i64 0, .int .i64 0, .int .i64 0, .int .i64 0] 25)
      have n8 := Z6.new w2
      obtain ⟨w8, hw8⟩ : ∃ W, W = w2.alloc (.cells #[.int .i64 0, .int .i64 0, .int .i64 0, .int .i64 0, .int .i64 0, .int .i64 0] 25) := ⟨_, rfl⟩
      have h8 : Ext w2 w8 := by rw [hw8]; exact (Ext.refl _).alloc _
      rw [← hw8] at e8 n8 ⊢
      clear hw8
      refine hK _ _ e8 ?_
      refine plan_walk rfl ?_; intro K hK
      go_wp2
      have e9 := e8.alloc (.cells #[.int .i64 0, .int .i64 0, .int .i64 0, .int .i64 0, .int .i64 0, .int .i64 0] 25)
      have n9 := Z6.new w8
      have lt_9 := n8.lt
      obtain ⟨w9, hw9⟩ : ∃ W, W = w8.alloc (.cells #[.int .i64 0, .int .i64 0, .int .i64 0, .int .i64 0, .int .i64 0, .int .i64 0] 25) := ⟨_, rfl⟩
      have h9 : Ext w8 w9 := by rw [hw9]; exact (Ext.refl _).alloc _
      rw [← hw9] at e9 n9 ⊢
      clear hw9
      have z8_9 := n8.ext h9
      refine hK _ _ e9 ?_
      refine plan_walk rfl ?_; intro K hK
      have s7 := e8.size
      have s8 := e2.size
      have hne : ¬ w8.heap.size = w2.heap.size := by omega
      have hne2 : ¬ w2.heap.size = w8.heap.size := by omega
      have hT10 := put6_turned w9 (w8.heap.size) (aimLo s) (aimHi s)
      have e10 := ext_own e9 hT10 (by omega)
      have F7 := n9.put (aimLo s) (aimHi s)
      have z8n := z8_9.turned hT10 hne2
      have a0 := n9.c 0 (by omega); have f0 := n9.f 0 (by omega); have a1 := n9.c 1 (by omega); have f1 := n9.f 1 (by omega); have a2 := n9.c 2 (by omega); have f2 := n9.f 2 (by omega); have a3 := n9.c 3 (by omega); have f3 := n9.f 3 (by omega); have a4 := n9.c 4 (by omega); have f4 := n9.f 4 (by omega); have a5 := n9.c 5 (by omega); have f5 := n9.f 5 (by omega)
      go_wp2
      refine hK _ (put6 w9 (w8.heap.size) (aimLo s) (aimHi s)) e10 ?_
      clear a0 f0 a1 f1 a2 f2 a3 f3 a4 f4 a5 f5
      generalize put6 w9 (w8.heap.size) (aimLo s) (aimHi s) = w10 at *
      refine plan_walk rfl ?_; intro K hK
      have hT11 := put6_turned w10 (w2.heap.size) (lowS s m) (highS s m)
      have e11 := ext_own e10 hT11 (by omega)
      have F8 := z8n.put (lowS s m) (highS s m)
      have F7n := F7.turned hT11 hne
      have a0 := z8n.c 0 (by omega); have f0 := z8n.f 0 (by omega); have a1 := z8n.c 1 (by omega); have f1 := z8n.f 1 (by omega); have a2 := z8n.c 2 (by omega); have f2 := z8n.f 2 (by omega); have a3 := z8n.c 3 (by omega); have f3 := z8n.f 3 (by omega); have a4 := z8n.c 4 (by omega); have f4 := z8n.f 4 (by omega); have a5 := z8n.c 5 (by omega); have f5 := z8n.f 5 (by omega)
      go_wp2
      refine hK _ (put6 w10 (w2.heap.size) (lowS s m) (highS s m)) e11 ?_
      repeat ((first | (refine plan_take (v := ?_) rfl rfl (fun W hW => ?_) ?_; rotate_left; (focus (skip; go_simp; first | exact rfl | (split <;> first | exact rfl | (exfalso; omega)) | done))) | refine plan_skip rfl rfl ?_); simp only [puts])
      refine plan_met ?_
      exact ⟨_, _, rfl, e11, F7n, F8⟩
    ·intro K hK
     go_wp2
     have e12 := e2.alloc (.cells #[.int .i64 0, .int .i64 0, .int .i64 0, .int .i64 0, .int .i64 0, .int .i64 0] 25)
     have n12 := Z6.new w2
     obtain ⟨w12, hw12⟩ : ∃ W, W = w2.alloc (.cells #[.int .i64 0, .int .i64 0, .int .i64 0, .int .i64 0, .int .i64 0, .int .i64 0] 25) := ⟨_, rfl⟩
     have h12 : Ext w2 w12 := by rw [hw12]; exact (Ext.refl _).alloc _
     rw [← hw12] at e12 n12 ⊢
     clear hw12
     refine hK _ _ e12 ?_
     refine plan_two rfl rfl ?_ ?_
     ·intro K hK
      go_wp2_with (first | (go_at_call 59; refine (R59.out _ (HWr.out.trans e12)).mono ?_; rintro e w13 ⟨rfl, rfl⟩))
      refine hK _ _ e12 ?_
      refine plan_walk rfl ?_; intro K hK
      go_wp2
      have e14 := e12.alloc (.cells #[.int .i64 0, .int .i64 0, .int .i64 0, .int .i64 0, .int .i64 0, .int .i64 0] 25)
      have n14 := Z6.new w12
      have lt_14 := n12.lt
      obtain ⟨w14, hw14⟩ : ∃ W, W = w12.alloc (.cells #[.int .i64 0, .int .i64 0, .int .i64 0, .int .i64 0, .int .i64 0, .int .i64 0] 25) := ⟨_, rfl⟩
      have h14 : Ext w12 w14 := by rw [hw14]; exact (Ext.refl _).alloc _
      rw [← hw14] at e14 n14 ⊢
      clear hw14
      have z7_14 := n12.ext h14
      refine hK _ _ e14 ?_
      refine plan_walk rfl ?_; intro K hK
      have s7 := e2.size
      have s8 := e12.size
      have hne : ¬ w2.heap.size = w12.heap.size := by omega
      have hne2 : ¬ w12.heap.size = w2.heap.size := by omega
      have hT15 := put6_turned w14 (w2.heap.size) (aimLo s) (aimHi s)
      have e15 := ext_own e14 hT15 (by omega)
      have F7 := z7_14.put (aimLo s) (aimHi s)
      have z8n := n14.turned hT15 hne2
      have a0 := z7_14.c 0 (by omega); have f0 := z7_14.f 0 (by omega); have a1 := z7_14.c 1 (by omega); have f1 := z7_14.f 1 (by omega); have a2 := z7_14.c 2 (by omega); have f2 := z7_14.f 2 (by omega); have a3 := z7_14.c 3 (by omega); have f3 := z7_14.f 3 (by omega); have a4 := z7_14.c 4 (by omega); have f4 := z7_14.f 4 (by omega); have a5 := z7_14.c 5 (by omega); have f5 := z7_14.f 5 (by omega)
      go_wp2
      refine hK _ (put6 w14 (w2.heap.size) (aimLo s) (aimHi s)) e15 ?_
      clear a0 f0 a1 f1 a2 f2 a3 f3 a4 f4 a5 f5
      generalize put6 w14 (w2.heap.size) (aimLo s) (aimHi s) = w15 at *
      refine plan_walk rfl ?_; intro K hK
      have hT16 := put6_turned w15 (w12.heap.size) (lowS s m) (highS s m)
      have e16 := ext_own e15 hT16 (by omega)
      have F8 := z8n.put (lowS s m) (highS s m)
      have F7n := F7.turned hT16 hne
      have a0 := z8n.c 0 (by omega); have f0 := z8n.f 0 (by omega); have a1 := z8n.c 1 (by omega); have f1 := z8n.f 1 (by omega); have a2 := z8n.c 2 (by omega); have f2 := z8n.f 2 (by omega); have a3 := z8n.c 3 (by omega); have f3 := z8n.f 3 (by omega); have a4 := z8n.c 4 (by omega); have f4 := z8n.f 4 (by omega); have a5 := z8n.c 5 (by omega); have f5 := z8n.f 5 (by omega)
      go_wp2
      refine hK _ (put6 w15 (w12.heap.size) (lowS s m) (highS s m)) e16 ?_
      repeat ((first | (refine plan_take (v := ?_) rfl rfl (fun W hW => ?_) ?_; rotate_left; (focus (skip; go_simp; first | exact rfl | (split <;> first | exact rfl | (exfalso; omega)) | done))) | refine plan_skip rfl rfl ?_); simp only [puts])
      refine plan_met ?_
      exact ⟨_, _, rfl, e16, F7n, F8⟩
     ·intro K hK
      go_wp2
      have e17 := e12.alloc (.cells #[.int .i64 0, .int .i64 0, .int .i64 0, .int .i64 0, .int .i64 0, .int .i64 0] 25)
      have n17 := Z6.new w12
      have lt_17 := n12.lt
      obtain ⟨w17, hw17⟩ : ∃ W, W = w12.alloc (.cells #[.int .i64 0, .int .i64 0, .int .i64 0, .int .i64 0, .int .i64 0, .int .i64 0] 25) := ⟨_, rfl⟩
      have h17 : Ext w12 w17 := by rw [hw17]; exact (Ext.refl _).alloc _
      rw [← hw17] at e17 n17 ⊢
      clear hw17
      have z7_17 := n12.ext h17
      refine hK _ _ e17 ?_
      refine plan_walk rfl ?_; intro K hK
      go_wp2_with (first | (go_at_call 59; refine (R59.out _ (HWr.out.trans e17)).mono ?_; rintro e w18 ⟨rfl, rfl⟩))
      refine hK _ _ e17 ?_
      refine plan_walk rfl ?_; intro K hK
      have s7 := e2.size
      have s8 := e12.size
      have hne : ¬ w2.heap.size = w12.heap.size := by omega
      have hne2 : ¬ w12.heap.size = w2.heap.size := by omega
      have hT19 := put6_turned w17 (w2.heap.size) (aimLo s) (aimHi s)
      have e19 := ext_own e17 hT19 (by omega)
      have F7 := z7_17.put (aimLo s) (aimHi s)
      have z8n := n17.turned hT19 hne2
      have a0 := z7_17.c 0 (by omega); have f0 := z7_17.f 0 (by omega); have a1 := z7_17.c 1 (by omega); have f1 := z7_17.f 1 (by omega); have a2 := z7_17.c 2 (by omega); have f2 := z7_17.f 2 (by omega); have a3 := z7_17.c 3 (by omega); have f3 := z7_17.f 3 (by omega); have a4 := z7_17.c 4 (by omega); have f4 := z7_17.f 4 (by omega); have a5 := z7_17.c 5 (by omega); have f5 := z7_17.f 5 (by omega)
      go_wp2
      refine hK _ (put6 w17 (w2.heap.size) (aimLo s) (aimHi s)) e19 ?_
      clear a0 f0 a1 f1 a2 f2 a3 f3 a4 f4 a5 f5
      generalize put6 w17 (w2.heap.size) (aimLo s) (aimHi s) = w19 at *
      refine plan_walk rfl ?_; intro K hK
      have hT20 := put6_turned w19 (w12.heap.size) (lowS s m) (highS s m)
      have e20 := ext_own e19 hT20 (by omega)
      have F8 := z8n.put (lowS s m) (highS s m)
      have F7n := F7.turned hT20 hne
      have a0 := z8n.c 0 (by omega); have f0 := z8n.f 0 (by omega); have a1 := z8n.c 1 (by omega); have f1 := z8n.f 1 (by omega); have a2 := z8n.c 2 (by omega); have f2 := z8n.f 2 (by omega); have a3 := z8n.c 3 (by omega); have f3 := z8n.f 3 (by omega); have a4 := z8n.c 4 (by omega); have f4 := z8n.f 4 (by omega); have a5 := z8n.c 5 (by omega); have f5 := z8n.f 5 (by omega)
      go_wp2
      refine hK _ (put6 w19 (w12.heap.size) (lowS s m) (highS s m)) e20 ?_
      repeat ((first | (refine plan_take (v := ?_) rfl rfl (fun W hW => ?_) ?_; rotate_left; (focus (skip; go_simp; first | exact rfl | (split <;> first | exact rfl | (exfalso; omega)) | done))) | refine plan_skip rfl rfl ?_); simp only [puts])
      refine plan_met ?_
      exact ⟨_, _, rfl, e20, F7n, F8⟩
    ·intro K hK
     go_wp2
     have e21 := e2.alloc (.cells #[.int .i64 0, .int .i64 0, .int .i64 0, .int .i64 0, .int .i64 0, .int .i64 0] 25)
     have n21 := Z6.new w2
     obtain ⟨w21, hw21⟩ : ∃ W, W = w2.alloc (.cells #[.int .i64 0, .int .i64 0, .int .i64 0, .int .i64 0, .int .i64 0, .int .i64 0] 25) := ⟨_, rfl⟩
     have h21 : Ext w2 w21 := by rw [hw21]; exact (Ext.refl _).alloc _
     rw [← hw21] at e21 n21 ⊢
     clear hw21
     refine hK _ _ e21 ?_
     refine plan_two rfl rfl ?_ ?_
     ·intro K hK
      go_wp2_with (first | (go_at_call 59; refine (R59.out _ (HWr.out.trans e21)).mono ?_; rintro e w22 ⟨rfl, rfl⟩))
      refine hK _ _ e21 ?_
      refine plan_walk rfl ?_; intro K hK
      go_wp2
      have e23 := e21.alloc (.cells #[.int .i64 0, .int .i64 0, .int .i64 0, .int .i64 0, .int .i64 0, .int .i64 0] 25)
      have n23 := Z6.new w21
      have lt_23 := n21.lt
      obtain ⟨w23, hw23⟩ : ∃ W, W = w21.alloc (.cells #[.int .i64 0, .int .i64 0, .int .i64 0, .int .i64 0, .int .i64 0, .int .i64 0] 25) := ⟨_, rfl⟩
      have h23 : Ext w21 w23 := by rw [hw23]; exact (Ext.refl _).alloc _
      rw [← hw23] at e23 n23 ⊢
      clear hw23
      have z8_23 := n21.ext h23
      refine hK _ _ e23 ?_
      refine plan_walk rfl ?_; intro K hK
      have s7 := e21.size
      have s8 := e2.size
      have hne : ¬ w21.heap.size = w2.heap.size := by omega
      have hne2 : ¬ w2.heap.size = w21.heap.size := by omega
      have hT24 := put6_turned w23 (w21.heap.size) (aimLo s) (aimHi s)
      have e24 := ext_own e23 hT24 (by omega)
      have F7 := n23.put (aimLo s) (aimHi s)
      have z8n := z8_23.turned hT24 hne2
      have a0 := n23.c 0 (by omega); have f0 := n23.f 0 (by omega); have a1 := n23.c 1 (by omega); have f1 := n23.f 1 (by omega); have a2 := n23.c 2 (by omega); have f2 := n23.f 2 (by omega); have a3 := n23.c 3 (by omega); have f3 := n23.f 3 (by omega); have a4 := n23.c 4 (by omega); have f4 := n23.f 4 (by omega); have a5 := n23.c 5 (by omega); have f5 := n23.f 5 (by omega)
      go_wp2
      refine hK _ (put6 w23 (w21.heap.size) (aimLo s) (aimHi s)) e24 ?_
      clear a0 f0 a1 f1 a2 f2 a3 f3 a4 f4 a5 f5
      generalize put6 w23 (w21.heap.size) (aimLo s) (aimHi s) = w24 at *
      refine plan_walk rfl ?_; intro K hK
      have hT25 := put6_turned w24 (w2.heap.size) (lowS s m) (highS s m)
      have e25 := ext_own e24 hT25 (by omega)
      have F8 := z8n.put (lowS s m) (highS s m)
      have F7n := F7.turned hT25 hne
      have a0 := z8n.c 0 (by omega); have f0 := z8n.f 0 (by omega); have a1 := z8n.c 1 (by omega); have f1 := z8n.f 1 (by omega); have a2 := z8n.c 2 (by omega); have f2 := z8n.f 2 (by omega); have a3 := z8n.c 3 (by omega); have f3 := z8n.f 3 (by omega); have a4 := z8n.c 4 (by omega); have f4 := z8n.f 4 (by omega); have a5 := z8n.c 5 (by omega); have f5 := z8n.f 5 (by omega)
      go_wp2
      refine hK _ (put6 w24 (w2.heap.size) (lowS s m) (highS s m)) e25 ?_
      repeat ((first | (refine plan_take (v := ?_) rfl rfl (fun W hW => ?_) ?_; rotate_left; (focus (skip; go_simp; first | exact rfl | (split <;> first | exact rfl | (exfalso; omega)) | done))) | refine plan_skip rfl rfl ?_); simp only [puts])
      refine plan_met ?_
      exact ⟨_, _, rfl, e25, F7n, F8⟩
     ·intro K hK
      go_wp2
      have e26 := e21.alloc (.cells #[.int .i64 0, .int .i64 0, .int .i64 0, .int .i64 0, .int .i64 0, .int .i64 0] 25)
      have n26 := Z6.new w21
      have lt_26 := n21.lt
      obtain ⟨w26, hw26⟩ : ∃ W, W = w21.alloc (.cells #[.int .i64 0, .int .i64 0, .int .i64 0, .int .i64 0, .int .i64 0, .int .i64 0] 25) := ⟨_, rfl⟩
      have h26 : Ext w21 w26 := by rw [hw26]; exact (Ext.refl _).alloc _
      rw [← hw26] at e26 n26 ⊢
      clear hw26
      have z8_26 := n21.ext h26
      refine hK _ _ e26 ?_
      refine plan_walk rfl ?_; intro K hK
      go_wp2_with (first | (go_at_call 59; refine (R59.out _ (HWr.out.trans e26)).mono ?_; rintro e w27 ⟨rfl, rfl⟩))
      refine hK _ _ e26 ?_
      refine plan_walk rfl ?_; intro K hK
      have s7 := e21.size
      have s8 := e2.size
      have hne : ¬ w21.heap.size = w2.heap.size := by omega
      have hne2 : ¬ w2.heap.size = w21.heap.size := by omega
      have hT28 := put6_turned w26 (w21.heap.size) (aimLo s) (aimHi s)
      have e28 := ext_own e26 hT28 (by omega)
      have F7 := n26.put (aimLo s) (aimHi s)
      have z8n := z8_26.turned hT28 hne2
      have a0 := n26.c 0 (by omega); have f0 := n26.f 0 (by omega); have a1 := n26.c 1 (by omega); have f1 := n26.f 1 (by omega); have a2 := n26.c 2 (by omega); have f2 := n26.f 2 (by omega); have a3 := n26.c 3 (by omega); have f3 := n26.f 3 (by omega); have a4 := n26.c 4 (by omega); have f4 := n26.f 4 (by omega); have a5 := n26.c 5 (by omega); have f5 := n26.f 5 (by omega)
      go_wp2
      refine hK _ (put6 w26 (w21.heap.size) (aimLo s) (aimHi s)) e28 ?_
      clear a0 f0 a1 f1 a2 f2 a3 f3 a4 f4 a5 f5
      generalize put6 w26 (w21.heap.size) (aimLo s) (aimHi s) = w28 at *
      refine plan_walk rfl ?_; intro K hK
      have hT29 := put6_turned w28 (w2.heap.size) (lowS s m) (highS s m)
      have e29 := ext_own e28 hT29 (by omega)
      have F8 := z8n.put (lowS s m) (highS s m)
      have F7n := F7.turned hT29 hne
      have a0 := z8n.c 0 (by omega); have f0 := z8n.f 0 (by omega); have a1 := z8n.c 1 (by omega); have f1 := z8n.f 1 (by omega); have a2 := z8n.c 2 (by omega); have f2 := z8n.f 2 (by omega); have a3 := z8n.c 3 (by omega); have f3 := z8n.f 3 (by omega); have a4 := z8n.c 4 (by omega); have f4 := z8n.f 4 (by omega); have a5 := z8n.c 5 (by omega); have f5 := z8n.f 5 (by omega)
      go_wp2
      refine hK _ (put6 w28 (w2.heap.size) (lowS s m) (highS s m)) e29 ?_
      repeat ((first | (refine plan_take (v := ?_) rfl rfl (fun W hW => ?_) ?_; rotate_left; (focus (skip; go_simp; first | exact rfl | (split <;> first | exact rfl | (exfalso; omega)) | done))) | refine plan_skip rfl rfl ?_); simp only [puts])
      refine plan_met ?_
      exact ⟨_, _, rfl, e29, F7n, F8⟩
   ·intro K hK
    go_wp2
    have e30 := e1.alloc (.cells #[.int .i64 0, .int .i64 0, .int .i64 0, .int .i64 0, .int .i64 0, .int .i64 0] 25)
    have n30 := Z6.new w1
    obtain ⟨w30, hw30⟩ : ∃ W, W = w1.alloc (.cells #[.int .i64 0, .int .i64 0, .int .i64 0, .int .i64 0, .int .i64 0, .int .i64 0] 25) := ⟨_, rfl⟩
    have h30 : Ext w1 w30 := by rw [hw30]; exact (Ext.refl _).alloc _
    rw [← hw30] at e30 n30 ⊢
    clear hw30
    refine hK _ _ e30 ?_
    refine plan_two rfl rfl ?_ ?_
    ·intro K hK
     go_wp2_with (first | (go_at_call 62; refine (R62.out _ (HWr.out.trans e30)).mono ?_; rintro e w31 ⟨rfl, h31⟩))
     have e31 := e30.trans h31
     have z7_31 := n30.ext h31
     refine hK _ _ e31 ?_
     refine plan_two rfl rfl ?_ ?_
     ·intro K hK
      go_wp2_with (first | (go_at_call 59; refine (R59.out _ (HWr.out.trans e31)).mono ?_; rintro e w32 ⟨rfl, rfl⟩))
      refine hK _ _ e31 ?_
      refine plan_walk rfl ?_; intro K hK
      go_wp2
      have e33 := e31.alloc (.cells #[.int .i64 0, .int .i64 0, .int .i64 0, .int .i64 0, .int .i64 0, .int .i64 0] 25)
      have n33 := Z6.new w31
      have lt_33 := z7_31.lt
      obtain ⟨w33, hw33⟩ : ∃ W, W = w31.alloc (.cells #[.int .i64 0, .int .i64 0, .int .i64 0, .int .i64 0, .int .i64 0, .int .i64 0] 25) := ⟨_, rfl⟩
      have h33 : Ext w31 w33 := by rw [hw33]; exact (Ext.refl _).alloc _
      rw [← hw33] at e33 n33 ⊢
      clear hw33
      have z7_33 := z7_31.ext h33
      refine hK _ _ e33 ?_
      refine plan_walk rfl ?_; intro K hK
      have s7 := e1.size
      have s8 := e31.size
      have hne : ¬ w1.heap.size = w31.heap.size := by omega
      have hne2 : ¬ w31.heap.size = w1.heap.size := by omega
      have hT34 := put6_turned w33 (w1.heap.size) (aimLo s) (aimHi s)
      have e34 := ext_own e33 hT34 (by omega)
      have F7 := z7_33.put (aimLo s) (aimHi s)
      have z8n := n33.turned hT34 hne2
      have a0 := z7_33.c 0 (by omega); have f0 := z7_33.f 0 (by omega); have a1 := z7_33.c 1 (by omega); have f1 := z7_33.f 1 (by omega); have a2 := z7_33.c 2 (by omega); have f2 := z7_33.f 2 (by omega); have a3 := z7_33.c 3 (by omega); have f3 := z7_33.f 3 (by omega); have a4 := z7_33.c 4 (by omega); have f4 := z7_33.f 4 (by omega); have a5 := z7_33.c 5 (by omega); have f5 := z7_33.f 5 (by omega)
      go_wp2
      refine hK _ (put6 w33 (w1.heap.size) (aimLo s) (aimHi s)) e34 ?_
      clear a0 f0 a1 f1 a2 f2 a3 f3 a4 f4 a5 f5
      generalize put6 w33 (w1.heap.size) (aimLo s) (aimHi s) = w34 at *
      refine plan_walk rfl ?_; intro K hK
      have hT35 := put6_turned w34 (w31.heap.size) (lowS s m) (highS s m)
      have e35 := ext_own e34 hT35 (by omega)
      have F8 := z8n.put (lowS s m) (highS s m)
      have F7n := F7.turned hT35 hne
      have a0 := z8n.c 0 (by omega); have f0 := z8n.f 0 (by omega); have a1 := z8n.c 1 (by omega); have f1 := z8n.f 1 (by omega); have a2 := z8n.c 2 (by omega); have f2 := z8n.f 2 (by omega); have a3 := z8n.c 3 (by omega); have f3 := z8n.f 3 (by omega); have a4 := z8n.c 4 (by omega); have f4 := z8n.f 4 (by omega); have a5 := z8n.c 5 (by omega); have f5 := z8n.f 5 (by omega)
      go_wp2
      refine hK _ (put6 w34 (w31.heap.size) (lowS s m) (highS s m)) e35 ?_
      repeat ((first | (refine plan_take (v := ?_) rfl rfl (fun W hW => ?_) ?_; rotate_left; (focus (skip; go_simp; first | exact rfl | (split <;> first | exact rfl | (exfalso; omega)) | done))) | refine plan_skip rfl rfl ?_); simp only [puts])
      refine plan_met ?_
      exact ⟨_, _, rfl, e35, F7n, F8⟩
     ·intro K hK
      go_wp2
      have e36 := e31.alloc (.cells #[.int .i64 0, .int .i64 0, .int .i64 0, .int .i64 0, .int .i64 0, .int .i64 0] 25)
      have n36 := Z6.new w31
      have lt_36 := z7_31.lt
      obtain ⟨w36, hw36⟩ : ∃ W, W = w31.alloc (.cells #[.int .i64 0, .int .i64 0, .int .i64 0, .int .i64 0, .int .i64 0, .int .i64 0] 25) := ⟨_, rfl⟩
      have h36 : Ext w31 w36 := by rw [hw36]; exact (Ext.refl _).alloc _
      rw [← hw36] at e36 n36 ⊢
      clear hw36
      have z7_36 := z7_31.ext h36
      refine hK _ _ e36 ?_
      refine plan_walk rfl ?_; intro K hK
      go_wp2_with (first | (go_at_call 59; refine (R59.out _ (HWr.out.trans e36)).mono ?_; rintro e w37 ⟨rfl, rfl⟩))
      refine hK _ _ e36 ?_
      refine plan_walk rfl ?_; intro K hK
      have s7 := e1.size
      have s8 := e31.size
      have hne : ¬ w1.heap.size = w31.heap.size := by omega
      have hne2 : ¬ w31.heap.size = w1.heap.size := by omega
      have hT38 := put6_turned w36 (w1.heap.size) (aimLo s) (aimHi s)
      have e38 := ext_own e36 hT38 (by omega)
      have F7 := z7_36.put (aimLo s) (aimHi s)
      have z8n := n36.turned hT38 hne2
      have a0 := z7_36.c 0 (by omega); have f0 := z7_36.f 0 (by omega); have a1 := z7_36.c 1 (by omega); have f1 := z7_36.f 1 (by omega); have a2 := z7_36.c 2 (by omega); have f2 := z7_36.f 2 (by omega); have a3 := z7_36.c 3 (by omega); have f3 := z7_36.f 3 (by omega); have a4 := z7_36.c 4 (by omega); have f4 := z7_36.f 4 (by omega); have a5 := z7_36.c 5 (by omega); have f5 := z7_36.f 5 (by omega)
      go_wp2
      refine hK _ (put6 w36 (w1.heap.size) (aimLo s) (aimHi s)) e38 ?_
      clear a0 f0 a1 f1 a2 f2 a3 f3 a4 f4 a5 f5
      generalize put6 w36 (w1.heap.size) (aimLo s) (aimHi s) = w38 at *
      refine plan_walk rfl ?_; intro K hK
      have hT39 := put6_turned w38 (w31.heap.size) (lowS s m) (highS s m)
      have e39 := ext_own e38 hT39 (by omega)
      have F8 := z8n.put (lowS s m) (highS s m)
      have F7n := F7.turned hT39 hne
      have a0 := z8n.c 0 (by omega); have f0 := z8n.f 0 (by omega); have a1 := z8n.c 1 (by omega); have f1 := z8n.f 1 (by omega); have a2 := z8n.c 2 (by omega); have f2 := z8n.f 2 (by omega); have a3 := z8n.c 3 (by omega); have f3 := z8n.f 3 (by omega); have a4 := z8n.c 4 (by omega); have f4 := z8n.f 4 (by omega); have a5 := z8n.c 5 (by omega); have f5 := z8n.f 5 (by omega)
      go_wp2
      refine hK _ (put6 w38 (w31.heap.size) (lowS s m) (highS s m)) e39 ?_
      repeat ((first | (refine plan_take (v := ?_) rfl rfl (fun W hW => ?_) ?_; rotate_left; (focus (skip; go_simp; first | exact rfl | (split <;> first | exact rfl | (exfalso; omega)) | done))) | refine plan_skip rfl rfl ?_); simp only [puts])
      refine plan_met ?_
      exact ⟨_, _, rfl, e39, F7n, F8⟩
    ·intro K hK
     go_wp2
     have e40 := e30.alloc (.cells #[.int .i64 0, .int .i64 0, .int .i64 0, .int .i64 0, .int .i64 0, .int .i64 0] 25)
     have n40 := Z6.new w30
     have lt_40 := n30.lt
     obtain ⟨w40, hw40⟩ : ∃ W, W = w30.alloc (.cells #[.int .i64 0, .int .i64 0, .int .i64 0, .int .i64 0, .int .i64 0, .int .i64 0] 25) := ⟨_, rfl⟩
     have h40 : Ext w30 w40 := by rw [hw40]; exact (Ext.refl _).alloc _
     rw [← hw40] at e40 n40 ⊢
     clear hw40
     have z7_40 := n30.ext h40
     refine hK _ _ e40 ?_
     refine plan_walk rfl ?_; intro K hK
     go_wp2_with (first | (go_at_call 62; refine (R62.out _ (HWr.out.trans e40)).mono ?_; rintro e w41 ⟨rfl, h41⟩))
     have e41 := e40.trans h41
     have z7_41 := z7_40.ext h41
     have z8_41 := n40.ext h41
     refine hK _ _ e41 ?_
     refine plan_walk rfl ?_; intro K hK
     go_wp2_with (first | (go_at_call 59; refine (R59.out _ (HWr.out.trans e41)).mono ?_; rintro e w42 ⟨rfl, rfl⟩))
     refine hK _ _ e41 ?_
     refine plan_walk rfl ?_; intro K hK
     have s7 := e1.size
     have s8 := e30.size
     have hne : ¬ w1.heap.size = w30.heap.size := by omega
     have hne2 : ¬ w30.heap.size = w1.heap.size := by omega
     have hT43 := put6_turned w41 (w1.heap.size) (aimLo s) (aimHi s)
     have e43 := ext_own e41 hT43 (by omega)
     have F7 := z7_41.put (aimLo s) (aimHi s)
     have z8n := z8_41.turned hT43 hne2
     have a0 := z7_41.c 0 (by omega); have f0 := z7_41.f 0 (by omega); have a1 := z7_41.c 1 (by omega); have f1 := z7_41.f 1 (by omega); have a2 := z7_41.c 2 (by omega); have f2 := z7_41.f 2 (by omega); have a3 := z7_41.c 3 (by omega); have f3 := z7_41.f 3 (by omega); have a4 := z7_41.c 4 (by omega); have f4 := z7_41.f 4 (by omega); have a5 := z7_41.c 5 (by omega); have f5 := z7_41.f 5 (by omega)
     go_wp2
     refine hK _ (put6 w41 (w1.heap.size) (aimLo s) (aimHi s)) e43 ?_
     clear a0 f0 a1 f1 a2 f2 a3 f3 a4 f4 a5 f5
     generalize put6 w41 (w1.heap.size) (aimLo s) (aimHi s) = w43 at *
     refine plan_walk rfl ?_; intro K hK
     have hT44 := put6_turned w43 (w30.heap.size) (lowS s m) (highS s m)
     have e44 := ext_own e43 hT44 (by omega)
     have F8 := z8n.put (lowS s m) (highS s m)
     have F7n := F7.turned hT44 hne
     have a0 := z8n.c 0 (by omega); have f0 := z8n.f 0 (by omega); have a1 := z8n.c 1 (by omega); have f1 := z8n.f 1 (by omega); have a2 := z8n.c 2 (by omega); have f2 := z8n.f 2 (by omega); have a3 := z8n.c 3 (by omega); have f3 := z8n.f 3 (by omega); have a4 := z8n.c 4 (by omega); have f4 := z8n.f 4 (by omega); have a5 := z8n.c 5 (by omega); have f5 := z8n.f 5 (by omega)
     go_wp2
     refine hK _ (put6 w43 (w30.heap.size) (lowS s m) (highS s m)) e44 ?_
     repeat ((first | (refine plan_take (v := ?_) rfl rfl (fun W hW => ?_) ?_; rotate_left; (focus (skip; go_simp; first | exact rfl | (split <;> first | exact rfl | (exfalso; omega)) | done))) | refine plan_skip rfl rfl ?_); simp only [puts])
     refine plan_met ?_
     exact ⟨_, _, rfl, e44, F7n, F8⟩
   ·intro K hK
    go_wp2
    have e45 := e1.alloc (.cells #[.int .i64 0, .int .i64 0, .int .i64 0, .int .i64 0, .int .i64 0, .int .i64 0] 25)
    have n45 := Z6.new w1
    obtain ⟨w45, hw45⟩ : ∃ W, W = w1.alloc (.cells #[.int .i64 0, .int .i64 0, .int .i64 0, .int .i64 0, .int .i64 0, .int .i64 0] 25) := ⟨_, rfl⟩
    have h45 : Ext w1 w45 := by rw [hw45]; exact (Ext.refl _).alloc _
    rw [← hw45] at e45 n45 ⊢
    clear hw45
    refine hK _ _ e45 ?_
    refine plan_two rfl rfl ?_ ?_
    ·intro K hK
     go_wp2_with (first | (go_at_call 62; refine (R62.out _ (HWr.out.trans e45)).mono ?_; rintro e w46 ⟨rfl, h46⟩))
     have e46 := e45.trans h46
     have z8_46 := n45.ext h46
     refine hK _ _ e46 ?_
     refine plan_two rfl rfl ?_ ?_
     ·intro K hK
      go_wp2_with (first | (go_at_call 59; refine (R59.out _ (HWr.out.trans e46)).mono ?_; rintro e w47 ⟨rfl, rfl⟩))
      refine hK _ _ e46 ?_
      refine plan_walk rfl ?_; intro K hK
      go_wp2
      have e48 := e46.alloc (.cells #[.int .i64 0, .int .i64 0, .int .i64 0, .int .i64 0, .int .i64 0, .int .i64 0] 25)
      have n48 := Z6.new w46
      have lt_48 := z8_46.lt
      obtain ⟨w48, hw48⟩ : ∃ W, W = w46.alloc (.cells #[.int .i64 0, .int .i64 0, .int .i64 0, .int .i64 0, .int .i64 0, .int .i64 0] 25) := ⟨_, rfl⟩
      have h48 : Ext w46 w48 := by rw [hw48]; exact (Ext.refl _).alloc _
      rw [← hw48] at e48 n48 ⊢
      clear hw48
      have z8_48 := z8_46.ext h48
      refine hK _ _ e48 ?_
      refine plan_walk rfl ?_; intro K hK
      have s7 := e46.size
      have s8 := e1.size
      have hne : ¬ w46.heap.size = w1.heap.size := by omega
      have hne2 : ¬ w1.heap.size = w46.heap.size := by omega
      have hT49 := put6_turned w48 (w46.heap.size) (aimLo s) (aimHi s)
      have e49 := ext_own e48 hT49 (by omega)
      have F7 := n48.put (aimLo s) (aimHi s)
      have z8n := z8_48.turned hT49 hne2
      have a0 := n48.c 0 (by omega); have f0 := n48.f 0 (by omega); have a1 := n48.c 1 (by omega); have f1 := n48.f 1 (by omega); have a2 := n48.c 2 (by omega); have f2 := n48.f 2 (by omega); have a3 := n48.c 3 (by omega); have f3 := n48.f 3 (by omega); have a4 := n48.c 4 (by omega); have f4 := n48.f 4 (by omega); have a5 := n48.c 5 (by omega); have f5 := n48.f 5 (by omega)
      go_wp2
      refine hK _ (put6 w48 (w46.heap.size) (aimLo s) (aimHi s)) e49 ?_
      clear a0 f0 a1 f1 a2 f2 a3 f3 a4 f4 a5 f5
      generalize put6 w48 (w46.heap.size) (aimLo s) (aimHi s) = w49 at *
      refine plan_walk rfl ?_; intro K hK
      have hT50 := put6_turned w49 (w1.heap.size) (lowS s m) (highS s m)
      have e50 := ext_own e49 hT50 (by omega)
      have F8 := z8n.put (lowS s m) (highS s m)
      have F7n := F7.turned hT50 hne
      have a0 := z8n.c 0 (by omega); have f0 := z8n.f 0 (by omega); have a1 := z8n.c 1 (by omega); have f1 := z8n.f 1 (by omega); have a2 := z8n.c 2 (by omega); have f2 := z8n.f 2 (by omega); have a3 := z8n.c 3 (by omega); have f3 := z8n.f 3 (by omega); have a4 := z8n.c 4 (by omega); have f4 := z8n.f 4 (by omega); have a5 := z8n.c 5 (by omega); have f5 := z8n.f 5 (by omega)
      go_wp2
      refine hK _ (put6 w49 (w1.heap.size) (lowS s m) (highS s m)) e50 ?_
      repeat ((first | (refine plan_take (v := ?_) rfl rfl (fun W hW => ?_) ?_; rotate_left; (focus (skip; go_simp; first | exact rfl | (split <;> first | exact rfl | (exfalso; omega)) | done))) | refine plan_skip rfl rfl ?_); simp only [puts])
      refine plan_met ?_
      exact ⟨_, _, rfl, e50, F7n, F8⟩
     ·intro K hK
      go_wp2
      have e51 := e46.alloc (.cells #[.int .i64 0, .int .i64 0, .int .i64 0, .int .i64 0, .int .i64 0, .int .i64 0] 25)
      have n51 := Z6.new w46
      have lt_51 := z8_46.lt
      obtain ⟨w51, hw51⟩ : ∃ W, W = w46.alloc (.cells #[.int .i64 0, .int .i64 0, .int .i64 0, .int .i64 0, .int .i64 0, .int .i64 0] 25) := ⟨_, rfl⟩
      have h51 : Ext w46 w51 := by rw [hw51]; exact (Ext.refl _).alloc _
      rw [← hw51] at e51 n51 ⊢
      clear hw51
      have z8_51 := z8_46.ext h51
      refine hK _ _ e51 ?_
      refine plan_walk rfl ?_; intro K hK
      go_wp2_with (first | (go_at_call 59; refine (R59.out _ (HWr.out.trans e51)).mono ?_; rintro e w52 ⟨rfl, rfl⟩))
      refine hK _ _ e51 ?_
      refine plan_walk rfl ?_; intro K hK
      have s7 := e46.size
      have s8 := e1.size
      have hne : ¬ w46.heap.size = w1.heap.size := by omega
      have hne2 : ¬ w1.heap.size = w46.heap.size := by omega
      have hT53 := put6_turned w51 (w46.heap.size) (aimLo s) (aimHi s)
      have e53 := ext_own e51 hT53 (by omega)
      have F7 := n51.put (aimLo s) (aimHi s)
      have z8n := z8_51.turned hT53 hne2
      have a0 := n51.c 0 (by omega); have f0 := n51.f 0 (by omega); have a1 := n51.c 1 (by omega); have f1 := n51.f 1 (by omega); have a2 := n51.c 2 (by omega); have f2 := n51.f 2 (by omega); have a3 := n51.c 3 (by omega); have f3 := n51.f 3 (by omega); have a4 := n51.c 4 (by omega); have f4 := n51.f 4 (by omega); have a5 := n51.c 5 (by omega); have f5 := n51.f 5 (by omega)
      go_wp2
      refine hK _ (put6 w51 (w46.heap.size) (aimLo s) (aimHi s)) e53 ?_
      clear a0 f0 a1 f1 a2 f2 a3 f3 a4 f4 a5 f5
      generalize put6 w51 (w46.heap.size) (aimLo s) (aimHi s) = w53 at *
      refine plan_walk rfl ?_; intro K hK
      have hT54 := put6_turned w53 (w1.heap.size) (lowS s m) (highS s m)
      have e54 := ext_own e53 hT54 (by omega)
      have F8 := z8n.put (lowS s m) (highS s m)
      have F7n := F7.turned hT54 hne
      have a0 := z8n.c 0 (by omega); have f0 := z8n.f 0 (by omega); have a1 := z8n.c 1 (by omega); have f1 := z8n.f 1 (by omega); have a2 := z8n.c 2 (by omega); have f2 := z8n.f 2 (by omega); have a3 := z8n.c 3 (by omega); have f3 := z8n.f 3 (by omega); have a4 := z8n.c 4 (by omega); have f4 := z8n.f 4 (by omega); have a5 := z8n.c 5 (by omega); have f5 := z8n.f 5 (by omega)
      go_wp2
      refine hK _ (put6 w53 (w1.heap.size) (lowS s m) (highS s m)) e54 ?_
      repeat ((first | (refine plan_take (v := ?_) rfl rfl (fun W hW => ?_) ?_; rotate_left; (focus (skip; go_simp; first | exact rfl | (split <;> first | exact rfl | (exfalso; omega)) | done))) | refine plan_skip rfl rfl ?_); simp only [puts])
      refine plan_met ?_
      exact ⟨_, _, rfl, e54, F7n, F8⟩
    ·intro K hK
     go_wp2
     have e55 := e45.alloc (.cells #[.int .i64 0, .int .i64 0, .int .i64 0, .int .i64 0, .int .i64 0, .int .i64 0] 25)
     have n55 := Z6.new w45
     have lt_55 := n45.lt
     obtain ⟨w55, hw55⟩ : ∃ W, W = w45.alloc (.cells #[.int .i64 0, .int .i64 0, .int .i64 0, .int .i64 0, .int .i64 0, .int .i64 0] 25) := ⟨_, rfl⟩
     have h55 : Ext w45 w55 := by rw [hw55]; exact (Ext.refl _).alloc _
     rw [← hw55] at e55 n55 ⊢
     clear hw55
     have z8_55 := n45.ext h55
     refine hK _ _ e55 ?_
     refine plan_walk rfl ?_; intro K hK
     go_wp2_with (first | (go_at_call 62; refine (R62.out _ (HWr.out.trans e55)).mono ?_; rintro e w56 ⟨rfl, h56⟩))
     have e56 := e55.trans h56
     have z7_56 := n55.ext h56
     have z8_56 := z8_55.ext h56
     refine hK _ _ e56 ?_
     refine plan_walk rfl ?_; intro K hK
     go_wp2_with (first | (go_at_call 59; refine (R59.out _ (HWr.out.trans e56)).mono ?_; rintro e w57 ⟨rfl, rfl⟩))
     refine hK _ _ e56 ?_
     refine plan_walk rfl ?_; intro K hK
     have s7 := e45.size
     have s8 := e1.size
     have hne : ¬ w45.heap.size = w1.heap.size := by omega
     have hne2 : ¬ w1.heap.size = w45.heap.size := by omega
     have hT58 := put6_turned w56 (w45.heap.size) (aimLo s) (aimHi s)
     have e58 := ext_own e56 hT58 (by omega)
     have F7 := z7_56.put (aimLo s) (aimHi s)
     have z8n := z8_56.turned hT58 hne2
     have a0 := z7_56.c 0 (by omega); have f0 := z7_56.f 0 (by omega); have a1 := z7_56.c 1 (by omega); have f1 := z7_56.f 1 (by omega); have a2 := z7_56.c 2 (by omega); have f2 := z7_56.f 2 (by omega); have a3 := z7_56.c 3 (by omega); have f3 := z7_56.f 3 (by omega); have a4 := z7_56.c 4 (by omega); have f4 := z7_56.f 4 (by omega); have a5 := z7_56.c 5 (by omega); have f5 := z7_56.f 5 (by omega)
     go_wp2
     refine hK _ (put6 w56 (w45.heap.size) (aimLo s) (aimHi s)) e58 ?_
     clear a0 f0 a1 f1 a2 f2 a3 f3 a4 f4 a5 f5
     generalize put6 w56 (w45.heap.size) (aimLo s) (aimHi s) = w58 at *
     refine plan_walk rfl ?_; intro K hK
     have hT59 := put6_turned w58 (w1.heap.size) (lowS s m) (highS s m)
     have e59 := ext_own e58 hT59 (by omega)
     have F8 := z8n.put (lowS s m) (highS s m)
     have F7n := F7.turned hT59 hne
     have a0 := z8n.c 0 (by omega); have f0 := z8n.f 0 (by omega); have a1 := z8n.c 1 (by omega); have f1 := z8n.f 1 (by omega); have a2 := z8n.c 2 (by omega); have f2 := z8n.f 2 (by omega); have a3 := z8n.c 3 (by omega); have f3 := z8n.f 3 (by omega); have a4 := z8n.c 4 (by omega); have f4 := z8n.f 4 (by omega); have a5 := z8n.c 5 (by omega); have f5 := z8n.f 5 (by omega)
     go_wp2
     refine hK _ (put6 w58 (w1.heap.size) (lowS s m) (highS s m)) e59 ?_
     repeat ((first | (refine plan_take (v := ?_) rfl rfl (fun W hW => ?_) ?_; rotate_left; (focus (skip; go_simp; first | exact rfl | (split <;> first | exact rfl | (exfalso; omega)) | done))) | refine plan_skip rfl rfl ?_); simp only [puts])
     refine plan_met ?_
     exact ⟨_, _, rfl, e59, F7n, F8⟩
  ·intro K hK
   go_wp2
   have e60 := ed.alloc (.cells #[.int .i64 0, .int .i64 0, .int .i64 0, .int .i64 0, .int .i64 0, .int .i64 0] 25)
   have n60 := Z6.new wd
   obtain ⟨w60, hw60⟩ : ∃ W, W = wd.alloc (.cells #[.int .i64 0, .int .i64 0, .int .i64 0, .int .i64 0, .int .i64 0, .int .i64 0] 25) := ⟨_, rfl⟩
   have h60 : Ext wd w60 := by rw [hw60]; exact (Ext.refl _).alloc _
   rw [← hw60] at e60 n60 ⊢
   clear hw60
   refine hK _ _ e60 ?_
   refine plan_two rfl rfl ?_ ?_
   ·intro K hK
    go_wp2_with (first | (go_at_call 61; refine (R61.out _).mono ?_; rintro e w61 ⟨rfl, h61⟩))
    have e61 := e60.trans h61
    have z7_61 := n60.ext h61
    refine hK _ _ e61 ?_
    refine plan_two rfl rfl ?_ ?_
    ·intro K hK
     go_wp2_with (first | (go_at_call 62; refine (R62.out _ (HWr.out.trans e61)).mono ?_; rintro e w62 ⟨rfl, h62⟩))
     have e62 := e61.trans h62
     have z7_62 := z7_61.ext h62
     refine hK _ _ e62 ?_
     refine plan_two rfl rfl ?_ ?_
     ·intro K hK
      go_wp2_with (first | (go_at_call 59; refine (R59.out _ (HWr.out.trans e62)).mono ?_; rintro e w63 ⟨rfl, rfl⟩))
      refine hK _ _ e62 ?_
      refine plan_walk rfl ?_; intro K hK
      go_wp2
      have e64 := e62.alloc (.cells #[.int .i64 0, .int .i64 0, .int .i64 0, .int .i64 0, .int .i64 0, .int .i64 0] 25)
      have n64 := Z6.new w62
      have lt_64 := z7_62.lt
      obtain ⟨w64, hw64⟩ : ∃ W, W = w62.alloc (.cells #[.int .i64 0, .int .i64 0, .int .i64 0, .int .i64 0, .int .i64 0, .int .i64 0] 25) := ⟨_, rfl⟩
      have h64 : Ext w62 w64 := by rw [hw64]; exact (Ext.refl _).alloc _
      rw [← hw64] at e64 n64 ⊢
      clear hw64
      have z7_64 := z7_62.ext h64
      refine hK _ _ e64 ?_
      refine plan_walk rfl ?_; intro K hK
      have s7 := ed.size
      have s8 := e62.size
      have hne : ¬ wd.heap.size = w62.heap.size := by omega
      have hne2 : ¬ w62.heap.size = wd.heap.size := by omega
      have hT65 := put6_turned w64 (wd.heap.size) (aimLo s) (aimHi s)
      have e65 := ext_own e64 hT65 (by omega)
      have F7 := z7_64.put (aimLo s) (aimHi s)
      have z8n := n64.turned hT65 hne2
      have a0 := z7_64.c 0 (by omega); have f0 := z7_64.f 0 (by omega); have a1 := z7_64.c 1 (by omega); have f1 := z7_64.f 1 (by omega); have a2 := z7_64.c 2 (by omega); have f2 := z7_64.f 2 (by omega); have a3 := z7_64.c 3 (by omega); have f3 := z7_64.f 3 (by omega); have a4 := z7_64.c 4 (by omega); have f4 := z7_64.f 4 (by omega); have a5 := z7_64.c 5 (by omega); have f5 := z7_64.f 5 (by omega)
      go_wp2
      refine hK _ (put6 w64 (wd.heap.size) (aimLo s) (aimHi s)) e65 ?_
      clear a0 f0 a1 f1 a2 f2 a3 f3 a4 f4 a5 f5
      generalize put6 w64 (wd.heap.size) (aimLo s) (aimHi s) = w65 at *
      refine plan_walk rfl ?_; intro K hK
      have hT66 := put6_turned w65 (w62.heap.size) (lowS s m) (highS s m)
      have e66 := ext_own e65 hT66 (by omega)
      have F8 := z8n.put (lowS s m) (highS s m)
      have F7n := F7.turned hT66 hne
      have a0 := z8n.c 0 (by omega); have f0 := z8n.f 0 (by omega); have a1 := z8n.c 1 (by omega); have f1 := z8n.f 1 (by omega); have a2 := z8n.c 2 (by omega); have f2 := z8n.f 2 (by omega); have a3 := z8n.c 3 (by omega); have f3 := z8n.f 3 (by omega); have a4 := z8n.c 4 (by omega); have f4 := z8n.f 4 (by omega); have a5 := z8n.c 5 (by omega); have f5 := z8n.f 5 (by omega)
      go_wp2
      refine hK _ (put6 w65 (w62.heap.size) (lowS s m) (highS s m)) e66 ?_
      repeat ((first | (refine plan_take (v := ?_) rfl rfl (fun W hW => ?_) ?_; rotate_left; (focus (skip; go_simp; first | exact rfl | (split <;> first | exact rfl | (exfalso; omega)) | done))) | refine plan_skip rfl rfl ?_); simp only [puts])
      refine plan_met ?_
      exact ⟨_, _, rfl, e66, F7n, F8⟩
     ·intro K hK
      go_wp2
      have e67 := e62.alloc (.cells #[.int .i64 0, .int .i64 0, .int .i64 0, .int .i64 0, .int .i64 0, .int .i64 0] 25)
      have n67 := Z6.new w62
      have lt_67 := z7_62.lt
      obtain ⟨w67, hw67⟩ : ∃ W, W = w62.alloc (.cells #[.int .i64 0, .int .i64 0, .int .i64 0, .int .i64 0, .int .i64 0, .int .i64 0] 25) := ⟨_, rfl⟩
      have h67 : Ext w62 w67 := by rw [hw67]; exact (Ext.refl _).alloc _
      rw [← hw67] at e67 n67 ⊢
      clear hw67
      have z7_67 := z7_62.ext h67
      refine hK _ _ e67 ?_
      refine plan_walk rfl ?_; intro K hK
      go_wp2_with (first | (go_at_call 59; refine (R59.out _ (HWr.out.trans e67)).mono ?_; rintro e w68 ⟨rfl, rfl⟩))
      refine hK _ _ e67 ?_
      refine plan_walk rfl ?_; intro K hK
      have s7 := ed.size
      have s8 := e62.size
      have hne : ¬ wd.heap.size = w62.heap.size := by omega
      have hne2 : ¬ w62.heap.size = wd.heap.size := by omega
      have hT69 := put6_turned w67 (wd.heap.size) (aimLo s) (aimHi s)
      have e69 := ext_own e67 hT69 (by omega)
      have F7 := z7_67.put (aimLo s) (aimHi s)
      have z8n := n67.turned hT69 hne2
      have a0 := z7_67.c 0 (by omega); have f0 := z7_67.f 0 (by omega); have a1 := z7_67.c 1 (by omega); have f1 := z7_67.f 1 (by omega); have a2 := z7_67.c 2 (by omega); have f2 := z7_67.f 2 (by omega); have a3 := z7_67.c 3 (by omega); have f3 := z7_67.f 3 (by omega); have a4 := z7_67.c 4 (by omega); have f4 := z7_67.f 4 (by omega); have a5 := z7_67.c 5 (by omega); have f5 := z7_67.f 5 (by omega)
      go_wp2
      refine hK _ (put6 w67 (wd.heap.size) (aimLo s) (aimHi s)) e69 ?_
      clear a0 f0 a1 f1 a2 f2 a3 f3 a4 f4 a5 f5
      generalize put6 w67 (wd.heap.size) (aimLo s) (aimHi s) = w69 at *
      refine plan_walk rfl ?_; intro K hK
      have hT70 := put6_turned w69 (w62.heap.size) (lowS s m) (highS s m)
      have e70 := ext_own e69 hT70 (by omega)
      have F8 := z8n.put (lowS s m) (highS s m)
      have F7n := F7.turned hT70 hne
      have a0 := z8n.c 0 (by omega); have f0 := z8n.f 0 (by omega); have a1 := z8n.c 1 (by omega); have f1 := z8n.f 1 (by omega); have a2 := z8n.c 2 (by omega); have f2 := z8n.f 2 (by omega); have a3 := z8n.c 3 (by omega); have f3 := z8n.f 3 (by omega); have a4 := z8n.c 4 (by omega); have f4 := z8n.f 4 (by omega); have a5 := z8n.c 5 (by omega); have f5 := z8n.f 5 (by omega)
      go_wp2
      refine hK _ (put6 w69 (w62.heap.size) (lowS s m) (highS s m)) e70 ?_
      repeat ((first | (refine plan_take (v := ?_) rfl rfl (fun W hW => ?_) ?_; rotate_left; (focus (skip; go_simp; first | exact rfl | (split <;> first | exact rfl | (exfalso; omega)) | done))) | refine plan_skip rfl rfl ?_); simp only [puts])
      refine plan_met ?_
      exact ⟨_, _, rfl, e70, F7n, F8⟩
    ·intro K hK
     go_wp2
     have e71 := e61.alloc (.cells #[.int .i64 0, .int .i64 0, .int .i64 0, .int .i64 0, .int .i64 0, .int .i64 0] 25)
     have n71 := Z6.new w61
     have lt_71 := z7_61.lt
     obtain ⟨w71, hw71⟩ : ∃ W, W = w61.alloc (.cells #[.int .i64 0, .int .i64 0, .int .i64 0, .int .i64 0, .int .i64 0, .int .i64 0] 25) := ⟨_, rfl⟩
     have h71 : Ext w61 w71 := by rw [hw71]; exact (Ext.refl _).alloc _
     rw [← hw71] at e71 n71 ⊢
     clear hw71
     have z7_71 := z7_61.ext h71
     refine hK _ _ e71 ?_
     refine plan_walk rfl ?_; intro K hK
     go_wp2_with (first | (go_at_call 62; refine (R62.out _ (HWr.out.trans e71)).mono ?_; rintro e w72 ⟨rfl, h72⟩))
     have e72 := e71.trans h72
     have z7_72 := z7_71.ext h72
     have z8_72 := n71.ext h72
     refine hK _ _ e72 ?_
     refine plan_walk rfl ?_; intro K hK
     go_wp2_with (first | (go_at_call 59; refine (R59.out _ (HWr.out.trans e72)).mono ?_; rintro e w73 ⟨rfl, rfl⟩))
     refine hK _ _ e72 ?_
     refine plan_walk rfl ?_; intro K hK
     have s7 := ed.size
     have s8 := e61.size
     have hne : ¬ wd.heap.size = w61.heap.size := by omega
     have hne2 : ¬ w61.heap.size = wd.heap.size := by omega
     have hT74 := put6_turned w72 (wd.heap.size) (aimLo s) (aimHi s)
     have e74 := ext_own e72 hT74 (by omega)
     have F7 := z7_72.put (aimLo s) (aimHi s)
     have z8n := z8_72.turned hT74 hne2
     have a0 := z7_72.c 0 (by omega); have f0 := z7_72.f 0 (by omega); have a1 := z7_72.c 1 (by omega); have f1 := z7_72.f 1 (by omega); have a2 := z7_72.c 2 (by omega); have f2 := z7_72.f 2 (by omega); have a3 := z7_72.c 3 (by omega); have f3 := z7_72.f 3 (by omega); have a4 := z7_72.c 4 (by omega); have f4 := z7_72.f 4 (by omega); have a5 := z7_72.c 5 (by omega); have f5 := z7_72.f 5 (by omega)
     go_wp2
     refine hK _ (put6 w72 (wd.heap.size) (aimLo s) (aimHi s)) e74 ?_
     clear a0 f0 a1 f1 a2 f2 a3 f3 a4 f4 a5 f5
     generalize put6 w72 (wd.heap.size) (aimLo s) (aimHi s) = w74 at *
     refine plan_walk rfl ?_; intro K hK
     have hT75 := put6_turned w74 (w61.heap.size) (lowS s m) (highS s m)
     have e75 := ext_own e74 hT75 (by omega)
     have F8 := z8n.put (lowS s m) (highS s m)
     have F7n := F7.turned hT75 hne
     have a0 := z8n.c 0 (by omega); have f0 := z8n.f 0 (by omega); have a1 := z8n.c 1 (by omega); have f1 := z8n.f 1 (by omega); have a2 := z8n.c 2 (by omega); have f2 := z8n.f 2 (by omega); have a3 := z8n.c 3 (by omega); have f3 := z8n.f 3 (by omega); have a4 := z8n.c 4 (by omega); have f4 := z8n.f 4 (by omega); have a5 := z8n.c 5 (by omega); have f5 := z8n.f 5 (by omega)
     go_wp2
     refine hK _ (put6 w74 (w61.heap.size) (lowS s m) (highS s m)) e75 ?_
     repeat ((first | (refine plan_take (v := ?_) rfl rfl (fun W hW => ?_) ?_; rotate_left; (focus (skip; go_simp; first | exact rfl | (split <;> first | exact rfl | (exfalso; omega)) | done))) | refine plan_skip rfl rfl ?_); simp only [puts])
     refine plan_met ?_
     exact ⟨_, _, rfl, e75, F7n, F8⟩
   ·intro K hK
    go_wp2
    have e76 := e60.alloc (.cells #[.int .i64 0, .int .i64 0, .int .i64 0, .int .i64 0, .int .i64 0, .int .i64 0] 25)
    have n76 := Z6.new w60
    have lt_76 := n60.lt
    obtain ⟨w76, hw76⟩ : ∃ W, W = w60.alloc (.cells #[.int .i64 0, .int .i64 0, .int .i64 0, .int .i64 0, .int .i64 0, .int .i64 0] 25) := ⟨_, rfl⟩
    have h76 : Ext w60 w76 := by rw [hw76]; exact (Ext.refl _).alloc _
    rw [← hw76] at e76 n76 ⊢
    clear hw76
    have z7_76 := n60.ext h76
    refine hK _ _ e76 ?_
    refine plan_walk rfl ?_; intro K hK
    go_wp2_with (first | (go_at_call 61; refine (R61.out _).mono ?_; rintro e w77 ⟨rfl, h77⟩))
    have e77 := e76.trans h77
    have z7_77 := z7_76.ext h77
    have z8_77 := n76.ext h77
    refine hK _ _ e77 ?_
    refine plan_walk rfl ?_; intro K hK
    go_wp2_with (first | (go_at_call 62; refine (R62.out _ (HWr.out.trans e77)).mono ?_; rintro e w78 ⟨rfl, h78⟩))
    have e78 := e77.trans h78
    have z7_78 := z7_77.ext h78
    have z8_78 := z8_77.ext h78
    refine hK _ _ e78 ?_
    refine plan_walk rfl ?_; intro K hK
    go_wp2_with (first | (go_at_call 59; refine (R59.out _ (HWr.out.trans e78)).mono ?_; rintro e w79 ⟨rfl, rfl⟩))
    refine hK _ _ e78 ?_
    refine plan_walk rfl ?_; intro K hK
    have s7 := ed.size
    have s8 := e60.size
    have hne : ¬ wd.heap.size = w60.heap.size := by omega
    have hne2 : ¬ w60.heap.size = wd.heap.size := by omega
    have hT80 := put6_turned w78 (wd.heap.size) (aimLo s) (aimHi s)
    have e80 := ext_own e78 hT80 (by omega)
    have F7 := z7_78.put (aimLo s) (aimHi s)
    have z8n := z8_78.turned hT80 hne2
    have a0 := z7_78.c 0 (by omega); have f0 := z7_78.f 0 (by omega); have a1 := z7_78.c 1 (by omega); have f1 := z7_78.f 1 (by omega); have a2 := z7_78.c 2 (by omega); have f2 := z7_78.f 2 (by omega); have a3 := z7_78.c 3 (by omega); have f3 := z7_78.f 3 (by omega); have a4 := z7_78.c 4 (by omega); have f4 := z7_78.f 4 (by omega); have a5 := z7_78.c 5 (by omega); have f5 := z7_78.f 5 (by omega)
    go_wp2
    refine hK _ (put6 w78 (wd.heap.size) (aimLo s) (aimHi s)) e80 ?_
    clear a0 f0 a1 f1 a2 f2 a3 f3 a4 f4 a5 f5
    generalize put6 w78 (wd.heap.size) (aimLo s) (aimHi s) = w80 at *
    refine plan_walk rfl ?_; intro K hK
    have hT81 := put6_turned w80 (w60.heap.size) (lowS s m) (highS s m)
    have e81 := ext_own e80 hT81 (by omega)
    have F8 := z8n.put (lowS s m) (highS s m)
    have F7n := F7.turned hT81 hne
    have a0 := z8n.c 0 (by omega); have f0 := z8n.f 0 (by omega); have a1 := z8n.c 1 (by omega); have f1 := z8n.f 1 (by omega); have a2 := z8n.c 2 (by omega); have f2 := z8n.f 2 (by omega); have a3 := z8n.c 3 (by omega); have f3 := z8n.f 3 (by omega); have a4 := z8n.c 4 (by omega); have f4 := z8n.f 4 (by omega); have a5 := z8n.c 5 (by omega); have f5 := z8n.f 5 (by omega)
    go_wp2
    refine hK _ (put6 w80 (w60.heap.size) (lowS s m) (highS s m)) e81 ?_
    repeat ((first | (refine plan_take (v := ?_) rfl rfl (fun W hW => ?_) ?_; rotate_left; (focus (skip; go_simp; first | exact rfl | (split <;> first | exact rfl | (exfalso; omega)) | done))) | refine plan_skip rfl rfl ?_); simp only [puts])
    refine plan_met ?_
    exact ⟨_, _, rfl, e81, F7n, F8⟩
  ·intro K hK
   go_wp2
   have e82 := ed.alloc (.cells #[.int .i64 0, .int .i64 0, .int .i64 0, .int .i64 0, .int .i64 0, .int .i64 0] 25)
   have n82 := Z6.new wd
   obtain ⟨w82, hw82⟩ : ∃ W, W = wd.alloc (.cells #[.int .i64 0, .int .i64 0, .int .i64 0, .int .i64 0, .int .i64 0, .int .i64 0] 25) := ⟨_, rfl⟩
   have h82 : Ext wd w82 := by rw [hw82]; exact (Ext.refl _).alloc _
   rw [← hw82] at e82 n82 ⊢
   clear hw82
   refine hK _ _ e82 ?_
   refine plan_two rfl rfl ?_ ?_
   ·intro K hK
    go_wp2_with (first | (go_at_call 61; refine (R61.out _).mono ?_; rintro e w83 ⟨rfl, h83⟩))
    have e83 := e82.trans h83
    have z8_83 := n82.ext h83
    refine hK _ _ e83 ?_
    refine plan_two rfl rfl ?_ ?_
    ·intro K hK
     go_wp2_with (first | (go_at_call 62; refine (R62.out _ (HWr.out.trans e83)).mono ?_; rintro e w84 ⟨rfl, h84⟩))
     have e84 := e83.trans h84
     have z8_84 := z8_83.ext h84
     refine hK _ _ e84 ?_
     refine plan_two rfl rfl ?_ ?_
     ·intro K hK
      go_wp2_with (first | (go_at_call 59; refine (R59.out _ (HWr.out.trans e84)).mono ?_; rintro e w85 ⟨rfl, rfl⟩))
      refine hK _ _ e84 ?_
      refine plan_walk rfl ?_; intro K hK
      go_wp2
      have e86 := e84.alloc (.cells #[.int .i64 0, .int .i64 0, .int .i64 0, .int .i64 0, .int .i64 0, .int .i64 0] 25)
      have n86 := Z6.new w84
      have lt_86 := z8_84.lt
      obtain ⟨w86, hw86⟩ : ∃ W, W = w84.alloc (.cells #[.int .i64 0, .int .i64 0, .int .i64 0, .int .i64 0, .int .i64 0, .int .i64 0] 25) := ⟨_, rfl⟩
      have h86 : Ext w84 w86 := by rw [hw86]; exact (Ext.refl _).alloc _
      rw [← hw86] at e86 n86 ⊢
      clear hw86
      have z8_86 := z8_84.ext h86
      refine hK _ _ e86 ?_
      refine plan_walk rfl ?_; intro K hK
      have s7 := e84.size
      have s8 := ed.size
      have hne : ¬ w84.heap.size = wd.heap.size := by omega
      have hne2 : ¬ wd.heap.size = w84.heap.size := by omega
      have hT87 := put6_turned w86 (w84.heap.size) (aimLo s) (aimHi s)
      have e87 := ext_own e86 hT87 (by omega)
      have F7 := n86.put (aimLo s) (aimHi s)
      have z8n := z8_86.turned hT87 hne2
      have a0 := n86.c 0 (by omega); have f0 := n86.f 0 (by omega); have a1 := n86.c 1 (by omega); have f1 := n86.f 1 (by omega); have a2 := n86.c 2 (by omega); have f2 := n86.f 2 (by omega); have a3 := n86.c 3 (by omega); have f3 := n86.f 3 (by omega); have a4 := n86.c 4 (by omega); have f4 := n86.f 4 (by omega); have a5 := n86.c 5 (by omega); have f5 := n86.f 5 (by omega)
      go_wp2
      refine hK _ (put6 w86 (w84.heap.size) (aimLo s) (aimHi s)) e87 ?_
      clear a0 f0 a1 f1 a2 f2 a3 f3 a4 f4 a5 f5
      generalize put6 w86 (w84.heap.size) (aimLo s) (aimHi s) = w87 at *
      refine plan_walk rfl ?_; intro K hK
      have hT88 := put6_turned w87 (wd.heap.size) (lowS s m) (highS s m)
      have e88 := ext_own e87 hT88 (by omega)
      have F8 := z8n.put (lowS s m) (highS s m)
      have F7n := F7.turned hT88 hne
      have a0 := z8n.c 0 (by omega); have f0 := z8n.f 0 (by omega); have a1 := z8n.c 1 (by omega); have f1 := z8n.f 1 (by omega); have a2 := z8n.c 2 (by omega); have f2 := z8n.f 2 (by omega); have a3 := z8n.c 3 (by omega); have f3 := z8n.f 3 (by omega); have a4 := z8n.c 4 (by omega); have f4 := z8n.f 4 (by omega); have a5 := z8n.c 5 (by omega); have f5 := z8n.f 5 (by omega)
      go_wp2
      refine hK _ (put6 w87 (wd.heap.size) (lowS s m) (highS s m)) e88 ?_
      repeat ((first | (refine plan_take (v := ?_) rfl rfl (fun W hW => ?_) ?_; rotate_left; (focus (skip; go_simp; first | exact rfl | (split <;> first | exact rfl | (exfalso; omega)) | done))) | refine plan_skip rfl rfl ?_); simp only [puts])
      refine plan_met ?_
      exact ⟨_, _, rfl, e88, F7n, F8⟩
     ·intro K hK
      go_wp2
      have e89 := e84.alloc (.cells #[.int .i64 0, .int .i64 0, .int .i64 0, .int .i64 0, .int .i64 0, .int .i64 0] 25)
      have n89 := Z6.new w84
      have lt_89 := z8_84.lt
      obtain ⟨w89, hw89⟩ : ∃ W, W = w84.alloc (.cells #[.int .i64 0, .int .i64 0, .int .i64 0, .int .i64 0, .int .i64 0, .int .i64 0] 25) := ⟨_, rfl⟩
      have h89 : Ext w84 w89 := by rw [hw89]; exact (Ext.refl _).alloc _
      rw [← hw89] at e89 n89 ⊢
      clear hw89
      have z8_89 := z8_84.ext h89
      refine hK _ _ e89 ?_
      refine plan_walk rfl ?_; intro K hK
      go_wp2_with (first | (go_at_call 59; refine (R59.out _ (HWr.out.trans e89)).mono ?_; rintro e w90 ⟨rfl, rfl⟩))
      refine hK _ _ e89 ?_
      refine plan_walk rfl ?_; intro K hK
      have s7 := e84.size
      have s8 := ed.size
      have hne : ¬ w84.heap.size = wd.heap.size := by omega
      have hne2 : ¬ wd.heap.size = w84.heap.size := by omega
      have hT91 := put6_turned w89 (w84.heap.size) (aimLo s) (aimHi s)
      have e91 := ext_own e89 hT91 (by omega)
      have F7 := n89.put (aimLo s) (aimHi s)
      have z8n := z8_89.turned hT91 hne2
      have a0 := n89.c 0 (by omega); have f0 := n89.f 0 (by omega); have a1 := n89.c 1 (by omega); have f1 := n89.f 1 (by omega); have a2 := n89.c 2 (by omega); have f2 := n89.f 2 (by omega); have a3 := n89.c 3 (by omega); have f3 := n89.f 3 (by omega); have a4 := n89.c 4 (by omega); have f4 := n89.f 4 (by omega); have a5 := n89.c 5 (by omega); have f5 := n89.f 5 (by omega)
      go_wp2
      refine hK _ (put6 w89 (w84.heap.size) (aimLo s) (aimHi s)) e91 ?_
      clear a0 f0 a1 f1 a2 f2 a3 f3 a4 f4 a5 f5
      generalize put6 w89 (w84.heap.size) (aimLo s) (aimHi s) = w91 at *
      refine plan_walk rfl ?_; intro K hK
      have hT92 := put6_turned w91 (wd.heap.size) (lowS s m) (highS s m)
      have e92 := ext_own e91 hT92 (by omega)
      have F8 := z8n.put (lowS s m) (highS s m)
      have F7n := F7.turned hT92 hne
      have a0 := z8n.c 0 (by omega); have f0 := z8n.f 0 (by omega); have a1 := z8n.c 1 (by omega); have f1 := z8n.f 1 (by omega); have a2 := z8n.c 2 (by omega); have f2 := z8n.f 2 (by omega); have a3 := z8n.c 3 (by omega); have f3 := z8n.f 3 (by omega); have a4 := z8n.c 4 (by omega); have f4 := z8n.f 4 (by omega); have a5 := z8n.c 5 (by omega); have f5 := z8n.f 5 (by omega)
      go_wp2
      refine hK _ (put6 w91 (wd.heap.size) (lowS s m) (highS s m)) e92 ?_
      repeat ((first | (refine plan_take (v := ?_) rfl rfl (fun W hW => ?_) ?_; rotate_left; (focus (skip; go_simp; first | exact rfl | (split <;> first | exact rfl | (exfalso; omega)) | done))) | refine plan_skip rfl rfl ?_); simp only [puts])
      refine plan_met ?_
      exact ⟨_, _, rfl, e92, F7n, F8⟩
    ·intro K hK
     go_wp2
     have e93 := e83.alloc (.cells #[.int .i64 0, .int .i64 0, .int .i64 0, .int .i64 0, .int .i64 0, .int .i64 0] 25)
     have n93 := Z6.new w83
     have lt_93 := z8_83.lt
     obtain ⟨w93, hw93⟩ : ∃ W, W = w83.alloc (.cells #[.int .i64 0, .int .i64 0, .int .i64 0, .int .i64 0, .int .i64 0, .int .i64 0] 25) := ⟨_, rfl⟩
     have h93 : Ext w83 w93 := by rw [hw93]; exact (Ext.refl _).alloc _
     rw [← hw93] at e93 n93 ⊢
     clear hw93
     have z8_93 := z8_83.ext h93
     refine hK _ _ e93 ?_
     refine plan_walk rfl ?_; intro K hK
     go_wp2_with (first | (go_at_call 62; refine (R62.out _ (HWr.out.trans e93)).mono ?_; rintro e w94 ⟨rfl, h94⟩))
     have e94 := e93.trans h94
     have z7_94 := n93.ext h94
     have z8_94 := z8_93.ext h94
     refine hK _ _ e94 ?_
     refine plan_walk rfl ?_; intro K hK
     go_wp2_with (first | (go_at_call 59; refine (R59.out _ (HWr.out.trans e94)).mono ?_; rintro e w95 ⟨rfl, rfl⟩))
     refine hK _ _ e94 ?_
     refine plan_walk rfl ?_; intro K hK
     have s7 := e83.size
     have s8 := ed.size
     have hne : ¬ w83.heap.size = wd.heap.size := by omega
     have hne2 : ¬ wd.heap.size = w83.heap.size := by omega
     have hT96 := put6_turned w94 (w83.heap.size) (aimLo s) (aimHi s)
     have e96 := ext_own e94 hT96 (by omega)
     have F7 := z7_94.put (aimLo s) (aimHi s)
     have z8n := z8_94.turned hT96 hne2
     have a0 := z7_94.c 0 (by omega); have f0 := z7_94.f 0 (by omega); have a1 := z7_94.c 1 (by omega); have f1 := z7_94.f 1 (by omega); have a2 := z7_94.c 2 (by omega); have f2 := z7_94.f 2 (by omega); have a3 := z7_94.c 3 (by omega); have f3 := z7_94.f 3 (by omega); have a4 := z7_94.c 4 (by omega); have f4 := z7_94.f 4 (by omega); have a5 := z7_94.c 5 (by omega); have f5 := z7_94.f 5 (by omega)
     go_wp2
     refine hK _ (put6 w94 (w83.heap.size) (aimLo s) (aimHi s)) e96 ?_
     clear a0 f0 a1 f1 a2 f2 a3 f3 a4 f4 a5 f5
     generalize put6 w94 (w83.heap.size) (aimLo s) (aimHi s) = w96 at *
     refine plan_walk rfl ?_; intro K hK
     have hT97 := put6_turned w96 (wd.heap.size) (lowS s m) (highS s m)
     have e97 := ext_own e96 hT97 (by omega)
     have F8 := z8n.put (lowS s m) (highS s m)
     have F7n := F7.turned hT97 hne
     have a0 := z8n.c 0 (by omega); have f0 := z8n.f 0 (by omega); have a1 := z8n.c 1 (by omega); have f1 := z8n.f 1 (by omega); have a2 := z8n.c 2 (by omega); have f2 := z8n.f 2 (by omega); have a3 := z8n.c 3 (by omega); have f3 := z8n.f 3 (by omega); have a4 := z8n.c 4 (by omega); have f4 := z8n.f 4 (by omega); have a5 := z8n.c 5 (by omega); have f5 := z8n.f 5 (by omega)
     go_wp2
     refine hK _ (put6 w96 (wd.heap.size) (lowS s m) (highS s m)) e97 ?_
     repeat ((first | (refine plan_take (v := ?_) rfl rfl (fun W hW => ?_) ?_; rotate_left; (focus (skip; go_simp; first | exact rfl | (split <;> first | exact rfl | (exfalso; omega)) | done))) | refine plan_skip rfl rfl ?_); simp only [puts])
     refine plan_met ?_
     exact ⟨_, _, rfl, e97, F7n, F8⟩
   ·intro K hK
    go_wp2
    have e98 := e82.alloc (.cells #[.int .i64 0, .int .i64 0, .int .i64 0, .int .i64 0, .int .i64 0, .int .i64 0] 25)
    have n98 := Z6.new w82
    have lt_98 := n82.lt
    obtain ⟨w98, hw98⟩ : ∃ W, W = w82.alloc (.cells #[.int .i64 0, .int .i64 0, .int .i64 0, .int .i64 0, .int .i64 0, .int .i64 0] 25) := ⟨_, rfl⟩
    have h98 : Ext w82 w98 := by rw [hw98]; exact (Ext.refl _).alloc _
    rw [← hw98] at e98 n98 ⊢
    clear hw98
    have z8_98 := n82.ext h98
    refine hK _ _ e98 ?_
    refine plan_walk rfl ?_; intro K hK
    go_wp2_with (first | (go_at_call 61; refine (R61.out _).mono ?_; rintro e w99 ⟨rfl, h99⟩))
    have e99 := e98.trans h99
    have z7_99 := n98.ext h99
    have z8_99 := z8_98.ext h99
    refine hK _ _ e99 ?_
    refine plan_walk rfl ?_; intro K hK
    go_wp2_with (first | (go_at_call 62; refine (R62.out _ (HWr.out.trans e99)).mono ?_; rintro e w100 ⟨rfl, h100⟩))
    have e100 := e99.trans h100
    have z7_100 := z7_99.ext h100
    have z8_100 := z8_99.ext h100
    refine hK _ _ e100 ?_
    refine plan_walk rfl ?_; intro K hK
    go_wp2_with (first | (go_at_call 59; refine (R59.out _ (HWr.out.trans e100)).mono ?_; rintro e w101 ⟨rfl, rfl⟩))
    refine hK _ _ e100 ?_
    refine plan_walk rfl ?_; intro K hK
    have s7 := e82.size
    have s8 := ed.size
    have hne : ¬ w82.heap.size = wd.heap.size := by omega
    have hne2 : ¬ wd.heap.size = w82.heap.size := by omega
    have hT102 := put6_turned w100 (w82.heap.size) (aimLo s) (aimHi s)
    have e102 := ext_own e100 hT102 (by omega)
    have F7 := z7_100.put (aimLo s) (aimHi s)
    have z8n := z8_100.turned hT102 hne2
    have a0 := z7_100.c 0 (by omega); have f0 := z7_100.f 0 (by omega); have a1 := z7_100.c 1 (by omega); have f1 := z7_100.f 1 (by omega); have a2 := z7_100.c 2 (by omega); have f2 := z7_100.f 2 (by omega); have a3 := z7_100.c 3 (by omega); have f3 := z7_100.f 3 (by omega); have a4 := z7_100.c 4 (by omega); have f4 := z7_100.f 4 (by omega); have a5 := z7_100.c 5 (by omega); have f5 := z7_100.f 5 (by omega)
    go_wp2
    refine hK _ (put6 w100 (w82.heap.size) (aimLo s) (aimHi s)) e102 ?_
    clear a0 f0 a1 f1 a2 f2 a3 f3 a4 f4 a5 f5
    generalize put6 w100 (w82.heap.size) (aimLo s) (aimHi s) = w102 at *
    refine plan_walk rfl ?_; intro K hK
    have hT103 := put6_turned w102 (wd.heap.size) (lowS s m) (highS s m)
    have e103 := ext_own e102 hT103 (by omega)
    have F8 := z8n.put (lowS s m) (highS s m)
    have F7n := F7.turned hT103 hne
    have a0 := z8n.c 0 (by omega); have f0 := z8n.f 0 (by omega); have a1 := z8n.c 1 (by omega); have f1 := z8n.f 1 (by omega); have a2 := z8n.c 2 (by omega); have f2 := z8n.f 2 (by omega); have a3 := z8n.c 3 (by omega); have f3 := z8n.f 3 (by omega); have a4 := z8n.c 4 (by omega); have f4 := z8n.f 4 (by omega); have a5 := z8n.c 5 (by omega); have f5 := z8n.f 5 (by omega)
    go_wp2
    refine hK _ (put6 w102 (wd.heap.size) (lowS s m) (highS s m)) e103 ?_
    repeat ((first | (refine plan_take (v := ?_) rfl rfl (fun W hW => ?_) ?_; rotate_left; (focus (skip; go_simp; first | exact rfl | (split <;> first | exact rfl | (exfalso; omega)) | done))) | refine plan_skip rfl rfl ?_); simp only [puts])
    refine plan_met ?_
    exact ⟨_, _, rfl, e103, F7n, F8⟩
 ·intro a' w4 ⟨q7, q8, ha', hE, F7, F8⟩
  subst ha'
  simp only [puts]
  have HE := Lib.hid (HWr.out.trans hE)
  have B7 := Lib.hid F7
  have B8 := Lib.hid F8
  clear HP HWr hE F7 F8 R61 R62 R59
  go_wp2_with fail
  go_loopg [8, 9, 10] 3 (fun g v i b wr => ∃ k : Nat, k + g = 3 ∧ i = .int .i64 k ∧ v = .int .i64 (needTo s m k) ∧ Ext w4 wr)
  case atStart => exact ⟨0, by omega, rfl, by rw [H0], Ext.refl _⟩
  case round =>
   obtain ⟨k, hk, rfl, rfl, hE4⟩ := hrel
   have HE4 := Lib.hid hE4
   clear hE4
   by_cases hlt : k < 3
   ·have hkI : (k : Int) < 3 := by omega
    obtain ⟨u0, u1⟩ := (B7.out.ext HE4.out).c k hlt
    obtain ⟨v0, v1⟩ := (B8.out.ext HE4.out).c k hlt
    have hb := Hbig.out k hlt
    have hgp := Hgp.out k
    have hgs := Hgap.out k hlt
    have hce := Hce.out k hlt
    have hns := Hns.out k (by omega)
    have Hs := Lib.hid (Hst.out k hlt)
    have hcd : (gapN s m k + (N : Int) - 1).tdiv (N : Int) = ceilD (gapN s m k) N := rfl
    generalize needTo s m k = T at *
    generalize ceilD (gapN s m k) N = C at *
    generalize gapN s m k = GG at *
    generalize aimLo s k = A at *
    generalize aimHi s k = B at *
    generalize lowS s m k = L at *
    generalize highS s m k = H at *
    have m1 := Nat.mul_le_mul hs8 hb.1
    have m2 := Nat.mul_le_mul hs8 hb.2.1
    have e1 : IntKind.i64.wrap ((N : Int) * (A : Int)) = ((N * A : Nat) : Int) := by rw [← Int.natCast_mul, IntWalk.i64_in _ (by omega)]
    have e2 : IntKind.i64.wrap ((N : Int) * (B : Int)) = ((N * B : Nat) : Int) := by rw [← Int.natCast_mul, IntWalk.i64_in _ (by omega)]
    generalize N * A = X at *
    generalize N * B = Y at *
    have hh : (H : Int) ≤ 3168 := by omega
    have e3 : IntKind.i64.wrap ((H : Int) - (X : Int)) = (H : Int) - (X : Int) := by rw [IntWalk.i64_in _ (by omega)]
    have e4 : IntKind.i64.wrap ((Y : Int) - (L : Int)) = (Y : Int) - (L : Int) := by rw [IntWalk.i64_in _ (by omega)]
    have q1 : IntKind.i64.wrap (GG + (N : Int)) = GG + (N : Int) := by rw [IntWalk.i64_in _ (by omega)]
    have q2 : IntKind.i64.wrap (GG + (N : Int) - 1) = GG + (N : Int) - 1 := by rw [IntWalk.i64_in _ (by omega)]
    have q3 : IntKind.i64.wrap C = C := by rw [IntWalk.i64_in _ (by omega)]
    have hN : ¬ (N : Int) = 0 := by omega
    have hN2 : ((N : Int) == 0) = false := by simpa using hN
    have hmx : (if (H : Int) - (X : Int) < (Y : Int) - (L : Int) then (Y : Int) - (L : Int) else (H : Int) - (X : Int)) = GG := by rw [hgp]; split <;> omega
    clear hgp
    go_wp2_with fail
    refine wp_region_plan (.take 0 <| .take 1 <| .take 2 <| .take 3 <| .take 4 <| .take 5 <| .take 6 <| .take 7 <| .take 8 <| .take 9 <| .take 10 <| .take 11 <| .take 12 <| .take 13 <| .take 14 <| .take 15 <| .take 16 <| .take 17 <| .take 18 <| .take 19 <| .take 20 <| .take 21 <| .take 22 <| .take 23 <| .done) (fun W => Ext wr W) mixed (by kernel_rfl) (by kernel_rfl) rfl (fun _ _ d _ _ h => by cases d <;> exact h) ((Ext.refl wr).drew) ?_
    repeat ((first | (refine plan_take (v := ?_) rfl rfl (fun W hW => ?_) ?_; rotate_left; (focus (have d0 := cell_ext hW u0; have d1 := cell_ext hW u1; have d2 := cell_ext hW v0; have d3 := cell_ext hW v1; go_simp; first | exact rfl | (split <;> first | exact rfl | (exfalso; omega)) | done))) | refine plan_skip rfl rfl ?_); simp only [puts])
    refine plan_done ?_
    clear u0 u1 v0 v1
    go_wp2
    all_goals go_roundg (gk - 1)
    all_goals first
     | omega
     | exact ⟨k + 1, by omega, by go_num, congrArg (Value.int .i64) (by rw [Hs.out]; omega), HE4.out.drew⟩
   ·obtain rfl : k = 3 := by omega
    have hE3 := Hend.out
    rw [hE3]
    clear Hend H0 Hns Hst hE3
    go_wp2
    go_ret
    exact ⟨rfl, HE.out.trans HE4.out⟩

end Go.Proofs.YtjpekonfjihcoaaGreatDoor
/- Contract: the reference's Years. No condition beyond sheets and mixtures as defined. -/
namespace Go.Proofs.YtjpekonfjihcoaaGreatDoor
open Go.RowKit Go.My Go.TintM

/-- The boxes of Years. -/
structure YB (s : Sh) (ot : Option Addr) (cap : Nat) (w W : World) (a b : Int) : Prop where
 ext : Ext w W
 box : SheetBox W w.heap.size (ofSh s) ot cap
 c0 : W.cell? ⟨w.heap.size + 1 + 1, 0, none⟩ = some (.int .i64 a)
 c1 : W.cell? ⟨w.heap.size + 1 + 1, 1, none⟩ = some (.int .i64 b)
 f0 : W.frozen? ⟨w.heap.size + 1 + 1, 0, none⟩ = false
 f1 : W.frozen? ⟨w.heap.size + 1 + 1, 1, none⟩ = false
 r0 : W.cell? ⟨w.heap.size + 1, 0, none⟩ = some (.int .i64 0)
 r1 : W.cell? ⟨w.heap.size + 1, 1, none⟩ = some (.int .i64 0)
 q0 : W.frozen? ⟨w.heap.size + 1, 0, none⟩ = false
 q1 : W.frozen? ⟨w.heap.size + 1, 1, none⟩ = false
section
variable {s : Sh} {ot : Option Addr} {cap : Nat} {w W W' : World} {a b : Int}
theorem YB.next (h : YB s ot cap w W a b) (hE : Ext W W') : YB s ot cap w W' a b :=
 have k := World.block_lt_of_cell? _ _ h.c0
 have k1 := World.block_lt_of_cell? _ _ h.r0
 ⟨h.ext.trans hE, h.box.ext hE, cell_ext hE h.c0, cell_ext hE h.c1, (hE.frozen (by exact k)).trans h.f0, (hE.frozen (by exact k)).trans h.f1, cell_ext hE h.r0, cell_ext hE h.r1, (hE.frozen (by exact k1)).trans h.q0, (hE.frozen (by exact k1)).trans h.q1⟩
theorem YB.set (h : YB s ot cap w W a b) {i : Nat} {x : Int} (hi : i < 2) : YB s ot cap w (W.setCell ⟨w.heap.size + 1 + 1, i, none⟩ (.int .i64 x)) (if i = 0 then x else a) (if i = 0 then b else x) := by
 have hT : Turned (w.heap.size + 1 + 1) W (W.setCell ⟨w.heap.size + 1 + 1, i, none⟩ (.int .i64 x)) := (Turned.refl _ _).set i _
 obtain ⟨h1, h2, h3, h4, h5, h6, h7, h8, h9, h10⟩ := h
 refine ⟨ext_own h1 hT (by omega), h2.turned hT (by omega), ?_, ?_, by rw [World.frozen?_setCell]; exact h5, by rw [World.frozen?_setCell]; exact h6, Turned.cell hT (by simp) h7, Turned.cell hT (by simp) h8, by rw [World.frozen?_setCell]; exact h9, by rw [World.frozen?_setCell]; exact h10⟩
 ·match i, hi with
  | 0, _ => go_simp
  | 1, _ => go_simp
 ·match i, hi with
  | 0, _ => go_simp
  | 1, _ => go_simp
end
theorem yearsTo_all {s : Sh} {m : List Nat} {k : Nat} (h0 : may s m 0 (s.ylo + k) = true) (h1 : may s m 1 (s.ylo + k) = true) (h2 : may s m 2 (s.ylo + k) = true) : yearsTo s m (k + 1) = yearsTo s m k ++ [s.ylo + k] :=
 yearsTo_yes fun p hp => by
  match p, hp with
  | 0, _ => exact h0
  | 1, _ => exact h1
  | 2, _ => exact h2
def fstY (l : List Nat) : Nat := l.headD 0
def anyY (l : List Nat) : Bool := !l.isEmpty
theorem any_more (l : List Nat) (x : Nat) : anyY (l ++ [x]) = true := by simp [anyY]
theorem any_iff {l : List Nat} : anyY l = true ↔ l ≠ [] := by cases l <;> simp [anyY]
def lstY (l : List Nat) : Nat := l.getLastD 0
theorem fst_more {l : List Nat} (h : l ≠ []) (x : Nat) : fstY (l ++ [x]) = fstY l := by cases l with
 | nil => exact absurd rfl h
 | cons a l => rfl
theorem fst_one (x : Nat) : fstY ([] ++ [x]) = x := rfl
theorem lst_more (l : List Nat) (x : Nat) : lstY (l ++ [x]) = x := by simp [lstY, List.getLastD_eq_getLast?]

theorem rYears_any (s : Sh) (g : Fine s) (m : List Nat) (hm : IsMix s m) (ot : Option Addr) (cap : Nat) (om : Option Addr) (cm : Nat) (w : World) (h : TinsAt w ot (ofSh s).tins) (hi : IntsAt w om (upL m)) :
  Calls Tryz.prog 30 #[sheetV (ofSh s) ot cap, .slice om m.length cm] w fun e w' => e = .returned (.tuple #[spanV (fstY (yearsOf s m) : Nat) (lstY (yearsOf s m) : Nat), .bool (anyY (yearsOf s m))]) ∧ Ext w w' := by
 have R := Lib.hid (fun p (hp : p < 3) y (hy : y ≤ 20) W (hW : Ext w W) => can_any s g m hm ot cap om cm p y hp hy W (h.ext hW) (hi.ext hW))
 have hy1 := g.ylo
 have hy2 := g.yhi
 have Hend := Lib.hid (yearsTo_end s m)
 clear h hi hm g
 go_enter Tryz.func30, Tryz.ntmps30
 go_wp2
 obtain ⟨w0, hw0⟩ : ∃ W, W = ((w.alloc (.cells (sheetC (ofSh s) ot cap) 28)).alloc (.cells #[.int .i64 0, .int .i64 0] 24)).alloc (.cells #[.int .i64 0, .int .i64 0] 24) := ⟨_, rfl⟩
 have hB0 : YB s ot cap w w0 0 0 := by
  rw [hw0]
  refine ⟨(((Ext.refl w).alloc _).alloc _).alloc _, (SheetBox.new w (ofSh s) ot cap).ext (((Ext.refl _).alloc _).alloc _), by go_simp, by go_simp, by go_simp, by go_simp, by go_simp, by go_simp, by go_simp, by go_simp⟩
 have B0 := Lib.hid hB0
 rw [← hw0]
 clear hw0 hB0
 go_loopg [7, 8] (s.yhi + 1 - s.ylo) (fun g f y wr => ∃ i Y : Nat, Y = s.ylo + i ∧ i + g = s.yhi + 1 - s.ylo ∧ y = .int .i64 (Y : Nat) ∧ f = .bool (anyY (yearsTo s m i)) ∧ YB s ot cap w wr (fstY (yearsTo s m i)) (lstY (yearsTo s m i)))
 case atStart => exact ⟨0, s.ylo, by omega, by omega, rfl, rfl, B0.out⟩
 case round =>
  clear B0
  obtain ⟨i, Y, hY, hi, rfl, rfl, hB⟩ := hrel
  have B := Lib.hid hB
  clear hB
  have c0 := B.out.box 0 _ rfl; have c1 := B.out.box 1 _ rfl; have c2 := B.out.box 2 _ rfl; have c3 := B.out.box 3 _ rfl; have c4 := B.out.box 4 _ rfl; have c5 := B.out.box 5 _ rfl; have c6 := B.out.box 6 _ rfl; have c7 := B.out.box 7 _ rfl; have c8 := B.out.box 8 _ rfl; have c9 := B.out.box 9 _ rfl; have c10 := B.out.box 10 _ rfl; have c11 := B.out.box 11 _ rfl; have c12 := B.out.box 12 _ rfl; have d0 := B.out.c0; have d1 := B.out.c1
  by_cases hlt : i < s.yhi + 1 - s.ylo
  ·have hYy : Y ≤ s.yhi := by omega
   have hle : (Y : Int) ≤ (ofSh s).yhi := by show (Y : Int) ≤ (s.yhi : Int); omega
   have HY := Lib.hid hY
   clear hY
   have q0 : IntKind.i64.wrap ((Y : Int) + 1) = (Y : Int) + 1 := by rw [IntWalk.i64_in _ (by omega)]
   cases hm0 : may s m 0 Y with
   | false =>
    have C0 := Lib.hid (show ∀ W, Ext w W → Calls Tryz.prog 84 #[sheetV (ofSh s) ot cap, .slice om m.length cm, .int .i64 0, .int .i64 (Y : Nat)] W fun e w' => e = .returned (.bool false) ∧ Ext W w' from fun W hW => by have := R.out 0 (by omega) Y (by omega) W hW; rw [hm0] at this; exact this)

    have Hn := Lib.hid (yearsTo_no (s := s) (m := m) (k := i) (p := 0) (by omega) (by rw [← HY.out]; exact hm0))
    go_wp2_with (first | (go_at_call 84; refine (C0.out _ B.out.ext).mono ?_; rintro e w5 ⟨rfl, hE5⟩; replace B := Lib.hid (B.out.next hE5); clear hE5 d0 d1 C0 c0 c1 c2 c3 c4 c5 c6 c7 c8 c9 c10 c11 c12; have c0 := B.out.box 0 _ rfl; have c1 := B.out.box 1 _ rfl; have c2 := B.out.box 2 _ rfl; have c3 := B.out.box 3 _ rfl; have c4 := B.out.box 4 _ rfl; have c5 := B.out.box 5 _ rfl; have c6 := B.out.box 6 _ rfl; have c7 := B.out.box 7 _ rfl; have c8 := B.out.box 8 _ rfl; have c9 := B.out.box 9 _ rfl; have c10 := B.out.box 10 _ rfl; have c11 := B.out.box 11 _ rfl; have c12 := B.out.box 12 _ rfl; have d0 := B.out.c0; have d1 := B.out.c1))
    clear d0 d1 c0 c1 c2 c3 c4 c5 c6 c7 c8 c9 c10 c11 c12
    go_roundg (gk - 1)
    case measure => omega
    case rel => exact ⟨i + 1, Y + 1, by rw [HY.out]; omega, by omega, by go_num, by rw [Hn.out], by rw [Hn.out]; exact B.out⟩
   | true =>
    have C0 := Lib.hid (show ∀ W, Ext w W → Calls Tryz.prog 84 #[sheetV (ofSh s) ot cap, .slice om m.length cm, .int .i64 0, .int .i64 (Y : Nat)] W fun e w' => e = .returned (.bool true) ∧ Ext W w' from fun W hW => by have := R.out 0 (by omega) Y (by omega) W hW; rw [hm0] at this; exact this)

    cases hm1 : may s m 1 Y with
    | false =>
     have C1 := Lib.hid (show ∀ W, Ext w W → Calls Tryz.prog 84 #[sheetV (ofSh s) ot cap, .slice om m.length cm, .int .i64 1, .int .i64 (Y : Nat)] W fun e w' => e = .returned (.bool false) ∧ Ext W w' from fun W hW => by have := R.out 1 (by omega) Y (by omega) W hW; rw [hm1] at this; exact this)

     have Hn := Lib.hid (yearsTo_no (s := s) (m := m) (k := i) (p := 1) (by omega) (by rw [← HY.out]; exact hm1))
     go_wp2_with (first | (go_at_call 84; refine (C0.out _ B.out.ext).mono ?_; rintro e w5 ⟨rfl, hE5⟩; replace B := Lib.hid (B.out.next hE5); clear hE5 d0 d1 C0 c0 c1 c2 c3 c4 c5 c6 c7 c8 c9 c10 c11 c12; have c0 := B.out.box 0 _ rfl; have c1 := B.out.box 1 _ rfl; have c2 := B.out.box 2 _ rfl; have c3 := B.out.box 3 _ rfl; have c4 := B.out.box 4 _ rfl; have c5 := B.out.box 5 _ rfl; have c6 := B.out.box 6 _ rfl; have c7 := B.out.box 7 _ rfl; have c8 := B.out.box 8 _ rfl; have c9 := B.out.box 9 _ rfl; have c10 := B.out.box 10 _ rfl; have c11 := B.out.box 11 _ rfl; have c12 := B.out.box 12 _ rfl; have d0 := B.out.c0; have d1 := B.out.c1) | (go_at_call 84; refine (C1.out _ B.out.ext).mono ?_; rintro e w5 ⟨rfl, hE5⟩; replace B := Lib.hid (B.out.next hE5); clear hE5 d0 d1 C1 c0 c1 c2 c3 c4 c5 c6 c7 c8 c9 c10 c11 c12; have c0 := B.out.box 0 _ rfl; have c1 := B.out.box 1 _ rfl; have c2 := B.out.box 2 _ rfl; have c3 := B.out.box 3 _ rfl; have c4 := B.out.box 4 _ rfl; have c5 := B.out.box 5 _ rfl; have c6 := B.out.box 6 _ rfl; have c7 := B.out.box 7 _ rfl; have c8 := B.out.box 8 _ rfl; have c9 := B.out.box 9 _ rfl; have c10 := B.out.box 10 _ rfl; have c11 := B.out.box 11 _ rfl; have c12 := B.out.box 12 _ rfl; have d0 := B.out.c0; have d1 := B.out.c1))
     clear d0 d1 c0 c1 c2 c3 c4 c5 c6 c7 c8 c9 c10 c11 c12
     go_roundg (gk - 1)
     case measure => omega
     case rel => exact ⟨i + 1, Y + 1, by rw [HY.out]; omega, by omega, by go_num, by rw [Hn.out], by rw [Hn.out]; exact B.out⟩
    | true =>
     have C1 := Lib.hid (show ∀ W, Ext w W → Calls Tryz.prog 84 #[sheetV (ofSh s) ot cap, .slice om m.length cm, .int .i64 1, .int .i64 (Y : Nat)] W fun e w' => e = .returned (.bool true) ∧ Ext W w' from fun W hW => by have := R.out 1 (by omega) Y (by omega) W hW; rw [hm1] at this; exact this)

     cases hm2 : may s m 2 Y with
     | false =>
      have C2 := Lib.hid (show ∀ W, Ext w W → Calls Tryz.prog 84 #[sheetV (ofSh s) ot cap, .slice om m.length cm, .int .i64 2, .int .i64 (Y : Nat)] W fun e w' => e = .returned (.bool false) ∧ Ext W w' from fun W hW => by have := R.out 2 (by omega) Y (by omega) W hW; rw [hm2] at this; exact this)

      have Hn := Lib.hid (yearsTo_no (s := s) (m := m) (k := i) (p := 2) (by omega) (by rw [← HY.out]; exact hm2))
      go_wp2_with (first | (go_at_call 84; refine (C0.out _ B.out.ext).mono ?_; rintro e w5 ⟨rfl, hE5⟩; replace B := Lib.hid (B.out.next hE5); clear hE5 d0 d1 C0 c0 c1 c2 c3 c4 c5 c6 c7 c8 c9 c10 c11 c12; have c0 := B.out.box 0 _ rfl; have c1 := B.out.box 1 _ rfl; have c2 := B.out.box 2 _ rfl; have c3 := B.out.box 3 _ rfl; have c4 := B.out.box 4 _ rfl; have c5 := B.out.box 5 _ rfl; have c6 := B.out.box 6 _ rfl; have c7 := B.out.box 7 _ rfl; have c8 := B.out.box 8 _ rfl; have c9 := B.out.box 9 _ rfl; have c10 := B.out.box 10 _ rfl; have c11 := B.out.box 11 _ rfl; have c12 := B.out.box 12 _ rfl; have d0 := B.out.c0; have d1 := B.out.c1) | (go_at_call 84; refine (C1.out _ B.out.ext).mono ?_; rintro e w5 ⟨rfl, hE5⟩; replace B := Lib.hid (B.out.next hE5); clear hE5 d0 d1 C1 c0 c1 c2 c3 c4 c5 c6 c7 c8 c9 c10 c11 c12; have c0 := B.out.box 0 _ rfl; have c1 := B.out.box 1 _ rfl; have c2 := B.out.box 2 _ rfl; have c3 := B.out.box 3 _ rfl; have c4 := B.out.box 4 _ rfl; have c5 := B.out.box 5 _ rfl; have c6 := B.out.box 6 _ rfl; have c7 := B.out.box 7 _ rfl; have c8 := B.out.box 8 _ rfl; have c9 := B.out.box 9 _ rfl; have c10 := B.out.box 10 _ rfl; have c11 := B.out.box 11 _ rfl; have c12 := B.out.box 12 _ rfl; have d0 := B.out.c0; have d1 := B.out.c1) | (go_at_call 84; refine (C2.out _ B.out.ext).mono ?_; rintro e w5 ⟨rfl, hE5⟩; replace B := Lib.hid (B.out.next hE5); clear hE5 d0 d1 C2 c0 c1 c2 c3 c4 c5 c6 c7 c8 c9 c10 c11 c12; have c0 := B.out.box 0 _ rfl; have c1 := B.out.box 1 _ rfl; have c2 := B.out.box 2 _ rfl; have c3 := B.out.box 3 _ rfl; have c4 := B.out.box 4 _ rfl; have c5 := B.out.box 5 _ rfl; have c6 := B.out.box 6 _ rfl; have c7 := B.out.box 7 _ rfl; have c8 := B.out.box 8 _ rfl; have c9 := B.out.box 9 _ rfl; have c10 := B.out.box 10 _ rfl; have c11 := B.out.box 11 _ rfl; have c12 := B.out.box 12 _ rfl; have d0 := B.out.c0; have d1 := B.out.c1))
      clear d0 d1 c0 c1 c2 c3 c4 c5 c6 c7 c8 c9 c10 c11 c12
      go_roundg (gk - 1)
      case measure => omega
      case rel => exact ⟨i + 1, Y + 1, by rw [HY.out]; omega, by omega, by go_num, by rw [Hn.out], by rw [Hn.out]; exact B.out⟩
     | true =>
      have C2 := Lib.hid (show ∀ W, Ext w W → Calls Tryz.prog 84 #[sheetV (ofSh s) ot cap, .slice om m.length cm, .int .i64 2, .int .i64 (Y : Nat)] W fun e w' => e = .returned (.bool true) ∧ Ext W w' from fun W hW => by have := R.out 2 (by omega) Y (by omega) W hW; rw [hm2] at this; exact this)

      have Hn := Lib.hid (yearsTo_all (s := s) (m := m) (k := i) (by rw [← HY.out]; exact hm0) (by rw [← HY.out]; exact hm1) (by rw [← HY.out]; exact hm2))
      by_cases hnil : yearsTo s m i = []
      ·have hdn : anyY (yearsTo s m i) = false := by rw [hnil]; rfl
       go_wp2_with (first | (go_at_call 84; refine (C0.out _ B.out.ext).mono ?_; rintro e w5 ⟨rfl, hE5⟩; replace B := Lib.hid (B.out.next hE5); clear hE5 d0 d1 C0 c0 c1 c2 c3 c4 c5 c6 c7 c8 c9 c10 c11 c12; have c0 := B.out.box 0 _ rfl; have c1 := B.out.box 1 _ rfl; have c2 := B.out.box 2 _ rfl; have c3 := B.out.box 3 _ rfl; have c4 := B.out.box 4 _ rfl; have c5 := B.out.box 5 _ rfl; have c6 := B.out.box 6 _ rfl; have c7 := B.out.box 7 _ rfl; have c8 := B.out.box 8 _ rfl; have c9 := B.out.box 9 _ rfl; have c10 := B.out.box 10 _ rfl; have c11 := B.out.box 11 _ rfl; have c12 := B.out.box 12 _ rfl; have d0 := B.out.c0; have d1 := B.out.c1) | (go_at_call 84; refine (C1.out _ B.out.ext).mono ?_; rintro e w5 ⟨rfl, hE5⟩; replace B := Lib.hid (B.out.next hE5); clear hE5 d0 d1 C1 c0 c1 c2 c3 c4 c5 c6 c7 c8 c9 c10 c11 c12; have c0 := B.out.box 0 _ rfl; have c1 := B.out.box 1 _ rfl; have c2 := B.out.box 2 _ rfl; have c3 := B.out.box 3 _ rfl; have c4 := B.out.box 4 _ rfl; have c5 := B.out.box 5 _ rfl; have c6 := B.out.box 6 _ rfl; have c7 := B.out.box 7 _ rfl; have c8 := B.out.box 8 _ rfl; have c9 := B.out.box 9 _ rfl; have c10 := B.out.box 10 _ rfl; have c11 := B.out.box 11 _ rfl; have c12 := B.out.box 12 _ rfl; have d0 := B.out.c0; have d1 := B.out.c1) | (go_at_call 84; refine (C2.out _ B.out.ext).mono ?_; rintro e w5 ⟨rfl, hE5⟩; replace B := Lib.hid (B.out.next hE5); clear hE5 d0 d1 C2 c0 c1 c2 c3 c4 c5 c6 c7 c8 c9 c10 c11 c12; have c0 := B.out.box 0 _ rfl; have c1 := B.out.box 1 _ rfl; have c2 := B.out.box 2 _ rfl; have c3 := B.out.box 3 _ rfl; have c4 := B.out.box 4 _ rfl; have c5 := B.out.box 5 _ rfl; have c6 := B.out.box 6 _ rfl; have c7 := B.out.box 7 _ rfl; have c8 := B.out.box 8 _ rfl; have c9 := B.out.box 9 _ rfl; have c10 := B.out.box 10 _ rfl; have c11 := B.out.box 11 _ rfl; have c12 := B.out.box 12 _ rfl; have d0 := B.out.c0; have d1 := B.out.c1; have ff0 := B.out.f0; have ff1 := B.out.f1))
       clear d0 d1 c0 c1 c2 c3 c4 c5 c6 c7 c8 c9 c10 c11 c12 ff0 ff1
       go_roundg (gk - 1)
       case measure => omega
       case rel => exact ⟨i + 1, Y + 1, by rw [HY.out]; omega, by omega, by go_num, by rw [Hn.out, any_more], by rw [Hn.out, lst_more, hnil, fst_one, ← HY.out]; exact (B.out.set (i := 0) (x := Y) (by omega)).set (i := 1) (x := Y) (by omega)⟩
      ·have hdn : anyY (yearsTo s m i) = true := any_iff.2 hnil
       go_wp2_with (first | (go_at_call 84; refine (C0.out _ B.out.ext).mono ?_; rintro e w5 ⟨rfl, hE5⟩; replace B := Lib.hid (B.out.next hE5); clear hE5 d0 d1 C0 c0 c1 c2 c3 c4 c5 c6 c7 c8 c9 c10 c11 c12; have c0 := B.out.box 0 _ rfl; have c1 := B.out.box 1 _ rfl; have c2 := B.out.box 2 _ rfl; have c3 := B.out.box 3 _ rfl; have c4 := B.out.box 4 _ rfl; have c5 := B.out.box 5 _ rfl; have c6 := B.out.box 6 _ rfl; have c7 := B.out.box 7 _ rfl; have c8 := B.out.box 8 _ rfl; have c9 := B.out.box 9 _ rfl; have c10 := B.out.box 10 _ rfl; have c11 := B.out.box 11 _ rfl; have c12 := B.out.box 12 _ rfl; have d0 := B.out.c0; have d1 := B.out.c1) | (go_at_call 84; refine (C1.out _ B.out.ext).mono ?_; rintro e w5 ⟨rfl, hE5⟩; replace B := Lib.hid (B.out.next hE5); clear hE5 d0 d1 C1 c0 c1 c2 c3 c4 c5 c6 c7 c8 c9 c10 c11 c12; have c0 := B.out.box 0 _ rfl; have c1 := B.out.box 1 _ rfl; have c2 := B.out.box 2 _ rfl; have c3 := B.out.box 3 _ rfl; have c4 := B.out.box 4 _ rfl; have c5 := B.out.box 5 _ rfl; have c6 := B.out.box 6 _ rfl; have c7 := B.out.box 7 _ rfl; have c8 := B.out.box 8 _ rfl; have c9 := B.out.box 9 _ rfl; have c10 := B.out.box 10 _ rfl; have c11 := B.out.box 11 _ rfl; have c12 := B.out.box 12 _ rfl; have d0 := B.out.c0; have d1 := B.out.c1) | (go_at_call 84; refine (C2.out _ B.out.ext).mono ?_; rintro e w5 ⟨rfl, hE5⟩; replace B := Lib.hid (B.out.next hE5); clear hE5 d0 d1 C2 c0 c1 c2 c3 c4 c5 c6 c7 c8 c9 c10 c11 c12; have c0 := B.out.box 0 _ rfl; have c1 := B.out.box 1 _ rfl; have c2 := B.out.box 2 _ rfl; have c3 := B.out.box 3 _ rfl; have c4 := B.out.box 4 _ rfl; have c5 := B.out.box 5 _ rfl; have c6 := B.out.box 6 _ rfl; have c7 := B.out.box 7 _ rfl; have c8 := B.out.box 8 _ rfl; have c9 := B.out.box 9 _ rfl; have c10 := B.out.box 10 _ rfl; have c11 := B.out.box 11 _ rfl; have c12 := B.out.box 12 _ rfl; have d0 := B.out.c0; have d1 := B.out.c1; have ff0 := B.out.f0; have ff1 := B.out.f1))
       clear d0 d1 c0 c1 c2 c3 c4 c5 c6 c7 c8 c9 c10 c11 c12 ff0 ff1
       go_roundg (gk - 1)
       case measure => omega
       case rel => exact ⟨i + 1, Y + 1, by rw [HY.out]; omega, by omega, by go_num, by rw [Hn.out, any_more], by rw [Hn.out, lst_more, fst_more hnil, ← HY.out]; exact B.out.set (i := 1) (x := Y) (by omega)⟩
  ·have hle : ¬ (Y : Int) ≤ (ofSh s).yhi := by show ¬ (Y : Int) ≤ (s.yhi : Int); omega
   clear hY
   have hii : i = s.yhi + 1 - s.ylo := by omega
   clear hlt hi
   have hys : yearsTo s m i = yearsOf s m := by rw [hii]; exact Hend.out
   clear hii
   rw [hys] at B ⊢
   have d0 := B.out.c0
   have d1 := B.out.c1
   have r0 := B.out.r0
   have r1 := B.out.r1
   have g0 := B.out.q0
   have g1 := B.out.q1
   go_wp2
   refine bodyPost_ret (v := .tuple #[spanV (fstY (yearsOf s m) : Nat) (lstY (yearsOf s m) : Nat), .bool (anyY (yearsOf s m))]) (results_cellst (n := 2) rfl (by kernel_rfl) (by kernel_rfl) _ (w.heap.size + 1) [.int .i64 (fstY (yearsOf s m) : Nat), .int .i64 (lstY (yearsOf s m) : Nat)] _ rfl (by simp) (by simp) (fun j v hv => ?_)) (by simp) ⟨rfl, ?_⟩
   ·match j, hv with
    | 0, hv => cases hv; go_simp
    | 1, hv => cases hv; go_simp
   ·exact ext_set (ext_set B.out.ext (by omega)) (by omega)

end Go.Proofs.YtjpekonfjihcoaaGreatDoor
/- Contract: the reference's Word. No condition beyond sheets and mixtures as defined. -/
namespace Go.Proofs.YtjpekonfjihcoaaGreatDoor
open Go.RowKit Go.My Go.TintM

theorem word_three {s : Sh} {m : List Nat} (h : offOf s m ≤ (s.off : Int)) : wordOf s m = 3 := by unfold wordOf; rw [if_pos h]
theorem word_two {s : Sh} {m : List Nat} (h : ¬ offOf s m ≤ (s.off : Int)) (h2 : anyY (yearsOf s m) = true) : wordOf s m = 2 := by unfold wordOf; rw [if_neg h, if_pos (any_iff.1 h2)]
theorem word_one {s : Sh} {m : List Nat} (h : ¬ offOf s m ≤ (s.off : Int)) (h2 : anyY (yearsOf s m) = false) : wordOf s m = 1 := by
 unfold wordOf
 rw [if_neg h, if_neg]
 intro k
 rw [any_iff.2 k] at h2
 cases h2

theorem rWord_any (s : Sh) (g : Fine s) (m : List Nat) (hm : IsMix s m) (ot : Option Addr) (cap : Nat) (om : Option Addr) (cm : Nat) (w : World) (h : TinsAt w ot (ofSh s).tins) (hi : IntsAt w om (upL m)) :
  Calls Tryz.prog 31 #[sheetV (ofSh s) ot cap, .slice om m.length cm] w fun e w' => e = .returned (.int .i64 (wordOf s m)) ∧ Ext w w' := by
 have R85 := Lib.hid (fun W (hW : Ext w W) => rNeeded_any s g m hm ot cap om cm W (h.ext hW) (hi.ext hW))
 have R30 := Lib.hid (fun W (hW : Ext w W) => rYears_any s g m hm ot cap om cm W (h.ext hW) (hi.ext hW))
 have W3 := Lib.hid (fun hh => word_three (s := s) (m := m) hh)
 have W2 := Lib.hid (fun hh h2 => word_two (s := s) (m := m) hh h2)
 have W1 := Lib.hid (fun hh h2 => word_one (s := s) (m := m) hh h2)
 clear h hi hm g
 generalize wordOf s m = V at *
 generalize offOf s m = F at *
 generalize anyY (yearsOf s m) = b at *
 generalize fstY (yearsOf s m) = y0 at *
 generalize lstY (yearsOf s m) = y1 at *
 go_enter Tryz.func31, Tryz.ntmps31
 go_wp2_with fail
 obtain ⟨wr, hwr⟩ : ∃ wr, wr = w.alloc (.cells (sheetC (ofSh s) ot cap) 28) := ⟨_, rfl⟩
 have HWr := Lib.hid (show Ext w wr by rw [hwr]; exact (Ext.refl w).alloc _)
 have HP := Lib.hid (show SheetBox wr w.heap.size (ofSh s) ot cap by rw [hwr]; exact SheetBox.new _ _ _ _)
 rw [← hwr]
 clear hwr
 have c0 := HP.out 0 _ rfl; have c1 := HP.out 1 _ rfl; have c2 := HP.out 2 _ rfl; have c3 := HP.out 3 _ rfl; have c4 := HP.out 4 _ rfl; have c5 := HP.out 5 _ rfl; have c6 := HP.out 6 _ rfl; have c7 := HP.out 7 _ rfl; have c8 := HP.out 8 _ rfl; have c9 := HP.out 9 _ rfl; have c10 := HP.out 10 _ rfl; have c11 := HP.out 11 _ rfl; have c12 := HP.out 12 _ rfl
 refine wp_region_plan (.take 0 <| .take 1 <| .take 3 <| .take 4 <| .only 2 <| .take 5 <| .done) (fun W => Ext wr W) mixed (by kernel_rfl) (by kernel_rfl) rfl (fun _ _ d _ _ h => by cases d <;> exact h) ((Ext.refl wr).drew) ?_
 repeat ((first | (refine plan_take (v := ?_) rfl rfl (fun W hW => ?_) ?_; rotate_left; (focus (have d0 := cell_ext hW c0; have d1 := cell_ext hW c1; have d2 := cell_ext hW c2; have d3 := cell_ext hW c3; have d4 := cell_ext hW c4; have d5 := cell_ext hW c5; have d6 := cell_ext hW c6; have d7 := cell_ext hW c7; have d8 := cell_ext hW c8; have d9 := cell_ext hW c9; have d10 := cell_ext hW c10; have d11 := cell_ext hW c11; have d12 := cell_ext hW c12; go_simp; first | exact rfl | (split <;> first | exact rfl | (exfalso; omega)) | done))) | refine plan_skip rfl rfl ?_); simp only [puts])
 clear c0 c1 c2 c3 c4 c5 c6 c7 c8 c9 c10 c11 c12
 refine plan_walk rfl ?_; intro K hK
 go_wp2_with (first | (go_at_call 85; refine (R85.out _ (HWr.out.trans (Ext.refl wr).drew)).mono ?_; rintro e w5 ⟨rfl, hE5⟩))
 have X := Lib.hid ((Ext.refl wr).drew.trans hE5)
 refine hK _ _ X.out ?_
 repeat ((first | (refine plan_take (v := ?_) rfl rfl (fun W hW => ?_) ?_; rotate_left; (focus (skip; go_simp; first | exact rfl | (split <;> first | exact rfl | (exfalso; omega)) | done))) | refine plan_skip rfl rfl ?_); simp only [puts])
 refine plan_done ?_
 clear hE5
 have HE := Lib.hid (HWr.out.trans X.out)
 have HP5 := Lib.hid (HP.out.ext X.out)
 clear HP X HWr
 by_cases hF : F ≤ (s.off : Int)
 ·have hF2 : F ≤ (ofSh s).off := hF
  obtain rfl := W3.out hF
  clear W1 W2 W3 hF
  go_wp2
  go_ret
  exact ⟨rfl, HE.out⟩
 ·have HF := Lib.hid hF
  have hF2 : ¬ F ≤ (ofSh s).off := hF
  have c0 := HP5.out 0 _ rfl; have c1 := HP5.out 1 _ rfl; have c2 := HP5.out 2 _ rfl; have c3 := HP5.out 3 _ rfl; have c4 := HP5.out 4 _ rfl; have c5 := HP5.out 5 _ rfl; have c6 := HP5.out 6 _ rfl; have c7 := HP5.out 7 _ rfl; have c8 := HP5.out 8 _ rfl; have c9 := HP5.out 9 _ rfl; have c10 := HP5.out 10 _ rfl; have c11 := HP5.out 11 _ rfl; have c12 := HP5.out 12 _ rfl
  cases b with
  | true =>
   obtain rfl := W2.out (by have := HF.out; omega) rfl
   clear W1 W2 W3 hF
   go_wp2_with (first | (go_at_call 30; refine (R30.out _ HE.out).mono ?_; rintro e w6 ⟨rfl, hE6⟩))
   go_ret
   exact ⟨rfl, (HE.out.trans hE6).alloc _⟩
  | false =>
   obtain rfl := W1.out (by have := HF.out; omega) rfl
   clear W1 W2 W3 hF
   go_wp2_with (first | (go_at_call 30; refine (R30.out _ HE.out).mono ?_; rintro e w6 ⟨rfl, hE6⟩))
   go_ret
   exact ⟨rfl, (HE.out.trans hE6).alloc _⟩

end Go.Proofs.YtjpekonfjihcoaaGreatDoor
