/- Contract: the reference's can. No condition beyond sheets and mixtures as defined. -/
import Derived.ArgAppend
import Derived.Below
import Derived.BigQuiet
import Derived.Deep.DeepCutAuto
import Derived.Deep.DeepFit
import Derived.Deep.LoopGhost
import Derived.Deep.QuietTactic
import Derived.Deep.RegionHeld
import Derived.Deep.RegionHeld3
import Derived.Deep.RegionWith
import Derived.Defers
import Derived.Laws.EntriesVeiled
import Derived.Laws.OwnMore
import Derived.Lib.Hide
import Derived.Lib.IndexBytes
import Derived.Lib.ItoaNum
import Derived.Lib.SplitLaws
import Derived.LoopIn
import Derived.LoopNIn
import Derived.Maps.AppendAt
import Derived.Maps.Keyed
import Derived.Maps.OwnIn
import Derived.OrdersHeld
import Derived.OwnWalkIn
import Derived.RangeFuncBound
import Derived.RangeFuncCalls
import Derived.RangeFuncLeaves
import Derived.RangeFuncNested
import Derived.Recover
import Derived.RegionIn
import Derived.Shelf.Abstract
import Derived.TacticsIn
import Derived.TacticsInMore
import Derived.Test.YtjpekonfjihcoaaGreatDoorProg
import Derived.WalkKit
import Derived.WalkLawsBesides
import Derived.WalkSpells
import Derived.Test.YtjpekonfjihcoaaGreatDoorM2
import Derived.Test.YtjpekonfjihcoaaGreatDoorM10
import Derived.Test.YtjpekonfjihcoaaGreatDoorR1
import Derived.Test.YtjpekonfjihcoaaGreatDoorM4
import Derived.Test.YtjpekonfjihcoaaGreatDoorM3
import Derived.Test.YtjpekonfjihcoaaGreatDoorM14
import Derived.Test.YtjpekonfjihcoaaGreatDoorM15
import Derived.Test.YtjpekonfjihcoaaGreatDoorM1
import Derived.Test.YtjpekonfjihcoaaGreatDoorM17
namespace Go.TintM
end Go.TintM
set_option linter.unusedVariables false
set_option linter.unusedSimpArgs false
namespace Go.Proofs.YtjpekonfjihcoaaGreatDoor
open Go.RowKit Go.My Go.TintM

set_option maxRecDepth 100000 in
set_option maxHeartbeats 8000000 in
theorem can_any (s : Sh) (g : Fine s) (m : List Nat) (hm : IsMix s m) (ot : Option Addr) (cap : Nat) (om : Option Addr) (cm p y : Nat) (hp : p < 3) (hy : y ≤ 20) (w : World) (h : TinsAt w ot (ofSh s).tins) (hi : IntsAt w om (upL m)) :
    Calls Tryz.prog 84 #[sheetV (ofSh s) ot cap, .slice om m.length cm, .int .i64 p, .int .i64 y] w fun e w' => e = .returned (.bool (may s m p y)) ∧ Ext w w' := by
  have hm8 : (upL m).all in8 = true := by
    rw [List.all_eq_true]
    intro x hx
    obtain ⟨n, hn, rfl⟩ := List.mem_map.1 hx
    have := hm.le n hn
    simp [in8, inB]; omega
  have hml : (upL m).length ≤ 1000 := by rw [upL_length, hm.len]; have := g.len2; omega
  have R62 := Lib.hid (fun W (hW : Ext w W) => rSums_any s g m hm ot cap om cm W (h.ext hW) (hi.ext hW))
  have R59 := Lib.hid (fun W (hW : Ext w W) => parts_any (upL m) om cm W (hi.ext hW) hml hm8)
  rw [upL_length, sum_up] at R59
  have hidx := fun (W : World) => index25 (lowS s m) (highS s m) hp W
  have ho := g.old p hp
  have hf1 := g.flo p hp
  have hf2 := g.fhi p hp
  have hoff := g.off2
  have R35 := Lib.hid (fun f (hf : f ≤ 9) W => faded_any s g ot cap p y f hp hy hf W)
  have Hno := Lib.hid (fun k (hk : s.fhi p + 1 - s.flo p ≤ k) (hh : ∀ j, j < k → canF s m p y (s.flo p + j) = false) => may_no hk hh)
  have Hyes := Lib.hid (fun k (hk : k < s.fhi p + 1 - s.flo p) (hh : canF s m p y (s.flo p + k) = true) => may_yes hk hh)
  have Hcan := Lib.hid (fun f => (show canF s m p y f = (decide (lowS s m p ≤ m.sum * left (s.old p) y f + m.sum * s.off) && decide (m.sum * left (s.old p) y f ≤ highS s m p + m.sum * s.off)) from rfl))
  have hhi := high_small g hm hp
  rw [hm.len] at hhi
  have hl4 := g.len2
  have hlow : lowS s m p ≤ highS s m p := low_high g hm.len hp
  have hs8 := hm.sum
  have hso := Nat.mul_le_mul hm.sum g.off2
  have Hle := Lib.hid (fun f => Nat.mul_le_mul hm.sum (Nat.le_trans (left_le (s.old p) y f) ho))
  clear h hi hm8 hml hm g
  generalize lowS s m p = L at *
  generalize highS s m p = H at *
  generalize m.sum = N at *
  go_enter Tryz.func84, Tryz.ntmps84
  go_wp2_with fail
  obtain ⟨wr, hwr⟩ : ∃ wr, wr = w.alloc (.cells (sheetC (ofSh s) ot cap) 28) := ⟨_, rfl⟩
  have HWr := Lib.hid (show Ext w wr by rw [hwr]; exact (Ext.refl w).alloc _)
  have HP := Lib.hid (show SheetBox wr w.heap.size (ofSh s) ot cap by rw [hwr]; exact SheetBox.new _ _ _ _)
  have c0 := HP.out 0 _ rfl
  have c1 := HP.out 1 _ rfl
  have c2 := HP.out 2 _ rfl
  have c3 := HP.out 3 _ rfl
  have c4 := HP.out 4 _ rfl
  have c5 := HP.out 5 _ rfl
  have c6 := HP.out 6 _ rfl
  have c7 := HP.out 7 _ rfl
  have c8 := HP.out 8 _ rfl
  have c9 := HP.out 9 _ rfl
  have c10 := HP.out 10 _ rfl
  have c11 := HP.out 11 _ rfl
  have c12 := HP.out 12 _ rfl
  rw [← hwr]
  clear hwr
  refine wp_region_plan (.take 0 <| .take 1 <| .take 3 <| .take 5 <| .two 2 7 (.take 4 <| .two 6 7 (.only 7 <| .only 8 <| .take 9 <| .done) (.only 6 <| .only 8 <| .take 9 <| .done)) (.only 2 <| .take 4 <| .only 6 <| .only 8 <| .take 9 <| .done)) (fun W => Ext wr W) mixed (by kernel_rfl) (by kernel_rfl) rfl (fun _ _ d _ _ h => by cases d <;> exact h) ((Ext.refl wr).drew) ?_
  repeat ((first | (refine plan_take (v := ?_) rfl rfl (fun W hW => ?_) ?_; rotate_left; (focus (have d0 := cell_ext hW c0; have d1 := cell_ext hW c1; have d2 := cell_ext hW c2; have d3 := cell_ext hW c3; have d4 := cell_ext hW c4; have d5 := cell_ext hW c5; have d6 := cell_ext hW c6; have d7 := cell_ext hW c7; have d8 := cell_ext hW c8; have d9 := cell_ext hW c9; have d10 := cell_ext hW c10; have d11 := cell_ext hW c11; have d12 := cell_ext hW c12; go_simp; first | exact rfl | (split <;> first | exact rfl | (exfalso; omega)) | done))) | refine plan_skip rfl rfl ?_); simp only [Act.put, List.setIfInBounds_toArray, List.set_cons_zero, List.set_cons_succ])
  clear c0 c1 c2 c3 c4 c5 c6 c7 c8 c9 c10 c11 c12
  refine plan_share (fun A a' w' => ∃ (q7 : Nat), a' = (((((A.put (some 15) (sumsV s m)).put (some 17) (spanV L H)).put (some 19) (.int .i64 N)).put (some 9) (.pointer (some ⟨q7, 0, none⟩))).put (some 10) (.int .i64 N)) ∧ Ext wr w' ∧ FS w' q7 L H) ?_ ?_
  · obtain ⟨wd, hwd⟩ : ∃ wd, wd = wr.drew := ⟨_, rfl⟩
    have ed : Ext wr wd := by rw [hwd]; exact (Ext.refl wr).drew
    rw [← hwd]
    clear hwd
    refine plan_two rfl rfl ?_ ?_
    · intro K hK
      go_wp2_with (first | (go_at_call 62; refine (R62.out _ (HWr.out.trans ed)).mono ?_; rintro e w1 ⟨rfl, h1⟩))
      have e1 := ed.trans h1
      refine hK _ _ e1 ?_
      repeat ((first | (refine plan_take (v := ?_) rfl rfl (fun W hW => ?_) ?_; rotate_left; (focus (skip; go_simp; first | exact rfl | (split <;> first | exact rfl | (exfalso; omega)) | done))) | refine plan_skip rfl rfl ?_); simp only [Act.put, List.setIfInBounds_toArray, List.set_cons_zero, List.set_cons_succ])
      refine plan_two rfl rfl ?_ ?_
      · intro K hK
        go_wp2_with (first | (go_at_call 59; refine (R59.out _ (HWr.out.trans e1)).mono ?_; rintro e w2 ⟨rfl, rfl⟩))
        refine hK _ _ e1 ?_
        refine plan_walk rfl ?_; intro K hK
        go_wp2
        have e3 := e1.alloc (.cells #[.int .i64 0, .int .i64 0] 24)
        have n3 := ZS.new w1
        obtain ⟨w3, hw3⟩ : ∃ W, W = w1.alloc (.cells #[.int .i64 0, .int .i64 0] 24) := ⟨_, rfl⟩
        rw [← hw3] at e3 n3 ⊢
        clear hw3
        have s7 := e1.size
        refine hK _ _ e3 ?_
        refine plan_walk rfl ?_; intro K hK
        have hT := one_span n3 e3 (by omega) L H
        have HT := Lib.hid hT
        clear hT
        have a0 := n3.c0; have a1 := n3.c1; have f0 := n3.f0; have f1 := n3.f1
        go_wp2
        refine hK _ _ HT.out.1 ?_
        repeat ((first | (refine plan_take (v := ?_) rfl rfl (fun W hW => ?_) ?_; rotate_left; (focus (skip; go_simp; first | exact rfl | (split <;> first | exact rfl | (exfalso; omega)) | done))) | refine plan_skip rfl rfl ?_); simp only [Act.put, List.setIfInBounds_toArray, List.set_cons_zero, List.set_cons_succ])
        refine plan_met ?_
        exact ⟨_, rfl, HT.out.1, HT.out.2⟩
      · intro K hK
        go_wp2
        have e5 := e1.alloc (.cells #[.int .i64 0, .int .i64 0] 24)
        have n5 := ZS.new w1
        obtain ⟨w5, hw5⟩ : ∃ W, W = w1.alloc (.cells #[.int .i64 0, .int .i64 0] 24) := ⟨_, rfl⟩
        rw [← hw5] at e5 n5 ⊢
        clear hw5
        have s7 := e1.size
        refine hK _ _ e5 ?_
        refine plan_walk rfl ?_; intro K hK
        go_wp2_with (first | (go_at_call 59; refine (R59.out _ (HWr.out.trans e5)).mono ?_; rintro e w6 ⟨rfl, rfl⟩))
        refine hK _ _ e5 ?_
        refine plan_walk rfl ?_; intro K hK
        have hT := one_span n5 e5 (by omega) L H
        have HT := Lib.hid hT
        clear hT
        have a0 := n5.c0; have a1 := n5.c1; have f0 := n5.f0; have f1 := n5.f1
        go_wp2
        refine hK _ _ HT.out.1 ?_
        repeat ((first | (refine plan_take (v := ?_) rfl rfl (fun W hW => ?_) ?_; rotate_left; (focus (skip; go_simp; first | exact rfl | (split <;> first | exact rfl | (exfalso; omega)) | done))) | refine plan_skip rfl rfl ?_); simp only [Act.put, List.setIfInBounds_toArray, List.set_cons_zero, List.set_cons_succ])
        refine plan_met ?_
        exact ⟨_, rfl, HT.out.1, HT.out.2⟩
    · intro K hK
      go_wp2
      have e8 := ed.alloc (.cells #[.int .i64 0, .int .i64 0] 24)
      have n8 := ZS.new wd
      obtain ⟨w8, hw8⟩ : ∃ W, W = wd.alloc (.cells #[.int .i64 0, .int .i64 0] 24) := ⟨_, rfl⟩
      rw [← hw8] at e8 n8 ⊢
      clear hw8
      have s7 := ed.size
      refine hK _ _ e8 ?_
      refine plan_walk rfl ?_; intro K hK
      go_wp2_with (first | (go_at_call 62; refine (R62.out _ (HWr.out.trans e8)).mono ?_; rintro e w9 ⟨rfl, h9⟩))
      have e9 := e8.trans h9
      have z_9 := n8.ext h9
      refine hK _ _ e9 ?_
      repeat ((first | (refine plan_take (v := ?_) rfl rfl (fun W hW => ?_) ?_; rotate_left; (focus (skip; go_simp; first | exact rfl | (split <;> first | exact rfl | (exfalso; omega)) | done))) | refine plan_skip rfl rfl ?_); simp only [Act.put, List.setIfInBounds_toArray, List.set_cons_zero, List.set_cons_succ])
      refine plan_walk rfl ?_; intro K hK
      go_wp2_with (first | (go_at_call 59; refine (R59.out _ (HWr.out.trans e9)).mono ?_; rintro e w10 ⟨rfl, rfl⟩))
      refine hK _ _ e9 ?_
      refine plan_walk rfl ?_; intro K hK
      have hT := one_span z_9 e9 (by omega) L H
      have HT := Lib.hid hT
      clear hT
      have a0 := z_9.c0; have a1 := z_9.c1; have f0 := z_9.f0; have f1 := z_9.f1
      go_wp2
      refine hK _ _ HT.out.1 ?_
      repeat ((first | (refine plan_take (v := ?_) rfl rfl (fun W hW => ?_) ?_; rotate_left; (focus (skip; go_simp; first | exact rfl | (split <;> first | exact rfl | (exfalso; omega)) | done))) | refine plan_skip rfl rfl ?_); simp only [Act.put, List.setIfInBounds_toArray, List.set_cons_zero, List.set_cons_succ])
      refine plan_met ?_
      exact ⟨_, rfl, HT.out.1, HT.out.2⟩
  · intro a' w4 ⟨q7, ha', hE, F7⟩
    subst ha'
    simp only [Act.put, List.setIfInBounds_toArray, List.set_cons_zero, List.set_cons_succ]
    have HE := Lib.hid (HWr.out.trans hE)
    have HP4 := Lib.hid (HP.out.ext hE)
    have b1 := (box_fade HP4.out hp).1
    have b2 := (box_fade HP4.out hp).2
    have HF := Lib.hid F7
    have hpI : (p : Int) < 3 := by omega
    have f0 := HF.out.c0
    have f1 := HF.out.c1
    have c0 := HP4.out 0 _ rfl
    have c1 := HP4.out 1 _ rfl
    have c2 := HP4.out 2 _ rfl
    have c3 := HP4.out 3 _ rfl
    have c4 := HP4.out 4 _ rfl
    have c5 := HP4.out 5 _ rfl
    have c6 := HP4.out 6 _ rfl
    have c7 := HP4.out 7 _ rfl
    have c8 := HP4.out 8 _ rfl
    have c9 := HP4.out 9 _ rfl
    have c10 := HP4.out 10 _ rfl
    have c11 := HP4.out 11 _ rfl
    have c12 := HP4.out 12 _ rfl
    have c11' : w4.cell? ⟨w.heap.size, 11, none⟩ = some (.int .i64 s.off) := c11
    clear HP hE F7 HWr HF hidx
    generalize hFL : s.flo p = FL at *
    generalize hFH : s.fhi p = FH at *
    have B2 := Lib.hid b2
    have F0 := Lib.hid f0
    have F1 := Lib.hid f1
    clear c0 c1 c2 c3 c4 c5 c6 c7 c8 c9 c10 c11 c12 c11'
    go_wp2_with fail
    clear b1 b2 f0 f1
    go_loopg [11, 12] (FH + 1 - FL) (fun g n b wr => ∃ k F : Nat, F = FL + k ∧ k + g = FH + 1 - FL ∧ Ext w4 wr ∧ n = .int .i64 (F : Nat) ∧ ∀ j, j < k → canF s m p y (FL + j) = false)
    case atStart => exact ⟨0, FL, by omega, by omega, Ext.refl _, rfl, fun j hj => by omega⟩
    case round =>
      obtain ⟨k, F, hF, hk, hEr, rfl, hno⟩ := hrel
      have HEr := Lib.hid hEr
      have b2 := cell_ext hEr B2.out
      have HP5 := Lib.hid (HP4.out.ext hEr)
      have c0 := HP5.out 0 _ rfl; have c1 := HP5.out 1 _ rfl; have c2 := HP5.out 2 _ rfl; have c3 := HP5.out 3 _ rfl; have c4 := HP5.out 4 _ rfl; have c5 := HP5.out 5 _ rfl; have c6 := HP5.out 6 _ rfl; have c7 := HP5.out 7 _ rfl; have c8 := HP5.out 8 _ rfl; have c9 := HP5.out 9 _ rfl; have c10 := HP5.out 10 _ rfl; have c11 := HP5.out 11 _ rfl; have c12 := HP5.out 12 _ rfl
      have f0 := cell_ext hEr F0.out
      have f1 := cell_ext hEr F1.out
      clear hEr
      have HN := Lib.hid hno
      clear hno
      by_cases hlt : k < FH + 1 - FL
      · have hFle : F ≤ FH := by omega
        have hFi : (F : Int) ≤ (FH : Int) := by omega
        have hFe := Lib.hid hF
        have R := Lib.hid (R35.out F (by omega))
        have hc := Hcan.out F
        have hle := Hle.out F
        generalize left (s.old p) y F = B at *
        have i1 : ((N * B : Nat) : Int) = (N : Int) * (B : Int) := Int.natCast_mul N B
        have i2 : ((N * s.off : Nat) : Int) = (N : Int) * (s.off : Int) := Int.natCast_mul N s.off
        have q1 : IntKind.i64.wrap ((N : Int) * (B : Int)) = ((N * B : Nat) : Int) := by rw [← i1, IntWalk.i64_in _ (by omega)]
        have q2 : IntKind.i64.wrap ((N : Int) * (s.off : Int)) = ((N * s.off : Nat) : Int) := by rw [← i2, IntWalk.i64_in _ (by omega)]
        clear i1 i2
        generalize N * B = X at *
        generalize N * s.off = Z at *
        have q3 : IntKind.i64.wrap ((X : Int) + (Z : Int)) = (X : Int) + (Z : Int) := by rw [IntWalk.i64_in _ (by omega)]
        have q4 : IntKind.i64.wrap ((X : Int) - (Z : Int)) = (X : Int) - (Z : Int) := by rw [IntWalk.i64_in _ (by omega)]
        have q5 : IntKind.i64.wrap ((F : Int) + 1) = (F : Int) + 1 := by rw [IntWalk.i64_in _ (by omega)]
        by_cases h1 : L ≤ X + Z
        · have h1i : (L : Int) ≤ (X : Int) + (Z : Int) := by omega
          by_cases h2 : X ≤ H + Z
          · have h2i : (X : Int) - (Z : Int) ≤ (H : Int) := by omega
            have hc1 : canF s m p y (FL + k) = true := by rw [← hF, hc]; simp [h1, h2]
            have hY := Lib.hid (Hyes.out k hlt hc1)
            clear hc hc1 hle hF hlt h1 h2 hFle
            go_wp2_with (first | (go_at_call 35; refine (R.out _).mono ?_; rintro e w6 ⟨rfl, hE6⟩; have HE6 := Lib.hid hE6; have f0 := cell_ext hE6 f0; have f1 := cell_ext hE6 f1; have c11 : World.cell? w6 ⟨w.heap.size, 11, none⟩ = some (.int .i64 s.off) := cell_ext hE6 c11; clear hE6))
            go_ret
            exact ⟨ret_bool hY.out.symm, (HE.out.trans HEr.out).trans HE6.out⟩
          · have h2i : ¬ (X : Int) - (Z : Int) ≤ (H : Int) := by omega
            have hc1 := Lib.hid (show canF s m p y (FL + k) = false by rw [← hF, hc]; simp [h1, h2])
            clear hc hle hF h1 h2 hFle
            go_wp2_with (first | (go_at_call 35; refine (R.out _).mono ?_; rintro e w6 ⟨rfl, hE6⟩; have HE6 := Lib.hid hE6; have f0 := cell_ext hE6 f0; have f1 := cell_ext hE6 f1; have c11 : World.cell? w6 ⟨w.heap.size, 11, none⟩ = some (.int .i64 s.off) := cell_ext hE6 c11; clear hE6))
            go_roundg (gk - 1)
            case measure => omega
            case rel => exact ⟨k + 1, F + 1, by have := hFe.out; omega, by omega, HEr.out.trans HE6.out, by go_num, fun j hj => by
              rcases Nat.lt_succ_iff_lt_or_eq.1 hj with hj | rfl
              · exact HN.out j hj
              · exact hc1.out⟩
        · have h1i : ¬ (L : Int) ≤ (X : Int) + (Z : Int) := by omega
          have hc1 := Lib.hid (show canF s m p y (FL + k) = false by rw [← hF, hc]; simp [h1])
          clear hc hle hF h1 hFle
          go_wp2_with (first | (go_at_call 35; refine (R.out _).mono ?_; rintro e w6 ⟨rfl, hE6⟩; have HE6 := Lib.hid hE6; have f0 := cell_ext hE6 f0; have f1 := cell_ext hE6 f1; have c11 : World.cell? w6 ⟨w.heap.size, 11, none⟩ = some (.int .i64 s.off) := cell_ext hE6 c11; clear hE6))
          go_roundg (gk - 1)
          case measure => omega
          case rel => exact ⟨k + 1, F + 1, by have := hFe.out; omega, by omega, HEr.out.trans HE6.out, by go_num, fun j hj => by
            rcases Nat.lt_succ_iff_lt_or_eq.1 hj with hj | rfl
            · exact HN.out j hj
            · exact hc1.out⟩
      · have hFi : ¬ (F : Int) ≤ (FH : Int) := by omega
        have hN := Lib.hid (Hno.out k (by omega) HN.out)
        clear hF hlt hk
        go_wp2
        go_ret
        exact ⟨ret_bool hN.out.symm, HE.out.trans HEr.out⟩

end Go.Proofs.YtjpekonfjihcoaaGreatDoor
