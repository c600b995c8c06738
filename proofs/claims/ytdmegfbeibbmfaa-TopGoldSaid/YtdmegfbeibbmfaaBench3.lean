/- Contracts: with, workOf, most, before. No condition. -/
import Derived.Test.YtdmegfbeibbmfaaBench2
import Derived.Test.YtdmegfbeibbmfaaG4
set_option linter.unusedVariables false
set_option linter.unusedSimpArgs false
namespace Go.Proofs.Ytdmegfbeibbmfaa
open Go.RowKit Go.My Go.GoldM

abbrev wkL (x : Bn) (ob : Option Addr) (cb : Nat) (os : Option Addr) (cs : Nat) (op : Option Addr) (n cp mb : Nat) : List Value := [I x.ap, .slice ob x.boards.length cb, .slice os x.sts.length cs, .slice op n cp, .map (some mb), .int .i64 (-1), .int .i64 0]
abbrev wkV (x : Bn) (ob : Option Addr) (cb : Nat) (os : Option Addr) (cs : Nat) (op : Option Addr) (n cp mb : Nat) : Value := .agg #[I x.ap, .slice ob x.boards.length cb, .slice os x.sts.length cs, .slice op n cp, .map (some mb), .int .i64 (-1), .int .i64 0]
def withAp (x : Bn) (n : Nat) : Bn := ⟨n, x.boards, x.sts⟩

set_option maxRecDepth 100000 in
set_option maxHeartbeats 1000000 in
theorem with22 (x : Bn) (n : Nat) (ob os : Option Addr) (cb cs : Nat) (w : World) :
    Calls Try.prog 22 #[bnV x ob cb os cs, I n] w fun e w' => e = .returned (bnV (withAp x n) ob cb os cs) ∧ Ext w w' := by
  go_enter Try.func22, Try.ntmps22
  go_wp2
  have hV : VB ((w.alloc (.cells (bnL (withAp x n) ob cb os cs).toArray 57)).alloc (.cells (bnL (withAp x n) ob cb os cs).toArray 57)) (w.heap.size + 1) (bnL (withAp x n) ob cb os cs) := by
    have h9 := VB.new (w.alloc (.cells (bnL (withAp x n) ob cb os cs).toArray 57)) (bnL (withAp x n) ob cb os cs) 57
    simpa only [World.size_alloc] using h9
  exact bodyPost_ret (v := bnV (withAp x n) ob cb os cs) (results_cells (n := 3) rfl (by kernel_rfl) (by kernel_rfl) _ (w.heap.size + 1) (bnL (withAp x n) ob cb os cs) rfl rfl (fun i v hv => hV i v hv)) (by simp) ⟨rfl, ((Ext.refl w).alloc _).alloc _⟩

set_option maxRecDepth 100000 in
set_option maxHeartbeats 1000000 in
theorem workOf46 (x : Bn) (ob os op : Option Addr) (cb cs n cp : Nat) (F : Int → Int → Int) (w : World) :
    Calls Try.prog 46 #[bnV x ob cb os cs, .slice op n cp] w fun e w' => ∃ mb, e = .returned (wkV x ob cb os cs op n cp mb) ∧ EndM.Memo w' mb F ∧ w.heap.size ≤ mb ∧ Ext w w' := by
  go_enter Try.func46, Try.ntmps46
  go_wp2_with (first | ((with_reducible refine EndM.at_make rfl ?_); refine EndM.wpList_make rfl rfl ?_))
  have hV : VB (((w.alloc (.cells (bnL x ob cb os cs).toArray 57)).alloc (.cells (wkL x ob cb os cs op n cp (w.heap.size + 1 + 1)).toArray 104)).alloc (.map #[] 0)) (w.heap.size + 1) (wkL x ob cb os cs op n cp (w.heap.size + 1 + 1)) := by
    have h9 := (VB.new (w.alloc (.cells (bnL x ob cb os cs).toArray 57)) (wkL x ob cb os cs op n cp (w.heap.size + 1 + 1)) 104).ext ((Ext.refl _).alloc (.map #[] 0))
    simpa only [World.size_alloc] using h9
  have hM : EndM.Memo (((w.alloc (.cells (bnL x ob cb os cs).toArray 57)).alloc (.cells (wkL x ob cb os cs op n cp (w.heap.size + 1 + 1)).toArray 104)).alloc (.map #[] 0)) (w.heap.size + 1 + 1) F := by
    have h9 := EndM.Memo.new ((w.alloc (.cells (bnL x ob cb os cs).toArray 57)).alloc (.cells (wkL x ob cb os cs op n cp (w.heap.size + 1 + 1)).toArray 104)) F
    simpa only [World.size_alloc] using h9
  exact bodyPost_ret (v := wkV x ob cb os cs op n cp (w.heap.size + 1 + 1)) (results_cells (n := 7) rfl (by kernel_rfl) (by kernel_rfl) _ (w.heap.size + 1) (wkL x ob cb os cs op n cp (w.heap.size + 1 + 1)) rfl rfl (fun i v hv => hV i v hv)) (by simp) ⟨_, rfl, hM, by omega, (((Ext.refl w).alloc _).alloc _).alloc _⟩

set_option maxRecDepth 100000 in
set_option maxHeartbeats 1000000 in
theorem most81 (s : St) (on : Option Addr) (cn : Nat) (w : World) : Calls Try.prog 81 #[stV s on cn] w fun e w' => e = .returned (I s.hi) ∧ Ext w w' := by
  go_enter Try.func81, Try.ntmps81
  go_wp2
  go_ret
  exact ⟨rfl, (Ext.refl w).alloc _⟩

set_option maxRecDepth 100000 in
set_option maxHeartbeats 2000000 in
theorem before90 (x : Bn) (ob os op : Option Addr) (cb cs cp mb : Nat) (plan : List Nat) (n : Nat) (hn : n < plan.length) (hl : plan.length ≤ 100) (w : World) (h : IntsAt w op (upL plan)) :
    Calls Try.prog 90 #[wkV x ob cb os cs op plan.length cp mb, I n] w fun e w' => (match prev plan n with | some i => e = .returned (.tuple #[I i, .bool true]) | none => e = .returned (.tuple #[.int .i64 0, .bool false])) ∧ Ext w w' := by
  obtain ⟨R, hR⟩ : ∃ R, R = prev plan n := ⟨_, rfl⟩
  rw [← hR]
  have HR := Lib.hid (show R = prevTo plan (plan.getD n 0) n from hR)
  have HW := Lib.hid (VB.new w (wkL x ob cb os cs op plan.length cp mb) 104)
  have HE0 := Lib.hid ((Ext.refl w).alloc (.cells (wkL x ob cb os cs op plan.length cp mb).toArray 104))
  have HH := Lib.hid (h.ext HE0.out)
  have q1 : IntKind.i64.wrap ((n : Int) - 1) = (n : Int) - 1 := by rw [IntWalk.i64_in _ (by omega)]
  have hnI : (n : Int) < (plan.length : Int) := by omega
  clear h hR
  go_enter Try.func90, Try.ntmps90
  go_wp2
  obtain ⟨w1, hw1⟩ : ∃ X, X = w.alloc (.cells #[I x.ap, .slice ob x.boards.length cb, .slice os x.sts.length cs, .slice op plan.length cp, .map (some mb), .int .i64 (-1), .int .i64 0] 104) := ⟨_, rfl⟩
  rw [← hw1]
  replace HE0 := Lib.hid (show Ext w w1 by rw [hw1]; exact HE0.out)
  replace HW := Lib.hid (show VB w1 w.heap.size (wkL x ob cb os cs op plan.length cp mb) by rw [hw1]; exact HW.out)
  replace HH := Lib.hid (show IntsAt w1 op (upL plan) by rw [hw1]; exact HH.out)
  clear hw1
  go_loopg [6] n (fun g i wr => ∃ k : Nat, k ≤ g ∧ k ≤ n ∧ Ext w1 wr ∧ i = .int .i64 ((k : Int) - 1) ∧ R = prevTo plan (plan.getD n 0) k)
  case atStart => exact ⟨n, Nat.le_refl _, Nat.le_refl _, Ext.refl _, by rw [← q1], HR.out⟩
  case round =>
    obtain ⟨k, hk, hkn, hE, rfl, hRk⟩ := hrel
    have HE := Lib.hid hE
    have HRk := Lib.hid hRk
    have W2 := Lib.hid (HW.out.ext hE)
    have p3 := W2.out 3 _ rfl
    clear hE hRk
    cases k with
    | zero =>
      obtain rfl : R = none := HRk.out
      go_wp2
      refine bodyPost_ret (results_tmp2 rfl _ _ _) (by simp) ?_
      exact ⟨rfl, HE0.out.trans HE.out⟩
    | succ k =>
      have hkl : k < plan.length := by omega
      obtain ⟨b, off, rfl, hb, c1⟩ := (HH.out.ext HE.out).at (k := k) (by rw [upL_length]; exact hkl)
      obtain ⟨b2, off2, ho2, hb2, c2⟩ := (HH.out.ext HE.out).at (k := n) (by rw [upL_length]; exact hn)
      injection ho2 with ho2
      injection ho2 with e1 e2
      subst e1 e2
      have hx1 : (upL plan)[k]'(by rw [upL_length]; exact hkl) = ((plan.getD k 0 : Nat) : Int) := by simp [upL, List.getD, hkl]
      have hx2 : (upL plan)[n]'(by rw [upL_length]; exact hn) = ((plan.getD n 0 : Nat) : Int) := by simp [upL, List.getD, hn]
      rw [hx1] at c1
      rw [hx2] at c2
      have hs : prevTo plan (plan.getD n 0) (k + 1) = if plan.getD k 0 = plan.getD n 0 then some k else prevTo plan (plan.getD n 0) k := rfl
      rw [hs] at HRk
      generalize hA : plan.getD k 0 = A at *
      generalize hB : plan.getD n 0 = C at *
      have hkk : ((k + 1 : Nat) : Int) - 1 = (k : Int) := by omega
      rw [hkk]
      have hklI : (k : Int) < (plan.length : Int) := by omega
      have q2 : IntKind.i64.wrap ((k : Int) - 1) = (k : Int) - 1 := by rw [IntWalk.i64_in _ (by omega)]
      have hpos : (0 : Int) ≤ (k : Int) := by omega
      clear hs hx1 hx2 hA hB
      by_cases hAC : A = C
      · have hac : ((A : Int) == (C : Int)) = true := by rw [beq_iff_eq]; omega
        have hRr : R = some k := by rw [HRk.out, if_pos hAC]
        subst hRr
        clear hAC
        go_wp2_with fail
        refine wp_region_plan (.take 0 <| .take 1 <| .take 2 <| .take 3 <| .take 4 <| .take 5 <| .take 6 <| .take 7 <| .take 8 <| .take 9 <| .take 10 <| .done) (fun W => Ext wr W) mixed (by kernel_rfl) (by kernel_rfl) rfl (fun _ _ d _ _ h => by cases d <;> exact h) ((Ext.refl wr).drew) ?_
        repeat ((first | (refine plan_take (v := ?_) rfl rfl (fun W hW => ?_) ?_; rotate_left; (focus (have d0 := cell_ext hW p3; have d1 := cell_ext hW c1; have d2 := cell_ext hW c2; go_simp; first | exact rfl | (split <;> first | exact rfl | (exfalso; omega)) | done))) | refine plan_skip rfl rfl ?_); simp only [Act.put, List.setIfInBounds_toArray, List.set_cons_zero, List.set_cons_succ])
        refine plan_done ?_
        clear p3 c1 c2
        go_wp2
        refine bodyPost_ret (results_tmp2 rfl _ _ _) (by simp) ?_
        exact ⟨rfl, HE0.out.trans HE.out.drew⟩
      · have hac : ((A : Int) == (C : Int)) = false := by rw [beq_eq_false_iff_ne]; omega
        have hRr : R = prevTo plan C k := by rw [HRk.out, if_neg hAC]
        have HRr := Lib.hid hRr
        clear hAC hRr
        go_wp2_with fail
        refine wp_region_plan (.take 0 <| .take 1 <| .take 2 <| .take 3 <| .take 4 <| .take 5 <| .take 6 <| .take 7 <| .take 8 <| .take 9 <| .take 10 <| .done) (fun W => Ext wr W) mixed (by kernel_rfl) (by kernel_rfl) rfl (fun _ _ d _ _ h => by cases d <;> exact h) ((Ext.refl wr).drew) ?_
        repeat ((first | (refine plan_take (v := ?_) rfl rfl (fun W hW => ?_) ?_; rotate_left; (focus (have d0 := cell_ext hW p3; have d1 := cell_ext hW c1; have d2 := cell_ext hW c2; go_simp; first | exact rfl | (split <;> first | exact rfl | (exfalso; omega)) | done))) | refine plan_skip rfl rfl ?_); simp only [Act.put, List.setIfInBounds_toArray, List.set_cons_zero, List.set_cons_succ])
        refine plan_done ?_
        clear p3 c1 c2
        go_wp2
        go_roundg k
        case measure => omega
        case rel => exact ⟨k, Nat.le_refl _, by omega, HE.out.drew, rfl, HRr.out⟩

end Go.Proofs.Ytdmegfbeibbmfaa
