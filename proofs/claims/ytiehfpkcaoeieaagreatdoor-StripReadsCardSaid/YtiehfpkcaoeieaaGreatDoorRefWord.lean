/- Contracts of the reference: firsts, Before, Places. No condition beyond boards as defined. -/
import Derived.Test.YtiehfpkcaoeieaaGreatDoorRefAdd
set_option linter.unusedVariables false
set_option linter.unusedSimpArgs false
namespace Go.Proofs.YtiehfpkcaoeieaaGreatDoor
open Go.RowKit Go.My Go.StripM

abbrev frst (a b : Nat) (o : List Nat) : Bool := decide (o.idxOf a < o.idxOf b)

set_option maxRecDepth 100000 in
set_option maxHeartbeats 2000000 in
theorem firsts_r (n : Nat) (hn : n ≤ 6) (L : List (List Nat)) (ol : Option Addr) (c cl a b : Nat) (w : World) (hLc : L.length = c) (h : RowsAt w ol (upp L)) (hc : c ≤ 1000) (hL : ∀ o ∈ L, isOrd n o) (ha : a < n) (hb : b < n) :
    Calls Tryz.prog 90 #[.slice ol c cl, .int .i64 a, .int .i64 b] w fun e w' => e = .returned (.int .i64 (manyOf (frst a b) L c : Nat)) ∧ Ext w w' := by
  have H := Lib.hid h
  have HL := Lib.hid hL
  have HLc := Lib.hid hLc
  clear h hL hLc
  go_enter Tryz.func90, Tryz.ntmps90
  go_wp2
  go_loopg [7, 8] c (fun g v i wr => ∃ k : Nat, k + g = c ∧ i = .int .i64 k ∧ Ext w wr ∧ v = .int .i64 (manyOf (frst a b) L k : Nat))
  case atStart => exact ⟨0, by simp, rfl, Ext.refl _, rfl⟩
  case round =>
    obtain ⟨k, hk, rfl, hE, rfl⟩ := hrel
    have hml := manyOf_le (frst a b) L k
    by_cases hlt : k < c
    · obtain ⟨o, hok⟩ : ∃ o, L[k]? = some o := ⟨L[k]'(by rw [HLc.out]; exact hlt), by simp⟩
      obtain ⟨b2, off, og, cg, hol, _, hcg, hg1, hg2, _, hig⟩ := rows_get (H.out.ext hE) hok
      subst hol
      have hord : isOrd n o := HL.out o (List.mem_of_getElem? hok)
      have hol6 : o.length ≤ 6 := by rw [hord.1]; exact hn
      have hpl : ∀ x, x < n → ∀ W, Ext wr W → Calls Tryz.prog 39 #[.slice og o.length cg, .int .i64 x] W fun r w' => r = .returned (.int .i64 (o.idxOf x : Nat)) ∧ W = w' := fun x hx W hW => by
        have := place_any (up o) og cg x W (hig.ext hW) (by rw [up_length]; omega)
        rw [up_length, index_in (ord_mem hord hx)] at this
        exact this
      have Pa := Lib.hid (hpl a ha)
      have Pb := Lib.hid (hpl b hb)
      have hst := manyOf_succ (p := frst a b) hok
      have Hst := Lib.hid hst
      clear hst hig hok hord hpl
      obtain ⟨ia, hia⟩ : ∃ i, i = o.idxOf a := ⟨_, rfl⟩
      obtain ⟨ib, hib⟩ : ∃ i, i = o.idxOf b := ⟨_, rfl⟩
      rw [← hia] at Pa
      rw [← hib] at Pb
      have T39 := Lib.hid trivial
      by_cases hlt2 : ia < ib
      · have hf : frst a b o = true := by show decide (o.idxOf a < o.idxOf b) = true; rw [← hia, ← hib]; exact decide_eq_true hlt2
        rw [hf, if_pos rfl] at Hst
        clear hf hia hib
        generalize manyOf (frst a b) L k = M at *
        go_wp2_with fail
        refine wp_region_plan (.take 0 <| .take 1 <| .take 2 <| .take 3 <| .take 4 <| .take 6 <| .take 7 <| .take 8 <| .take 9 <| .take 10 <| .only 5 <| .only 11 <| .take 12 <| .done) (fun W => Ext wr W) mixed (by kernel_rfl) (by kernel_rfl) rfl (fun _ _ d _ _ h => by cases d <;> exact h) ((Ext.refl wr).drew) ?_
        repeat (first | (refine plan_take (v := ?_) rfl rfl (fun W hW => ?_) ?_; rotate_left; (focus (have e1 := cell_ext hW hcg; go_simp; first | exact rfl | (split <;> first | exact rfl | (exfalso; omega)) | done)); simp only [Act.put, List.setIfInBounds_toArray, List.set_cons_zero, List.set_cons_succ]) | (refine plan_skip rfl rfl ?_; simp only [Act.put, List.setIfInBounds_toArray, List.set_cons_zero, List.set_cons_succ]))
        refine plan_walk rfl ?_; intro K hK
        go_wp2_with (first | (go_at_call 39; refine (Pa.out _ (Ext.refl wr).drew).mono ?_; rintro e w2 ⟨rfl, rfl⟩))
        refine hK _ _ (Ext.refl wr).drew ?_
        refine plan_walk rfl ?_; intro K hK
        go_wp2_with (first | (go_at_call 39; refine (Pb.out _ (Ext.refl wr).drew).mono ?_; rintro e w2 ⟨rfl, rfl⟩))
        refine hK _ _ (Ext.refl wr).drew ?_
        repeat (first | (refine plan_take (v := ?_) rfl rfl (fun W hW => ?_) ?_; rotate_left; (focus (skip; go_simp; first | exact rfl | (split <;> first | exact rfl | (exfalso; omega)) | done)); simp only [Act.put, List.setIfInBounds_toArray, List.set_cons_zero, List.set_cons_succ]) | (refine plan_skip rfl rfl ?_; simp only [Act.put, List.setIfInBounds_toArray, List.set_cons_zero, List.set_cons_succ]))
        refine plan_done ?_
        go_wp2
        go_roundg (gk - 1)
        case measure => omega
        case rel => exact ⟨k + 1, by omega, by go_num, hE.drew, by rw [Hst.out]; rfl⟩
      · have hf : frst a b o = false := by show decide (o.idxOf a < o.idxOf b) = false; rw [← hia, ← hib]; exact decide_eq_false hlt2
        rw [hf, if_neg (by decide), Nat.add_zero] at Hst
        clear hf hia hib
        generalize manyOf (frst a b) L k = M at *
        go_wp2_with fail
        refine wp_region_plan (.take 0 <| .take 1 <| .take 2 <| .take 3 <| .take 4 <| .take 6 <| .take 7 <| .take 8 <| .take 9 <| .take 10 <| .only 5 <| .only 11 <| .take 12 <| .done) (fun W => Ext wr W) mixed (by kernel_rfl) (by kernel_rfl) rfl (fun _ _ d _ _ h => by cases d <;> exact h) ((Ext.refl wr).drew) ?_
        repeat (first | (refine plan_take (v := ?_) rfl rfl (fun W hW => ?_) ?_; rotate_left; (focus (have e1 := cell_ext hW hcg; go_simp; first | exact rfl | (split <;> first | exact rfl | (exfalso; omega)) | done)); simp only [Act.put, List.setIfInBounds_toArray, List.set_cons_zero, List.set_cons_succ]) | (refine plan_skip rfl rfl ?_; simp only [Act.put, List.setIfInBounds_toArray, List.set_cons_zero, List.set_cons_succ]))
        refine plan_walk rfl ?_; intro K hK
        go_wp2_with (first | (go_at_call 39; refine (Pa.out _ (Ext.refl wr).drew).mono ?_; rintro e w2 ⟨rfl, rfl⟩))
        refine hK _ _ (Ext.refl wr).drew ?_
        refine plan_walk rfl ?_; intro K hK
        go_wp2_with (first | (go_at_call 39; refine (Pb.out _ (Ext.refl wr).drew).mono ?_; rintro e w2 ⟨rfl, rfl⟩))
        refine hK _ _ (Ext.refl wr).drew ?_
        repeat (first | (refine plan_take (v := ?_) rfl rfl (fun W hW => ?_) ?_; rotate_left; (focus (skip; go_simp; first | exact rfl | (split <;> first | exact rfl | (exfalso; omega)) | done)); simp only [Act.put, List.setIfInBounds_toArray, List.set_cons_zero, List.set_cons_succ]) | (refine plan_skip rfl rfl ?_; simp only [Act.put, List.setIfInBounds_toArray, List.set_cons_zero, List.set_cons_succ]))
        refine plan_done ?_
        go_wp2
        go_roundg (gk - 1)
        case measure => omega
        case rel => exact ⟨k + 1, by omega, by go_num, hE.drew, by rw [Hst.out]; rfl⟩
    · obtain rfl : k = c := by omega
      obtain ⟨M, hM⟩ : ∃ M, M = manyOf (frst a b) L k := ⟨_, rfl⟩
      rw [← hM]
      have HM := Lib.hid hM
      clear hM hml
      go_wp2
      go_ret
      exact ⟨ret_int (by rw [HM.out]), hE⟩

theorem firsts_cnt {n : Nat} {ss : List (List Nat)} {a b : Nat} (hv : Valid n ss) (ha : a < n) (hb : b < n) (hne : a ≠ b) : manyOf (frst a b) (all n ss) (cnt n ss) = cnt n (ss ++ [[a, b]]) := by
  rw [cnt_with hv (pair_names ha hb hne), manyOf_all (by rw [cnt_all hv]; exact Nat.le_refl _)]
  congr 1
  apply List.filter_congr
  intro o ho
  have := idx_ne (mem_all.1 ho).1 ha hne
  rw [agrees_pair]
  exact decide_eq_decide.2 (by omega)

set_option maxRecDepth 100000 in
set_option maxHeartbeats 2000000 in
theorem before_r (n : Nat) (ss : List (List Nat)) (oa : Option Addr) (cap a b : Nat) (w : World) (h : RowsAt w oa (upp ss)) (g : Good n ss) (ha : a < n) (hb : b < n) (hne : a ≠ b) :
    Calls Tryz.prog 38 #[.agg #[.int .i64 n, .slice oa ss.length cap], .int .i64 a, .int .i64 b] w fun e w' => e = .returned (.int .i64 (wordI (cnt n (ss ++ [[a, b]])) (cnt n ss))) ∧ Ext w w' := by
  have hE1 := (Ext.refl w).alloc (.cells #[.int .i64 n, .slice oa ss.length cap] 24)
  have Ha := Lib.hid (all_cnt n ss oa cap _ (h.ext hE1) g)
  have hc7 := cnt_720 g.le g.valid
  have Q90 := Lib.hid (fun (W : World) (ol : Option Addr) (cl : Nat) (hr : RowsAt W ol (upp (all n ss))) => firsts_r n g.le (all n ss) ol (cnt n ss) cl a b W (cnt_all g.valid).symm hr (by omega) (fun o ho => (mem_all.1 ho).1) ha hb)
  simp only [firsts_cnt g.valid ha hb hne] at Q90
  clear h g ha hb hne
  generalize cnt n (ss ++ [[a, b]]) = X at *
  generalize cnt n ss = c at *
  go_enter Tryz.func38, Tryz.ntmps38
  go_wp2_with (first | (go_at_call 27; refine Ha.out.mono ?_; rintro e w1 ⟨⟨ol, cl, rfl, hcl, hro⟩, hE2⟩; have Hro := Lib.hid hro; clear hro) | (go_at_call 90; refine (Q90.out _ ol cl Hro.out).mono ?_; rintro e w2 ⟨rfl, hE3⟩) | (go_at_call 89; refine (rword_any X c _).mono ?_; rintro e w3 ⟨rfl, rfl⟩))
  go_ret
  exact ⟨rfl, (hE1.trans hE2).trans hE3⟩

end Go.Proofs.YtiehfpkcaoeieaaGreatDoor
