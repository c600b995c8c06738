/- Contracts: agrees of the laws; which list comes before. No condition. -/
import Derived.Test.YtiehfpkcaoeieaaGreatDoorMathG
set_option linter.unusedVariables false
set_option linter.unusedSimpArgs false
namespace Go.Proofs.YtiehfpkcaoeieaaGreatDoor
open Go.RowKit Go.My Go.StripM

theorem isInts_up {w : World} {v : Value} {l : List Nat} (h : IsInts w v (up l)) : ∃ oa cap, v = .slice oa l.length cap ∧ l.length ≤ cap ∧ cap ≤ maxLen ∧ (oa = none → cap = 0) ∧ IntsAt w oa (up l) := by
  obtain ⟨oa, cap, h1, h2, h3, h4, h5⟩ := h
  rw [up_length] at h1 h2
  exact ⟨oa, cap, h1, h2, h3, h4, h5⟩

set_option maxHeartbeats 1000000 in
theorem agrees2_any (n : Nat) (ss : List (List Nat)) (oa : Option Addr) (cap : Nat) (p : List Nat) (ob : Option Addr) (cb : Nat) (w : World) (h : RowsAt w oa (upp ss)) (g : Good n ss) (ho : IntsAt w ob (up p)) (hcb : p.length ≤ cb) (hp : isOrd n p) :
    Calls Tryz.prog 31 #[.agg #[.int .i64 n, .slice oa ss.length cap], .slice ob p.length cb] w fun e w' => e = .returned (.tuple #[.bool (okOrd ss p), .bool true]) ∧ Ext w w' := by
  have hlen := g.len
  have hpl : (up p).length ≤ 9223372036854775807 := by rw [up_length, hp.1]; have := g.le; omega
  have Q := Lib.hid (fun (W : World) (hE : Ext w W) => misses_ok n (upp ss) oa cap (up p) ob cb W (h.ext hE) (by rw [upp_length]; omega) (ho.ext hE) hpl (by rw [up_length]; exact hcb) g.isB (order_of hp))
  have hml := missN_len p ss
  have hnil := @missN_nil p ss
  rw [upp_length, up_length, misses_up hp g.valid] at Q
  generalize missN p ss = M at *
  have hE1 := (Ext.refl w).alloc (.cells #[.int .i64 n, .slice oa ss.length cap] 24)
  cases hk : okOrd ss p
  · have hpos : M.length ≠ 0 := fun e => by
      rw [hnil.1 (List.eq_nil_of_length_eq_zero e)] at hk; cases hk
    have h0 : ((M.length : Int) == 0) = false := by simpa using (by omega : ¬ (M.length : Int) = 0)
    have h0' : decide ((M.length : Int) = 0) = false := by simpa using (by omega : ¬ (M.length : Int) = 0)
    clear hnil h ho hk hpl
    go_enter Tryz.func31, Tryz.ntmps31
    go_wp2_with (first | (go_at_call 57; refine (Q.out _ hE1).mono ?_; rintro e w1 ⟨v, rfl, hi, hE2⟩; obtain ⟨om, cm, rfl, _, _, _, hi⟩ := hi; clear hi; rw [up_length]))
    go_ret2
    exact ⟨rfl, hE1.trans hE2⟩
  · have hpos : M = [] := hnil.2 hk
    subst hpos
    clear hnil h ho hk hpl
    go_enter Tryz.func31, Tryz.ntmps31
    go_wp2_with (first | (go_at_call 57; refine (Q.out _ hE1).mono ?_; rintro e w1 ⟨v, rfl, hi, hE2⟩; obtain ⟨om, cm, rfl, _, _, _, hi⟩ := hi; clear hi; rw [up_length]))
    go_ret2
    exact ⟨rfl, hE1.trans hE2⟩

theorem tsame_up (l m : List Nat) (oa ob : Option Addr) (ca cb : Nat) (w : World) (h1 : IntsAt w oa (up l)) (h2 : IntsAt w ob (up m)) (hl : l.length ≤ 1000) (hm : m.length ≤ 1000) :
    Calls Tryz.prog 28 #[.slice oa l.length ca, .slice ob m.length cb] w fun e w' => e = .returned (.bool (decide (l = m))) ∧ Ext w w' := by
  have h := tsame_any (up l) (up m) oa ob ca cb w h1 h2 (by rw [up_length]; omega) (by rw [up_length]; omega)
  rw [up_length, up_length, show decide (up l = up m) = decide (l = m) from decide_eq_decide.2 ⟨up_inj, fun e => by rw [e]⟩] at h
  exact h

theorem lexB_end {l m : List Nat} {k : Nat} (h : l.take k = m.take k) (hk : l.length ≤ k ∨ m.length ≤ k) : lexB l m = decide (l.length < m.length) := by
  rw [← List.take_append_drop k l, ← List.take_append_drop k m, h, lexB_pre]
  simp only [List.length_append, List.length_drop]
  have hl := congrArg List.length h
  simp only [List.length_take] at hl
  rcases hk with hk | hk
  · rw [List.drop_of_length_le hk]
    cases hd : m.drop k with
    | nil =>
      have := congrArg List.length hd
      simp at this
      simp [lexB]; omega
    | cons x r =>
      have := congrArg List.length hd
      simp at this
      simp [lexB]; omega
  · rw [List.drop_of_length_le hk]
    cases hd : l.drop k with
    | nil =>
      have := congrArg List.length hd
      simp at this
      simp [lexB]; omega
    | cons x r =>
      have := congrArg List.length hd
      simp at this
      simp [lexB]; omega
theorem lexB_at {l m : List Nat} {k : Nat} (h : l.take k = m.take k) (h1 : k < l.length) (h2 : k < m.length) (hne : l[k] ≠ m[k]) : lexB l m = decide (l[k] < m[k]) := by
  have e : lexB l m = lexB (l.take k ++ l.drop k) (m.take k ++ m.drop k) := by rw [List.take_append_drop, List.take_append_drop]
  rw [e, h, lexB_pre, List.drop_eq_getElem_cons h1, List.drop_eq_getElem_cons h2]
  have : (l[k] == m[k]) = false := by simpa using hne
  simp [lexB, this]
theorem take_eq_succN {l m : List Nat} {k : Nat} (h1 : k < l.length) (h2 : k < m.length) (h : l.take k = m.take k) (he : l[k] = m[k]) : l.take (k + 1) = m.take (k + 1) := by
  rw [List.take_succ_eq_append_getElem h1, List.take_succ_eq_append_getElem h2, h, he]

set_option maxHeartbeats 1000000 in
theorem tbefore_any (l m : List Nat) (oa ob : Option Addr) (ca cb : Nat) (w : World) (h1 : IntsAt w oa (up l)) (h2 : IntsAt w ob (up m)) (hl : l.length ≤ 1000) (hm : m.length ≤ 1000) :
    Calls Tryz.prog 32 #[.slice oa l.length ca, .slice ob m.length cb] w fun e w' => e = .returned (.bool (lexB l m)) ∧ Ext w w' := by
  have H1 := Lib.hid h1; have H2 := Lib.hid h2; clear h1 h2
  go_enter Tryz.func32, Tryz.ntmps32
  go_wp2
  go_loopg [5] l.length (fun g i wr => ∃ k : Nat, k + g = l.length ∧ Ext w wr ∧ i = .int .i64 k ∧ l.take k = m.take k)
  case atStart => exact ⟨0, by simp, Ext.refl _, rfl, by simp⟩
  case round =>
    obtain ⟨k, hk, hE, rfl, hx⟩ := hrel
    have Hx := Lib.hid hx; clear hx
    by_cases hlt : k < l.length
    · by_cases hlt2 : k < m.length
      · obtain ⟨b, off, hob, _, hc⟩ := (H1.out.ext hE).at (k := k) (by rw [up_length]; exact hlt)
        obtain ⟨b2, off2, hob2, _, hc2⟩ := (H2.out.ext hE).at (k := k) (by rw [up_length]; exact hlt2)
        subst hob
        subst hob2
        have e1 : (up l)[k]'(by rw [up_length]; exact hlt) = ((l[k] : Nat) : Int) := by simp [up]
        have e2 : (up m)[k]'(by rw [up_length]; exact hlt2) = ((m[k] : Nat) : Int) := by simp [up]
        rw [e1] at hc
        rw [e2] at hc2
        clear e1 e2
        by_cases he : l[k] = m[k]
        · have hq : (((l[k] : Nat) : Int) != ((m[k] : Nat) : Int)) = false := by simp [he]
          have Hs := Lib.hid (take_eq_succN hlt hlt2 Hx.out he)
          generalize l[k] = A at *
          generalize m[k] = C at *
          clear he
          go_wp2_with fail
          refine wp_region_plan (.take 0 <| .take 1 <| .take 2 <| .take 3 <| .take 4 <| .take 5 <| .take 6 <| .take 7 <| .take 8 <| .done) (fun W => Ext wr W) mixed (by kernel_rfl) (by kernel_rfl) rfl (fun _ _ d _ _ h => by cases d <;> exact h) ((Ext.refl wr).drew) ?_
          repeat (first | (refine plan_take (v := ?_) rfl rfl (fun W hW => ?_) ?_; rotate_left; (focus (have dc := cell_ext hW hc; have dc' := cell_ext hW hc2; go_simp; first | exact rfl | (split <;> first | exact rfl | (exfalso; omega)) | done)); simp only [Act.put, List.setIfInBounds_toArray, List.set_cons_zero, List.set_cons_succ]) | (refine plan_skip rfl rfl ?_; simp only [Act.put, List.setIfInBounds_toArray, List.set_cons_zero, List.set_cons_succ]))
          refine plan_done ?_
          go_wp2
          go_roundg (gk - 1)
          case measure => omega
          case rel => exact ⟨k + 1, by omega, hE.drew, by go_num, Hs.out⟩
        · have hq : (((l[k] : Nat) : Int) != ((m[k] : Nat) : Int)) = true := by simpa using (by omega : ¬ ((l[k] : Nat) : Int) = ((m[k] : Nat) : Int))
          have Hs := Lib.hid (lexB_at Hx.out hlt hlt2 he)
          generalize l[k] = A at *
          generalize m[k] = C at *
          clear he
          go_wp2_with fail
          refine wp_region_plan (.take 0 <| .take 1 <| .take 2 <| .take 3 <| .take 4 <| .take 5 <| .take 6 <| .take 7 <| .take 8 <| .done) (fun W => Ext wr W) mixed (by kernel_rfl) (by kernel_rfl) rfl (fun _ _ d _ _ h => by cases d <;> exact h) ((Ext.refl wr).drew) ?_
          repeat (first | (refine plan_take (v := ?_) rfl rfl (fun W hW => ?_) ?_; rotate_left; (focus (have dc := cell_ext hW hc; have dc' := cell_ext hW hc2; go_simp; first | exact rfl | (split <;> first | exact rfl | (exfalso; omega)) | done)); simp only [Act.put, List.setIfInBounds_toArray, List.set_cons_zero, List.set_cons_succ]) | (refine plan_skip rfl rfl ?_; simp only [Act.put, List.setIfInBounds_toArray, List.set_cons_zero, List.set_cons_succ]))
          refine plan_done ?_
          go_wp2_with fail
          refine wp_region_plan (.take 0 <| .take 1 <| .take 2 <| .take 3 <| .take 4 <| .take 5 <| .take 6 <| .take 7 <| .take 8 <| .take 9 <| .done) (fun W => Ext wr.drew W) mixed (by kernel_rfl) (by kernel_rfl) rfl (fun _ _ d _ _ h => by cases d <;> exact h) ((Ext.refl wr.drew).drew) ?_
          repeat (first | (refine plan_take (v := ?_) rfl rfl (fun W hW => ?_) ?_; rotate_left; (focus (have dc := cell_ext (((Ext.refl wr).drew).trans hW) hc; have dc' := cell_ext (((Ext.refl wr).drew).trans hW) hc2; go_simp; first | exact rfl | (split <;> first | exact rfl | (exfalso; omega)) | done)); simp only [Act.put, List.setIfInBounds_toArray, List.set_cons_zero, List.set_cons_succ]) | (refine plan_skip rfl rfl ?_; simp only [Act.put, List.setIfInBounds_toArray, List.set_cons_zero, List.set_cons_succ]))
          refine plan_done ?_
          go_wp2
          go_ret
          exact ⟨ret_bool (by rw [Hs.out] <;> exact decide_eq_decide.2 (by omega)), hE.drew.drew⟩
      · have Hs := Lib.hid (lexB_end Hx.out (.inr (by omega)))
        go_wp2
        go_ret
        exact ⟨ret_bool (by rw [Hs.out] <;> exact decide_eq_decide.2 (by omega)), hE⟩
    · have Hs := Lib.hid (lexB_end Hx.out (.inl (by omega)))
      go_wp2
      go_ret
      exact ⟨ret_bool (by rw [Hs.out] <;> exact decide_eq_decide.2 (by omega)), hE⟩

end Go.Proofs.YtiehfpkcaoeieaaGreatDoor
