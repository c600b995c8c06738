/- Contract of the reference: Only, with what it hands back said of an earlier world. No condition beyond lists of spots. -/
import Derived.Test.YtiehfpkcaoeieaaGreatDoorRefOnly
set_option linter.unusedVariables false
set_option linter.unusedSimpArgs false
namespace Go.Proofs.YtiehfpkcaoeieaaGreatDoor
open Go.RowKit Go.My Go.StripM

/-- What the walk of Only holds. -/
structure Oy2 (B0 : Nat) (n : Nat) (ss : List (List Nat)) (l : List Nat) (oa : Option Addr) (cap : Nat) (w W : World) (v : Value) (k : Nat) : Prop where
  ext : Ext ((w.alloc (.cells #[.int .i64 n, .slice oa ss.length cap] 24)).alloc (.cells #[.int .i64 0, .slice none 0 0] 24)) W
  p0 : W.cell? ⟨w.heap.size + 2, 0, none⟩ = some (.int .i64 n)
  p1 : W.cell? ⟨w.heap.size + 2, 1, none⟩ = some v
  f1 : W.frozen? ⟨w.heap.size + 2, 1, none⟩ = false
  tag : ∃ c, W.heap[w.heap.size + 2]? = some (.cells c 24 (0, 0))
  own : OwnR W B0 (w.heap.size + 3) v (onlyN ss (l.take k))
  lt : w.heap.size + 3 ≤ W.heap.size
theorem Oy2.step {n : Nat} {ss : List (List Nat)} {l : List Nat} {oa : Option Addr} {cap : Nat} {w wr W1 w2 : World} {v v2 : Value} {k B0 : Nat} {s : List Nat} (h : Oy2 B0 n ss l oa cap w wr v k) (hlo : B0 ≤ w.heap.size) (hX1 : Ext wr W1) (hBl : Below (w.heap.size + 3) W1 w2)
    (hst : onlyN ss (l.take (k + 1)) = onlyN ss (l.take k) ++ [s]) (hown : OwnR w2 B0 (w.heap.size + 3) v2 (onlyN ss (l.take k) ++ [s])) : Oy2 B0 n ss l oa cap w (w2.setCell ⟨w.heap.size + 2, 1, none⟩ v2) v2 (k + 1) := by
  have hlt := h.lt
  have hsz := hX1.size
  have hsz2 := hBl.size
  have q0 := cell_below hBl (Nat.lt_succ_self _) (cell_ext hX1 h.p0)
  have q1 := cell_below hBl (Nat.lt_succ_self _) (cell_ext hX1 h.p1)
  have g1 : w2.frozen? ⟨w.heap.size + 2, 1, none⟩ = false := (hBl.frozen (Nat.lt_succ_self _)).trans ((hX1.frozen (World.block_lt_of_cell? _ _ h.p1)).trans h.f1)
  have tg : ∃ c, w2.heap[w.heap.size + 2]? = some (.cells c 24 (0, 0)) := by
    obtain ⟨c, hc⟩ := h.tag
    exact ⟨c, (hBl.block _ (Nat.lt_succ_self _)).trans ((hX1.block _ (Array.getElem?_eq_some_iff.1 hc).1).trans hc)⟩
  have hT := (Turned.refl (w.heap.size + 2) w2).set 1 v2
  have hE : Ext ((w.alloc (.cells #[.int .i64 n, .slice oa ss.length cap] 24)).alloc (.cells #[.int .i64 0, .slice none 0 0] 24)) w2 := (h.ext.trans hX1).below hBl (by simp)
  refine ⟨ext_own hE hT (by simp), ?_, World.cell?_setCell_same _ _ _ q1, (World.frozen?_setCell _ _ _ _).trans g1, tag_cell _ _ tg, ?_, by simp [World.setCell]; omega⟩
  · rw [World.cell?_setCell_other _ _ _ _ (by simp)]; exact q0
  · rw [hst]; exact hown.turned hT (by omega) (by omega) (tag_set tg (by decide))

set_option maxRecDepth 100000 in
set_option maxHeartbeats 4000000 in
theorem only_r2 (n : Nat) (ss : List (List Nat)) (oa : Option Addr) (cap : Nat) (l : List Nat) (ob : Option Addr) (cb : Nat) (w0 w : World) (h : RowsAt w0 oa (upp ss)) (hE0 : Ext w0 w) (hs : IntsAt w ob (up l)) (hls : ss.length ≤ 1000) (hll : l.length ≤ 1000) (hi : ∀ i ∈ l, i < ss.length) :
    Calls Tryz.prog 51 #[.agg #[.int .i64 n, .slice oa ss.length cap], .slice ob l.length cb] w fun e w' =>
      ∃ o2 c2, e = .returned (.agg #[.int .i64 n, .slice o2 l.length c2]) ∧ l.length ≤ c2 ∧ c2 ≤ maxLen ∧ (o2 = none → c2 = 0) ∧ OwnR w' w0.heap.size (w.heap.size + 3) (.slice o2 l.length c2) (onlyN ss l) ∧ Ext w w' := by
  have hE2 : Ext w ((w.alloc (.cells #[.int .i64 n, .slice oa ss.length cap] 24)).alloc (.cells #[.int .i64 0, .slice none 0 0] 24)) := ((Ext.refl w).alloc _).alloc _
  have H := Lib.hid h
  have hlo := hE0.size
  have HE0 := Lib.hid hE0
  have Hs := Lib.hid hs
  have Hi := Lib.hid hi
  clear h hs hi hE0
  go_enter Tryz.func51, Tryz.ntmps51
  go_wp2
  go_loopg [6] l.length (fun g i wr => ∃ (k : Nat) (v : Value), k + g = l.length ∧ i = .int .i64 k ∧ Oy2 w0.heap.size n ss l oa cap w wr v k)
  case atStart =>
    refine ⟨0, .slice none 0 0, by simp, rfl, (Ext.refl _).alloc _, by go_simp, by go_simp, by go_simp, ?_, OwnR.nil _ (by omega), by simp⟩
    have := heap_alloc_new ((w.alloc (.cells #[.int .i64 n, .slice oa ss.length cap] 24)).alloc (.cells #[.int .i64 0, .slice none 0 0] 24)) (.cells #[.int .i64 n, .slice none 0 0] 24)
    exact ⟨_, by simpa only [World.size_alloc] using this⟩
  case round =>
    obtain ⟨k, v, hk, rfl, ho⟩ := hrel
    have Ho := Lib.hid ho
    clear ho
    by_cases hlt : k < l.length
    · obtain ⟨b, off, hob, hb, hc⟩ := Hs.out.at (k := k) (by rw [up_length]; exact hlt)
      subst hob
      rw [show (up l)[k]'(by rw [up_length]; exact hlt) = ((l[k] : Nat) : Int) by simp [up]] at hc
      replace hc := cell_ext (hE2.trans Ho.out.ext) hc
      have hx := Hi.out _ (List.getElem_mem hlt)
      have hst := onlyN_take (ss := ss) hlt
      obtain ⟨b2, off2, o2, c2, hoa, hb2, hc2, h1, h2, h3, h4⟩ := rows_up H.out hx
      replace hb2 := Nat.lt_of_lt_of_le hb2 hlo
      have hrow : RowE wr w0.heap.size (.slice o2 ss[l[k]].length c2) (up ss[l[k]]) := RowE.of_below (w := w0) ⟨o2, c2, by rw [up_length], by rw [up_length]; exact h1, h2, h3, h4⟩ (HE0.out.trans (hE2.trans Ho.out.ext)) (Nat.le_refl _)
      replace hc2 := cell_ext (HE0.out.trans (hE2.trans Ho.out.ext)) hc2
      subst hoa
      have hgd : ss.getD l[k] [] = ss[l[k]] := by simp [List.getD, hx]
      rw [hgd] at hst
      have Hst := Lib.hid hst
      have Hrow := Lib.hid hrow
      have c1 : wr.cell? ⟨w.heap.size, 1, none⟩ = some (.slice (some ⟨b2, off2, none⟩) ss.length cap) := cell_ext Ho.out.ext (by go_simp)
      clear hst hrow hgd h4
      generalize l[k] = x at *
      generalize ss[x] = s at *
      have p1 := Ho.out.p1
      go_wp2_with fail
      refine wp_region_plan (.take 0 <| .take 2 <| .take 3 <| .take 4 <| .take 5 <| .take 6 <| .take 7 <| .take 8 <| .take 9 <| .two 1 10 (.only 10 <| .only 11 <| .take 12 <| .only 13 <| .done) (.only 1 <| .only 11 <| .take 12 <| .only 13 <| .done)) (fun W => Below (w.heap.size + 2) wr W) mixed (by kernel_rfl) (by kernel_rfl) rfl (fun _ _ d _ _ h => by cases d <;> exact h) ((Below.refl _ wr).drew) ?_
      repeat (first | (refine plan_take (v := ?_) rfl rfl (fun W hW => ?_) ?_; rotate_left; (focus (have e1 := cell_below hW (show w.heap.size < w.heap.size + 2 by omega) c1; have e2 := cell_below hW (show b < w.heap.size + 2 by omega) hc; have e3 := cell_below hW (show b2 < w.heap.size + 2 by omega) hc2; go_simp; first | exact rfl | (split <;> first | exact rfl | (exfalso; omega)) | done)); simp only [Act.put, List.setIfInBounds_toArray, List.set_cons_zero, List.set_cons_succ]) | (refine plan_skip rfl rfl ?_; simp only [Act.put, List.setIfInBounds_toArray, List.set_cons_zero, List.set_cons_succ]))
      have hX1 : Ext wr (wr.alloc (.cells #[.slice o2 s.length c2] 27)).drew := ((Ext.refl wr).alloc _).drew
      have hS1 : Below (w.heap.size + 2) wr (wr.alloc (.cells #[.slice o2 s.length c2] 27)).drew := hX1.mono (by have := Ho.out.lt; omega)
      have hlq := Ho.out.lt
      have hnq : wr.heap.size ≠ w.heap.size + 2 := by omega
      have hnq1 : wr.heap.size ≠ w.heap.size + 1 + 1 := by omega
      have hnq2 : w.heap.size + 1 + 1 < wr.heap.size := by omega
      have p1d := cell_ext (Ext.refl wr).drew p1
      have p1e := cell_ext hX1 p1
      refine plan_two rfl rfl ?_ ?_
      · intro K hK
        go_wp2
        refine hK _ _ (Below.refl _ wr).drew ?_
        refine plan_walk rfl ?_; intro K hK
        go_wp2
        refine hK _ _ hS1 ?_
        refine plan_walk rfl ?_; intro K hK
        go_wp2_with (first | (at_builtin; refine wpList_appR _ rfl _ _ rfl w0.heap.size (w.heap.size + 3) _ (onlyN ss (l.take k)) rfl (Ho.out.own.ext hX1) wr.heap.size (.slice o2 s.length c2) s rfl (by go_simp) (Hrow.out.ext hX1) ?_ ?_ ?_))
        · rw [onlyN_len, List.length_take]; omega
        · have := Ho.out.lt; simp; omega
        · intro v2 w2 hown2 hBl
          obtain ⟨o9, c9, hv9, _⟩ := hown2.slice
          obtain ⟨L9, hL9⟩ : ∃ L, L = (onlyN ss (l.take k) ++ [s]).length := ⟨_, rfl⟩
          rw [← hL9] at hv9
          clear hL9
          subst hv9
          have hoy := Ho.out.step hlo hX1 hBl Hst.out hown2
          have Hoy := Lib.hid hoy
          have q1 := cell_below hBl (Nat.lt_succ_self _) (cell_ext hX1 Ho.out.p1)
          have g1 : w2.frozen? ⟨w.heap.size + 2, 1, none⟩ = false := (hBl.frozen (Nat.lt_succ_self _)).trans ((hX1.frozen (World.block_lt_of_cell? _ _ Ho.out.p1)).trans Ho.out.f1)
          have hB2 : Below (w.heap.size + 2) wr w2 := Below.trans (hX1.mono (by have := Ho.out.lt; omega)) (hBl.mono (by omega))
          have hsz2 : w.heap.size + 2 ≤ w2.heap.size := by have := hBl.size; have := hX1.size; have := Ho.out.lt; omega
          clear hoy hown2
          refine hK _ _ hB2 ?_
          repeat (first | (refine plan_take (v := ?_) rfl rfl (fun W hW => ?_) ?_; rotate_left; (focus (skip; go_simp; first | exact rfl | (split <;> first | exact rfl | (exfalso; omega)) | done)); simp only [Act.put, List.setIfInBounds_toArray, List.set_cons_zero, List.set_cons_succ]) | (refine plan_skip rfl rfl ?_; simp only [Act.put, List.setIfInBounds_toArray, List.set_cons_zero, List.set_cons_succ]))
          refine plan_walk rfl ?_; intro K hK
          go_wp2
          refine hK _ _ (below_own hB2 ((Turned.refl (w.heap.size + 2) w2).set 1 _) (Nat.le_refl _) hsz2) ?_
          refine plan_done ?_
          go_wp2
          go_roundg (gk - 1)
          case measure => omega
          case rel => exact ⟨k + 1, _, by omega, by go_num, Hoy.out⟩
      · intro K hK
        go_wp2
        refine hK _ _ hS1 ?_
        refine plan_walk rfl ?_; intro K hK
        go_wp2
        refine hK _ _ hS1 ?_
        refine plan_walk rfl ?_; intro K hK
        go_wp2_with (first | (at_builtin; refine wpList_appR _ rfl _ _ rfl w0.heap.size (w.heap.size + 3) _ (onlyN ss (l.take k)) rfl (Ho.out.own.ext hX1) wr.heap.size (.slice o2 s.length c2) s rfl (by go_simp) (Hrow.out.ext hX1) ?_ ?_ ?_))
        · rw [onlyN_len, List.length_take]; omega
        · have := Ho.out.lt; simp; omega
        · intro v2 w2 hown2 hBl
          obtain ⟨o9, c9, hv9, _⟩ := hown2.slice
          obtain ⟨L9, hL9⟩ : ∃ L, L = (onlyN ss (l.take k) ++ [s]).length := ⟨_, rfl⟩
          rw [← hL9] at hv9
          clear hL9
          subst hv9
          have hoy := Ho.out.step hlo hX1 hBl Hst.out hown2
          have Hoy := Lib.hid hoy
          have q1 := cell_below hBl (Nat.lt_succ_self _) (cell_ext hX1 Ho.out.p1)
          have g1 : w2.frozen? ⟨w.heap.size + 2, 1, none⟩ = false := (hBl.frozen (Nat.lt_succ_self _)).trans ((hX1.frozen (World.block_lt_of_cell? _ _ Ho.out.p1)).trans Ho.out.f1)
          have hB2 : Below (w.heap.size + 2) wr w2 := Below.trans (hX1.mono (by have := Ho.out.lt; omega)) (hBl.mono (by omega))
          have hsz2 : w.heap.size + 2 ≤ w2.heap.size := by have := hBl.size; have := hX1.size; have := Ho.out.lt; omega
          clear hoy hown2
          refine hK _ _ hB2 ?_
          repeat (first | (refine plan_take (v := ?_) rfl rfl (fun W hW => ?_) ?_; rotate_left; (focus (skip; go_simp; first | exact rfl | (split <;> first | exact rfl | (exfalso; omega)) | done)); simp only [Act.put, List.setIfInBounds_toArray, List.set_cons_zero, List.set_cons_succ]) | (refine plan_skip rfl rfl ?_; simp only [Act.put, List.setIfInBounds_toArray, List.set_cons_zero, List.set_cons_succ]))
          refine plan_walk rfl ?_; intro K hK
          go_wp2
          refine hK _ _ (below_own hB2 ((Turned.refl (w.heap.size + 2) w2).set 1 _) (Nat.le_refl _) hsz2) ?_
          refine plan_done ?_
          go_wp2
          go_roundg (gk - 1)
          case measure => omega
          case rel => exact ⟨k + 1, _, by omega, by go_num, Hoy.out⟩
    · obtain rfl : k = l.length := by omega
      have hEr := Ho.out.ext
      have r0 : wr.cell? ⟨w.heap.size + 1, 0, none⟩ = some (.int .i64 0) := cell_ext hEr (by go_simp)
      have r1 : wr.cell? ⟨w.heap.size + 1, 1, none⟩ = some (.slice none 0 0) := cell_ext hEr (by go_simp)
      have g0 : wr.frozen? ⟨w.heap.size + 1, 0, none⟩ = false := (hEr.frozen (by simp)).trans (by go_simp)
      have g1 : wr.frozen? ⟨w.heap.size + 1, 1, none⟩ = false := (hEr.frozen (by simp)).trans (by go_simp)
      have hown := Ho.out.own
      rw [List.take_of_length_le (Nat.le_refl _)] at hown
      obtain ⟨o3, c3, hv3, q1, q2, q3, _⟩ := hown.slice
      rw [onlyN_len] at hv3 q1
      subst hv3
      have p0 := Ho.out.p0
      have p1 := Ho.out.p1
      have tg1 : ∃ c, wr.heap[w.heap.size + 1]? = some (.cells c 24 (0, 0)) := ⟨_, (hEr.block (w.heap.size + 1) (by simp)).trans (by have := heap_alloc_new (w.alloc (.cells #[.int .i64 n, .slice oa ss.length cap] 24)) (.cells #[.int .i64 0, .slice none 0 0] 24); simpa only [World.size_alloc] using this)⟩
      have Hown := Lib.hid hown
      have HE := Lib.hid (hE2.trans hEr)
      have Q3 := Lib.hid q3
      have Tg := Lib.hid tg1
      clear hown q3 hEr tg1
      go_wp2
      refine bodyPost_ret (v := .agg #[.int .i64 n, .slice o3 l.length c3]) (results_cell24 rfl _ _ (w.heap.size + 1) _ _ (by simp) (by go_simp) (by go_simp)) (by simp) ⟨o3, c3, rfl, q1, q2, Q3.out, ?_, ?_⟩
      · exact (Hown.out.turned ((Turned.refl (w.heap.size + 1) wr).set 0 (.int .i64 n)) (by omega) (by omega) (tag_set Tg.out (by decide))).turned ((Turned.refl (w.heap.size + 1) _).set 1 (.slice o3 l.length c3)) (by omega) (by omega) (tag_set (tag_cell _ _ Tg.out) (by decide))
      · exact ext_own (ext_own HE.out ((Turned.refl (w.heap.size + 1) _).set 0 _) (by omega)) ((Turned.refl (w.heap.size + 1) _).set 1 _) (by omega)

end Go.Proofs.YtiehfpkcaoeieaaGreatDoor
