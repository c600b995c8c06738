/- Contracts of the reference: Others, Wrongs, Blame. No condition beyond boards as defined. -/
import Derived.Test.YtiehfpkcaoeieaaGreatDoorRefClash
set_option linter.unusedVariables false
set_option linter.unusedSimpArgs false
namespace Go.Proofs.YtiehfpkcaoeieaaGreatDoor
open Go.RowKit Go.My Go.StripM

/-- The numbers below k that are not in a list. -/
def othN (k : Nat) (l : List Nat) : List Nat := (List.range k).filter fun i => decide (i ∈ l) == false
theorem othN_succ (k : Nat) (l : List Nat) : othN (k + 1) l = othN k l ++ if k ∈ l then [] else [k] := by
  unfold othN
  rw [List.range_succ, List.filter_append]
  congr 1
  by_cases h : k ∈ l
  · rw [if_pos h, List.filter_cons, if_neg (by simp [h])]; rfl
  · rw [if_neg h, List.filter_cons, if_pos (by simp [h])]; rfl
theorem othN_len (k : Nat) (l : List Nat) : (othN k l).length ≤ k := by
  have := List.length_filter_le (fun i => decide (i ∈ l) == false) (List.range k); simpa [othN] using this
theorem pick_oth (ss : List (List Nat)) (l : List Nat) : pickTo ss l false ss.length = onlyN ss (othN ss.length l) := rfl
theorem oth_lt {k : Nat} {l : List Nat} : ∀ i ∈ othN k l, i < k := fun i hi => List.mem_range.1 (List.mem_filter.1 hi).1

set_option maxRecDepth 100000 in
set_option maxHeartbeats 2000000 in
theorem others_r (n : Int) (M : Nat) (oa : Option Addr) (cap : Nat) (l : List Nat) (ob : Option Addr) (cb : Nat) (w : World) (hs : IntsAt w ob (up l)) (hM : M ≤ 1000) (hll : l.length ≤ 1000) :
    Calls Tryz.prog 58 #[.agg #[.int .i64 n, .slice oa M cap], .slice ob l.length cb] w fun e w' => ∃ v, e = .returned v ∧ IsInts w' v (up (othN M l)) ∧ Ext w w' := by
  have Hs := Lib.hid hs
  have hE0 := (Ext.refl w).alloc (.cells #[.int .i64 n, .slice oa M cap] 24)
  clear hs
  go_enter Tryz.func58, Tryz.ntmps58
  go_wp2
  go_loopg [5, 6] M (fun g v i wr => ∃ k : Nat, k + g = M ∧ i = .int .i64 k ∧ Ext (w.alloc (.cells #[.int .i64 n, .slice oa M cap] 24)) wr ∧ My.Own wr (w.heap.size + 1) 3 v ((up (othN k l)).map (Value.int .i64)))
  case atStart => exact ⟨0, by simp, rfl, Ext.refl _, Own.nil _ _ _⟩
  case round =>
    obtain ⟨k, hk, rfl, hE, hown⟩ := hrel
    have Hown := Lib.hid hown
    have c1 : wr.cell? ⟨w.heap.size, 1, none⟩ = some (.slice oa M cap) := cell_ext hE (by go_simp)
    have hsz := hE.size
    have hst := othN_succ k l
    have hln := othN_len k l
    clear hown
    by_cases hlt : k < M
    · have hlis := listed_any (up l) ob l.length cb k wr (up_length l) (Hs.out.ext (hE0.trans hE)) (by rw [up_length]; omega)
      by_cases hm : k ∈ l
      · rw [decide_eq_true (up_mem.2 hm)] at hlis
        rw [if_pos hm, List.append_nil] at hst
        have Hlis := Lib.hid hlis
        have Hst := Lib.hid hst
        clear hlis hst hm
        go_wp2_with (first | (go_at_call 52; refine Hlis.out.mono ?_; rintro e w1 ⟨rfl, rfl⟩))
        go_roundg (gk - 1)
        case measure => omega
        case rel => exact ⟨k + 1, by omega, by go_num, hE, by rw [Hst.out]; exact Hown.out⟩
      · rw [decide_eq_false (fun h => hm (up_mem.1 h))] at hlis
        rw [if_neg hm] at hst
        have Hlis := Lib.hid hlis
        have Hst := Lib.hid hst
        clear hlis hst hm
        go_wp2_with (first | (go_at_call 52; refine Hlis.out.mono ?_; rintro e w1 ⟨rfl, rfl⟩) | (at_builtin; refine wpList_app1 _ rfl _ _ 27 rfl 3 Tryz.underlying27 (.int .i64 0) 8 i3 rfl (by decide) (w.heap.size + 1) _ _ rfl (Hown.out.ext ((Ext.refl _).alloc _)) wr.heap.size (.int .i64 k) rfl (by go_simp) rfl ?_ ?_ ?_))
        · simp [up]; omega
        · simp at hsz ⊢; omega
        · intro v' w2 hown2 hBl _
          have Ho2 := Lib.hid hown2; clear hown2
          go_wp2
          go_roundg (gk - 1)
          case measure => omega
          case rel => exact ⟨k + 1, by omega, by go_num, (hE.alloc _).below hBl (by simp), by rw [Hst.out, up_snoc, List.map_append]; exact Ho2.out⟩
    · obtain rfl : k = M := by omega
      go_wp2
      go_ret
      exact ⟨_, rfl, Hown.out.ints, hE0.trans hE⟩

/-! ### the shortest lists without which there is an order -/

theorem wrIn_eq (n : Nat) (ss : List (List Nat)) : ∀ (L acc : List (List Nat)), wrIn n ss acc L = wr (fun l => !cycP n ss l false) acc L
  | [], acc => rfl
  | l :: L, acc => by
    rw [wrIn, wr]
    split
    · rfl
    · cases h : cycP n ss l false
      · rw [if_neg (by simp), if_pos (by simp)]; exact wrIn_eq n ss L _
      · rw [if_pos rfl, if_neg (by simp)]; exact wrIn_eq n ss L _
def wrF (n : Nat) (ss : List (List Nat)) (d : Nat) : List (List Nat) := (chs ss.length d []).filter fun l => !cyc n (onlyN ss (othN ss.length l))
theorem wrongs_least {n : Nat} {ss : List (List Nat)} (hm : ss.length ≤ 6) : wrongsOf n ss = least (fun l => !cyc n (onlyN ss (othN ss.length l))) ((List.range (ss.length + 1)).map fun d => chs ss.length d []) := by
  rw [wrongsOf, wrIn_eq, wr_chs hm]
  rfl
theorem least_at {p : List Nat → Bool} {f : Nat → List (List Nat)} : ∀ (k a d : Nat), (∀ d', a ≤ d' → d' < d → (f d').filter p = []) → (f d).filter p ≠ [] → a ≤ d → d < a + k → least p ((List.range' a k).map f) = (f d).filter p
  | 0, a, d, _, _, h1, h2 => by omega
  | k + 1, a, d, h0, h1, h2, h3 => by
    rw [List.range'_succ, List.map_cons, least]
    by_cases e : a = d
    · subst e; rw [if_neg h1]
    · rw [if_pos (h0 a (Nat.le_refl _) (by omega))]
      exact least_at k (a + 1) d (fun d' h4 h5 => h0 d' (by omega) h5) h1 (by omega) (by omega)
theorem wrongs_at {n : Nat} {ss : List (List Nat)} (hm : ss.length ≤ 6) {d : Nat} (h0 : ∀ d', d' < d → wrF n ss d' = []) (h1 : wrF n ss d ≠ []) (hd : d ≤ ss.length) : wrongsOf n ss = wrF n ss d := by
  rw [wrongs_least hm, List.range_eq_range']
  exact least_at _ 0 d (fun d' _ h => h0 d' h) h1 (Nat.zero_le _) (by omega)
theorem full_mem : ∀ m : Fin 7, List.range m.1 ∈ chs m.1 m.1 [] ∧ othN m.1 (List.range m.1) = [] := by decide +kernel
theorem cyc_nil (n : Nat) : cyc n [] = false := cyc_of_strict (f := id) (fun p hp => by cases hp)
theorem wrF_full {n : Nat} {ss : List (List Nat)} (hm : ss.length ≤ 6) : wrF n ss ss.length ≠ [] := by
  obtain ⟨h1, h2⟩ := full_mem ⟨ss.length, by omega⟩
  intro h
  have : List.range ss.length ∈ wrF n ss ss.length := List.mem_filter.2 ⟨h1, by simp only at h2; rw [h2]; simp [onlyN, cyc_nil]⟩
  rw [h] at this
  cases this
theorem wrongs_ne {n : Nat} {ss : List (List Nat)} (hm : ss.length ≤ 6) : wrongsOf n ss ≠ [] := by
  obtain ⟨d, hd, h1, h0⟩ : ∃ d, d ≤ ss.length ∧ wrF n ss d ≠ [] ∧ ∀ d', d' < d → wrF n ss d' = [] := by
    have : ∀ k, k ≤ ss.length + 1 → (∀ d', d' < k → wrF n ss d' = []) ∨ ∃ d, d ≤ ss.length ∧ wrF n ss d ≠ [] ∧ ∀ d', d' < d → wrF n ss d' = [] := by
      intro k
      induction k with
      | zero => intro _; exact .inl fun d' h => by omega
      | succ k ih =>
        intro hk
        rcases ih (by omega) with h | h
        · by_cases e : wrF n ss k = []
          · exact .inl fun d' hd' => by
              by_cases e2 : d' = k
              · subst e2; exact e
              · exact h d' (by omega)
          · exact .inr ⟨k, by omega, e, h⟩
        · exact .inr h
    rcases this (ss.length + 1) (Nat.le_refl _) with h | h
    · exact absurd (h ss.length (by omega)) (wrF_full hm)
    · exact h
  rw [wrongs_at hm h0 h1 hd]
  exact h1
def wrTo (n : Nat) (ss : List (List Nat)) (d k : Nat) : List (List Nat) := ((chs ss.length d []).take k).filter fun l => !cyc n (onlyN ss (othN ss.length l))
theorem wrTo_succ {n : Nat} {ss : List (List Nat)} {d k : Nat} {l : List Nat} (h : (chs ss.length d [])[k]? = some l) : wrTo n ss d (k + 1) = wrTo n ss d k ++ if cyc n (onlyN ss (othN ss.length l)) = true then [] else [l] := by
  obtain ⟨hk, rfl⟩ := List.getElem?_eq_some_iff.1 h
  rw [wrTo, List.take_succ_eq_append_getElem hk, List.filter_append, wrTo]
  congr 1
  cases he : cyc n (onlyN ss (othN ss.length (chs ss.length d [])[k])) <;> simp [List.filter_cons, he]
theorem wrTo_all {n : Nat} {ss : List (List Nat)} {d k : Nat} (h : (chs ss.length d []).length ≤ k) : wrTo n ss d k = wrF n ss d := by rw [wrTo, List.take_of_length_le h, wrF]
theorem wrTo_len (n : Nat) (ss : List (List Nat)) (d k : Nat) : (wrTo n ss d k).length ≤ k := by
  refine Nat.le_trans (List.length_filter_le _ _) ?_
  rw [List.length_take]; exact Nat.min_le_left _ _

end Go.Proofs.YtiehfpkcaoeieaaGreatDoor
