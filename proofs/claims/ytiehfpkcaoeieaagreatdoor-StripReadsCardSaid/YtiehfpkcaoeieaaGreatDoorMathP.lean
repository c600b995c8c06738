/- What the laws say of wrong spots and of spots that contradict each other, in plain mathematics. No condition. -/
import Derived.Test.YtiehfpkcaoeieaaGreatDoorRise
set_option linter.unusedVariables false
set_option linter.unusedSimpArgs false
namespace Go.Proofs.YtiehfpkcaoeieaaGreatDoor
open Go.StripM

theorem risF_of {m : Nat} : ∀ {l : List Nat} {a : Nat}, l.Pairwise (· < ·) → (∀ i ∈ l, i < m ∧ a ≤ i) → risingF m a l
  | [], _, _, _ => trivial
  | x :: l, a, h, hm => by
    obtain ⟨h1, h2⟩ := List.pairwise_cons.1 h
    have hx := hm x List.mem_cons_self
    exact ⟨hx.2, hx.1, risF_of h2 fun i hi => ⟨(hm i (List.mem_cons_of_mem _ hi)).1, by have := h1 i hi; omega⟩⟩
theorem of_risF {m : Nat} : ∀ {l : List Nat} {a : Nat}, risingF m a l → l.Pairwise (· < ·) ∧ ∀ i ∈ l, i < m ∧ a ≤ i
  | [], _, _ => ⟨.nil, fun i h => by cases h⟩
  | x :: l, a, h => by
    obtain ⟨h1, h2, h3⟩ := h
    obtain ⟨k1, k2⟩ := of_risF h3
    refine ⟨List.pairwise_cons.2 ⟨fun i hi => by have := (k2 i hi).2; omega, k1⟩, fun i hi => ?_⟩
    rcases List.mem_cons.1 hi with rfl | hi
    · exact ⟨h2, h1⟩
    · exact ⟨(k2 i hi).1, by have := (k2 i hi).2; omega⟩
theorem mem_lists_of {m : Nat} (hm : m ≤ 6) {l : List Nat} (hp : l.Pairwise (· < ·)) (hi : ∀ i ∈ l, i < m) : l ∈ listsOf m :=
  (mem_listsOf hm).2 (risF_of hp fun i h => ⟨hi i h, Nat.zero_le _⟩)
theorem lists_ris {m : Nat} (hm : m ≤ 6) {l : List Nat} (h : l ∈ listsOf m) : l.Pairwise (· < ·) ∧ (∀ i ∈ l, i < m) ∧ l.length ≤ m := by
  have hr := (mem_listsOf hm).1 h
  obtain ⟨h1, h2⟩ := of_risF hr
  exact ⟨h1, fun i hi => (h2 i hi).1, by have := risingF_le hr (Nat.zero_le _); omega⟩

theorem valid_only {n : Nat} {ss : List (List Nat)} (hv : Valid n ss) (l : List Nat) : Valid n (onlyN ss l) := by
  intro s hs
  obtain ⟨i, _, rfl⟩ := List.mem_map.1 hs
  exact getD_valid hv i
theorem cyc_of_ord {n : Nat} {ss : List (List Nat)} {p : List Nat} (hv : Valid n ss) (hp : isOrd n p) (hk : okOrd ss p = true) : cyc n ss = false := by
  cases hc : cyc n ss
  · rfl
  · have hm := mem_all.2 ⟨hp, hk⟩
    rw [(all_nil hv).2 hc] at hm
    cases hm
theorem pairs_sub {a b : List (List Nat)} (h : ∀ s ∈ a, s ∈ b) : ∀ p ∈ pairs a, p ∈ pairs b := by
  intro p hp
  obtain ⟨s, hs, h2⟩ := List.mem_flatMap.1 hp
  exact List.mem_flatMap.2 ⟨s, h s hs, h2⟩
theorem cyc_mono {n : Nat} {a b : List (List Nat)} (hv : Valid n b) (h : ∀ s ∈ a, s ∈ b) (hc : cyc n b = false) : cyc n a = false := by
  obtain ⟨f, hf⟩ := strict_some hv hc
  exact cyc_of_strict (f := f) fun p hp => hf p (pairs_sub h p hp)
theorem only_sub {ss : List (List Nat)} {a b : List Nat} (h : ∀ i ∈ a, i ∈ b) : ∀ s ∈ onlyN ss a, s ∈ onlyN ss b := by
  intro s hs
  obtain ⟨i, hi, rfl⟩ := List.mem_map.1 hs
  exact List.mem_map.2 ⟨i, h i hi, rfl⟩
theorem only_range (ss : List (List Nat)) : onlyN ss (List.range ss.length) = ss := by
  apply List.ext_getElem
  · simp [onlyN]
  · intro i h1 h2
    simp [onlyN, List.getD, h2]
theorem miss_ok {n : Nat} {ss : List (List Nat)} {p : List Nat} (hv : Valid n ss) (hp : isOrd n p) : cyc n (onlyN ss (othN ss.length (missN p ss))) = false := by
  refine cyc_of_ord (valid_only hv _) hp ?_
  rw [okOrd, List.all_eq_true]
  intro s hs
  obtain ⟨i, hi, rfl⟩ := List.mem_map.1 hs
  obtain ⟨h1, h2⟩ := List.mem_filter.1 hi
  have h3 : i ∉ missN p ss := by simpa using h2
  cases hg : agrees p (ss.getD i [])
  · exact absurd (List.mem_filter.2 ⟨h1, by rw [hg]; rfl⟩) h3
  · rfl
theorem miss_ris (p : List Nat) (ss : List (List Nat)) : (missN p ss).Pairwise (· < ·) ∧ ∀ i ∈ missN p ss, i < ss.length :=
  ⟨(range_lt ss.length).filter _, fun i hi => List.mem_range.1 (List.mem_filter.1 hi).1⟩

theorem wrongs_d {n : Nat} {ss : List (List Nat)} (hm : ss.length ≤ 6) : ∃ d, d ≤ ss.length ∧ wrongsOf n ss = wrF n ss d ∧ ∀ d', d' < d → wrF n ss d' = [] := by
  have : ∀ k, k ≤ ss.length + 1 → (∀ d', d' < k → wrF n ss d' = []) ∨ ∃ d, d ≤ ss.length ∧ wrF n ss d ≠ [] ∧ ∀ d', d' < d → wrF n ss d' = [] := by
    intro k
    induction k with
    | zero => intro _; exact .inl fun d' h => by omega
    | succ k ih =>
      intro hk
      rcases ih (by omega) with h | h
      · by_cases e : wrF n ss k = []
        · exact .inl fun d' hd' => by
            by_cases e2 : d' = k
            · subst e2; exact e
            · exact h d' (by omega)
        · exact .inr ⟨k, by omega, e, h⟩
      · exact .inr h
  rcases this (ss.length + 1) (Nat.le_refl _) with h | ⟨d, hd, h1, h0⟩
  · exact absurd (h ss.length (by omega)) (wrF_full hm)
  · exact ⟨d, hd, wrongs_at hm h0 h1 hd, h0⟩

theorem wrF_mem {n : Nat} {ss : List (List Nat)} {d : Nat} {l : List Nat} : l ∈ wrF n ss d ↔ l.length = d ∧ risingF ss.length 0 l ∧ cyc n (onlyN ss (othN ss.length l)) = false := by
  rw [wrF, List.mem_filter, mem_chs]
  constructor
  · rintro ⟨⟨r, rfl, h1, h2⟩, h3⟩
    refine ⟨by simpa using h1, h2, by simpa using h3⟩
  · rintro ⟨h1, h2, h3⟩
    exact ⟨⟨l, rfl, h1, h2⟩, by rw [h3]; rfl⟩

structure Blamed (n : Nat) (ss : List (List Nat)) (M f : List Nat) : Prop where
  f0 : (wrongsOf n ss)[0]? = some f
  mem : f ∈ wrongsOf n ss
  len : f.length ≤ ss.length
  ris : f.Pairwise (· < ·)
  lt : ∀ i ∈ f, i < ss.length
  can : cyc n (onlyN ss (othN ss.length f)) = false
  least : f.length ≤ M.length
  tie : M.length = f.length → lexB M f = false ∧ M ∈ wrongsOf n ss

theorem blamed {n : Nat} {ss : List (List Nat)} {M : List Nat} (hm : ss.length ≤ 6) (hM : M.Pairwise (· < ·)) (hM2 : ∀ i ∈ M, i < ss.length) (hM3 : cyc n (onlyN ss (othN ss.length M)) = false) : ∃ f, Blamed n ss M f := by
  obtain ⟨d, hd, hR, h0⟩ := wrongs_d (n := n) hm
  have hne := wrongs_ne (n := n) hm
  obtain ⟨f, R, hfR⟩ := List.exists_cons_of_ne_nil hne
  have hf : f ∈ wrongsOf n ss := by rw [hfR]; exact List.mem_cons_self
  have hf2 := hf
  rw [hR] at hf2
  obtain ⟨k1, k2, k3⟩ := wrF_mem.1 hf2
  obtain ⟨r1, r2⟩ := of_risF k2
  have hMF : M ∈ wrF n ss M.length := wrF_mem.2 ⟨rfl, risF_of hM fun i hi => ⟨hM2 i hi, Nat.zero_le _⟩, hM3⟩
  have hdM : d ≤ M.length := by
    rcases Nat.lt_or_ge M.length d with h | h
    · rw [h0 _ h] at hMF; cases hMF
    · exact h
  refine ⟨f, by rw [hfR]; rfl, hf, by omega, r1, fun i hi => (r2 i hi).1, k3, by omega, fun e => ?_⟩
  have hMd : M ∈ wrongsOf n ss := by rw [hR]; rw [show M.length = d by omega] at hMF; exact hMF
  refine ⟨?_, hMd⟩
  have hs : (wrongsOf n ss).Pairwise fun a b => lexB a b = true := by rw [hR]; exact (chs_sorted _ _ _).filter _
  rcases head_least hs (by rw [hfR]; rfl) hMd with rfl | h
  · exact lexB_irrefl _
  · exact lexB_asymm h

theorem many_all (R : List (List Nat)) (i : Nat) : manyTo R i R.length = (R.filter fun l => decide (i ∈ l)).length := by rw [manyTo, List.take_length]
theorem word_mem {R : List (List Nat)} {x : List Nat} (hx : x ∈ R) (i : Nat) : (i ∈ x → wordI (manyTo R i R.length) R.length ≠ 1) ∧ (i ∉ x → wordI (manyTo R i R.length) R.length ≠ 3) := by
  have hpos := List.length_pos_of_mem hx
  rw [many_all]
  refine ⟨fun h e => ?_, fun h e => ?_⟩
  · rw [word_never] at e
    have : x ∈ R.filter fun l => decide (i ∈ l) := List.mem_filter.2 ⟨hx, decide_eq_true h⟩
    rw [List.eq_nil_of_length_eq_zero e] at this
    cases this
  · rw [word_sure (by omega), List.length_filter_eq_length_iff] at e
    exact h (of_decide_eq_true (e x hx))

structure Proved (n : Nat) (ss : List (List Nat)) (l : List Nat) : Prop where
  all : cyc n ss = true
  own : cyc n (onlyN ss l) = true
  ne : l ≠ []
  len : l.length ≤ ss.length
  ris : l.Pairwise (· < ·)
  lt : ∀ i ∈ l, i < ss.length
  least : ∀ o : List Nat, o.Pairwise (· < ·) → (∀ i ∈ o, i < ss.length) → cyc n (onlyN ss o) = true → l.length ≤ o.length ∧ (o.length = l.length → lexB o l = false)
  less : ∀ i, i < l.length → cyc n (onlyN ss (l.take i ++ l.drop (i + 1))) = false
  met : ∀ x : List Nat, cyc n (onlyN ss (othN ss.length x)) = false → ∃ i, i < l.length ∧ l.getD i 0 ∈ x

theorem clash_find {n : Nat} {ss : List (List Nat)} (hm : ss.length ≤ 6) : clashOf n ss = (listsOf ss.length).find? fun l => cyc n (onlyN ss l) := by
  rw [clashOf, clashIn]
  exact find_congr fun l hl => by rw [cycP, pick_only hm hl]
theorem clash_none {n : Nat} {ss : List (List Nat)} (hm : ss.length ≤ 6) (h : clashOf n ss = none) : cyc n ss = false := by
  rw [clash_find hm, List.find?_eq_none] at h
  have hf := h _ (mem_lists_of hm (range_lt ss.length) fun i hi => List.mem_range.1 hi)
  rw [only_range] at hf
  simpa using hf
theorem proved {n : Nat} {ss : List (List Nat)} (hm : ss.length ≤ 6) (hv : Valid n ss) {l : List Nat} (h : clashOf n ss = some l) : Proved n ss l := by
  rw [clash_find hm] at h
  have hmem := List.mem_of_find?_eq_some h
  have hown : cyc n (onlyN ss l) = true := List.find?_some (p := fun l => cyc n (onlyN ss l)) h
  obtain ⟨r1, r2, r3⟩ := lists_ris hm hmem
  have hleast : ∀ o : List Nat, o.Pairwise (· < ·) → (∀ i ∈ o, i < ss.length) → cyc n (onlyN ss o) = true → l.length ≤ o.length ∧ (o.length = l.length → lexB o l = false) := by
    intro o h1 h2 h3
    rcases find_least (listsOf_sorted hm) h (mem_lists_of hm h1 h2) h3 with rfl | hl
    · exact ⟨Nat.le_refl _, fun _ => lexB_irrefl _⟩
    · simp only [lenLex, Bool.or_eq_true, Bool.and_eq_true, decide_eq_true_eq] at hl
      rcases hl with hl | ⟨hl, hb⟩
      · exact ⟨by omega, fun e => by omega⟩
      · exact ⟨by omega, fun _ => lexB_asymm hb⟩
  refine ⟨?_, hown, ?_, r3, r1, r2, hleast, fun i hi => ?_, fun x hx => ?_⟩
  · cases hc : cyc n ss
    · rw [cyc_mono hv (fun s hs => only_mem r2 hs) hc] at hown; cases hown
    · rfl
  · rintro rfl
    rw [show onlyN ss [] = [] from rfl, cyc_nil] at hown
    cases hown
  · cases hc : cyc n (onlyN ss (l.take i ++ l.drop (i + 1)))
    · rfl
    · have hsub : (l.take i ++ l.drop (i + 1)).Sublist l := by
        have := (List.drop_sublist_drop_left l (Nat.le_succ i)).append_left (l.take i)
        rwa [List.take_append_drop] at this
      have := (hleast _ (r1.sublist hsub) (fun j hj => r2 j (hsub.mem hj)) hc).1
      rw [List.length_append, List.length_take, List.length_drop] at this
      omega
  · apply Classical.byContradiction
    intro hno
    have : ∀ s ∈ onlyN ss l, s ∈ onlyN ss (othN ss.length x) := only_sub fun i hi => by
      refine List.mem_filter.2 ⟨List.mem_range.2 (r2 i hi), ?_⟩
      have : i ∉ x := fun hx2 => by
        obtain ⟨k, hk, he⟩ := List.mem_iff_getElem.1 hi
        exact hno ⟨k, hk, by simp [List.getD, hk, he, hx2]⟩
      simp [this]
    rw [cyc_mono (valid_only hv _) this hx] at hown
    cases hown

theorem Good.only {n : Nat} {ss : List (List Nat)} (g : Good n ss) {l : List Nat} (hl : ∀ i ∈ l, i < ss.length) (h6 : l.length ≤ 6) : Good n (onlyN ss l) := by
  refine ⟨?_, g.le, g.pos, by rw [onlyN_len]; exact h6, valid_only g.valid l⟩
  have hb := g.isB
  simp only [boardB, Bool.and_eq_true, decide_eq_true_eq] at hb ⊢
  refine ⟨⟨hb.1.1, by rw [upp_length, onlyN_len]; omega⟩, ?_⟩
  rw [List.all_eq_true] at hb ⊢
  intro x hx
  obtain ⟨s, hs, rfl⟩ := List.mem_map.1 hx
  exact hb.2 _ (List.mem_map.2 ⟨s, only_mem hl hs, rfl⟩)

end Go.Proofs.YtiehfpkcaoeieaaGreatDoor
