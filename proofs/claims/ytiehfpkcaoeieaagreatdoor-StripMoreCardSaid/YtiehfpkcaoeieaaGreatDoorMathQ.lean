/- What StripMore says of boards without a spot, or with a shorter one, in plain mathematics. No condition. -/
import Derived.Test.YtiehfpkcaoeieaaGreatDoorLCan
set_option linter.unusedVariables false
set_option linter.unusedSimpArgs false
namespace Go.Proofs.YtiehfpkcaoeieaaGreatDoor
open Go.StripM

theorem mem_oth {k : Nat} {l : List Nat} {i : Nat} : i ∈ othN k l ↔ i < k ∧ i ∉ l := by simp [othN]

/-- A spot without its last name, if it has more than one. -/
def cutS (s : List Nat) : List Nat := s.take (max 1 (s.length - 1))
/-- A board with one spot shorter. -/
def shS (ss : List (List Nat)) (k : Nat) : List (List Nat) := ss.set k (cutS (ss.getD k []))
/-- A board without one spot. -/
def exS (ss : List (List Nat)) (k : Nat) : List (List Nat) := onlyN ss (othN ss.length [k])

theorem pairIn_take {a b : Nat} : ∀ {s : List Nat} {k : Nat}, pairIn (s.take k) a b = true → pairIn s a b = true
  | [], k, h => by simpa using h
  | x :: s, 0, h => by simp [pairIn] at h
  | x :: s, k + 1, h => by
    rw [List.take_succ_cons] at h
    simp only [pairIn, Bool.or_eq_true, Bool.and_eq_true] at h ⊢
    rcases h with ⟨h1, h2⟩ | h
    · refine .inl ⟨h1, ?_⟩
      rw [List.contains_iff_mem] at h2 ⊢
      exact List.mem_of_mem_take h2
    · exact .inr (pairIn_take h)
theorem agrees_take {p s : List Nat} {k : Nat} (h : agrees p s = true) : agrees p (s.take k) = true := by
  rw [agrees_iff] at *
  exact fun a b hp => h a b (pairIn_take hp)
theorem cnt_le_cnt {n : Nat} {a b : List (List Nat)} (ha : Valid n a) (hb : Valid n b) (h : ∀ p, okOrd a p = true → okOrd b p = true) : cnt n a ≤ cnt n b := by
  rw [cnt_all ha, cnt_all hb, all, all, ← List.countP_eq_length_filter, ← List.countP_eq_length_filter]
  exact List.countP_mono_left fun p _ hp => h p hp
theorem ok_sh {ss : List (List Nat)} {k : Nat} {p : List Nat} (hk : k < ss.length) (h : okOrd ss p = true) : okOrd (shS ss k) p = true := by
  rw [okOrd, List.all_eq_true] at *
  intro s hs
  rcases List.mem_or_eq_of_mem_set hs with hs | rfl
  · exact h s hs
  · exact agrees_take (h _ (by simp [List.getD, hk]))
theorem ok_ex {ss : List (List Nat)} {k : Nat} {p : List Nat} (h : okOrd (shS ss k) p = true) : okOrd (exS ss k) p = true := by
  rw [okOrd, List.all_eq_true] at *
  intro s hs
  obtain ⟨i, hi, rfl⟩ := List.mem_map.1 hs
  obtain ⟨h1, h2⟩ := mem_oth.1 hi
  have hne : k ≠ i := fun e => h2 (by simp [e])
  refine h _ ?_
  have : (shS ss k)[i]? = some (ss.getD i []) := by rw [shS, List.getElem?_set_ne hne]; simp [List.getD, h1]
  exact List.mem_of_getElem? this
theorem ex_sub {ss : List (List Nat)} {k : Nat} : ∀ s ∈ exS ss k, s ∈ ss := by
  intro s hs
  obtain ⟨i, hi, rfl⟩ := List.mem_map.1 hs
  have := (mem_oth.1 hi).1
  simp [List.getD, this]
theorem ex_len {ss : List (List Nat)} {k : Nat} : (exS ss k).length = (othN ss.length [k]).length := onlyN_len _ _
theorem Good.ex {n : Nat} {ss : List (List Nat)} (g : Good n ss) (k : Nat) : Good n (exS ss k) :=
  g.only oth_lt (by have := othN_len ss.length [k]; have := g.len; omega)
theorem sh_len (ss : List (List Nat)) (k : Nat) : (shS ss k).length = ss.length := List.length_set ..
theorem upp_set (ss : List (List Nat)) (k : Nat) (s : List Nat) : upp (ss.set k s) = (upp ss).set k (up s) := by simp [upp, List.map_set]
theorem cut_names {n : Nat} {s : List Nat} (h : namesOk n s) : namesOk n (cutS s) :=
  ⟨h.1.sublist (List.take_sublist _ _), fun x hx => h.2 x (List.mem_of_mem_take hx)⟩
theorem cut_len {s : List Nat} (h : 1 ≤ s.length) : (cutS s).length = max 1 (s.length - 1) := by
  unfold cutS; rw [List.length_take]; omega
theorem cut_spot {n : Nat} {s : List Nat} (h : spotB (n : Int) (up s) = true) : spotB (n : Int) (up (cutS s)) = true := by
  simp only [spotB, Bool.and_eq_true] at h ⊢
  obtain ⟨h1, h2⟩ := h
  rw [up_length] at h1
  simp only [inB, Bool.and_eq_true, decide_eq_true_eq] at h1
  refine ⟨?_, ?_⟩
  · rw [up_length, cut_len (by omega)]
    simp only [inB, Bool.and_eq_true, decide_eq_true_eq]
    omega
  · simp only [namesB, decide_eq_true_eq] at h2 ⊢
    have he : up (cutS s) = (up s).take (max 1 (s.length - 1)) := by simp [up, cutS, List.map_take]
    rw [he]
    exact ⟨h2.1.sublist (List.take_sublist _ _), fun x hx => h2.2 x (List.mem_of_mem_take hx)⟩
theorem Good.sh {n : Nat} {ss : List (List Nat)} (g : Good n ss) {k : Nat} (hk : k < ss.length) : Good n (shS ss k) := by
  have hb := g.isB
  simp only [boardB, Bool.and_eq_true, decide_eq_true_eq] at hb
  have hall := List.all_eq_true.1 hb.2
  have hks : ss.getD k [] ∈ ss := by simp [List.getD, hk]
  refine ⟨?_, g.le, g.pos, by rw [sh_len]; exact g.len, ?_⟩
  · simp only [boardB, Bool.and_eq_true, decide_eq_true_eq]
    refine ⟨⟨hb.1.1, by rw [upp_length, sh_len, ← upp_length]; exact hb.1.2⟩, ?_⟩
    rw [List.all_eq_true]
    intro s hs
    rw [shS, upp_set] at hs
    rcases List.mem_or_eq_of_mem_set hs with hs | rfl
    · exact hall s hs
    · exact cut_spot (hall _ (List.mem_map.2 ⟨_, hks, rfl⟩))
  · intro s hs
    rcases List.mem_or_eq_of_mem_set hs with hs | rfl
    · exact g.valid s hs
    · exact cut_names (g.valid _ hks)

theorem owners_sub {n : Nat} {a b : List (List Nat)} (hn : n ≤ 6) (hv : Valid n b) (hc : cyc n b = false) (h : ∀ s ∈ a, s ∈ b) : ownersOf n a ≤ ownersOf n b := by
  obtain ⟨l, hl, hll, hch, hs⟩ := levels_some hv hc
  have hm := owners_levels hn hv hl
  refine owners_bound (f := fun x => l.getD x 0) (fun p hp => hs p (pairs_sub h p hp)) (fun x hx => ?_) (fun x hx => ?_)
  · rw [← hm]; exact mx_ge (getD_mem (by omega))
  · exact (hch x hx).pos

theorem wrongs_sub {n : Nat} {ss : List (List Nat)} (g : Good n ss) (k : Nat) {f : List Nat} (h3 : f.Pairwise (· < ·)) (hc : cyc n (onlyN ss (othN ss.length f)) = false) :
    ∃ f', Blamed n (exS ss k) ((List.range (othN ss.length [k]).length).filter fun j => decide ((othN ss.length [k]).getD j 0 ∈ f)) f' ∧ f'.length ≤ f.length := by
  obtain ⟨e, he⟩ : ∃ e, e = othN ss.length [k] := ⟨_, rfl⟩
  have hexl : (exS ss k).length = e.length := by rw [ex_len, he]
  rw [← he]
  have hed : e.Nodup := by rw [he]; exact (List.nodup_range).filter _
  obtain ⟨M, hM⟩ : ∃ M, M = (List.range e.length).filter fun j => decide (e.getD j 0 ∈ f) := ⟨_, rfl⟩
  rw [← hM]
  have hM1 : M.Pairwise (· < ·) := by rw [hM]; exact (range_lt _).filter _
  have hM2 : ∀ i ∈ M, i < e.length ∧ e.getD i 0 ∈ f := fun i hi => by rw [hM] at hi; simpa using hi
  have hlen : M.length ≤ f.length := by
    have h1 : (M.map fun j => e.getD j 0).Nodup := by
      rw [List.nodup_iff_pairwise_ne, List.pairwise_map]
      refine List.Pairwise.imp_of_mem ?_ hM1
      intro a b ha hb hab hq
      have ha := (hM2 a ha).1
      have hb := (hM2 b hb).1
      simp only [List.getD_eq_getElem?_getD, List.getElem?_eq_getElem ha, List.getElem?_eq_getElem hb, Option.getD_some] at hq
      exact List.pairwise_iff_getElem.1 (List.nodup_iff_pairwise_ne.1 hed) a b ha hb hab hq
    have h2 := sub_len (l2 := f) h1 fun x hx => by obtain ⟨j, hj, rfl⟩ := List.mem_map.1 hx; exact (hM2 j hj).2
    rwa [List.length_map] at h2
  have hcyc : cyc n (onlyN (exS ss k) (othN (exS ss k).length M)) = false := by
    refine cyc_mono (valid_only g.valid _) ?_ hc
    intro s hs
    obtain ⟨j, hj, rfl⟩ := List.mem_map.1 hs
    obtain ⟨j1, j2⟩ := mem_oth.1 hj
    rw [hexl] at j1
    have j3 : e.getD j 0 ∉ f := fun hf => j2 (by rw [hM]; simp only [List.mem_filter, List.mem_range, decide_eq_true_eq]; exact ⟨j1, hf⟩)
    have j4 : e[j] ∈ othN ss.length [k] := by rw [← he]; exact List.getElem_mem _
    have hx : (exS ss k).getD j [] = ss.getD (e.getD j 0) [] := by
      simp only [exS, onlyN, ← he]
      simp [List.getD, j1]
    rw [hx]
    refine List.mem_map.2 ⟨e.getD j 0, mem_oth.2 ⟨?_, j3⟩, rfl⟩
    simp only [List.getD_eq_getElem?_getD, List.getElem?_eq_getElem j1, Option.getD_some]
    exact (mem_oth.1 j4).1
  obtain ⟨f', hf'⟩ := blamed (n := n) (ss := exS ss k) (M := M) (g.ex k).len hM1 (fun i hi => by rw [hexl]; exact (hM2 i hi).1) hcyc
  exact ⟨f', hf', Nat.le_trans hf'.least hlen⟩

end Go.Proofs.YtiehfpkcaoeieaaGreatDoor
