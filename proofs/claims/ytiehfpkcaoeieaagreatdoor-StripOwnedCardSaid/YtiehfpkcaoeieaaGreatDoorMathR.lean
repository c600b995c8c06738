/- What StripOwned says of numbers for names, in plain mathematics. No condition. -/
import Derived.Test.YtiehfpkcaoeieaaGreatDoorLCan
set_option linter.unusedVariables false
set_option linter.unusedSimpArgs false
namespace Go.Proofs.YtiehfpkcaoeieaaGreatDoor
open Go.StripM

/-- The numbers grow along the first k names of a spot. -/
def upTo (zs : List Int) (s : List Nat) (k : Nat) : Prop := ∀ j, 1 ≤ j → j < k → j < s.length → zs.getD (s.getD (j - 1) 0) 0 < zs.getD (s.getD j 0) 0
theorem adj_at : ∀ {s : List Nat} {p : Nat × Nat}, p ∈ adj s → ∃ j, 1 ≤ j ∧ j < s.length ∧ p = (s.getD (j - 1) 0, s.getD j 0)
  | [], p, h => by simp [adj] at h
  | [_], p, h => by simp [adj] at h
  | a :: b :: s, p, h => by
    simp only [adj, List.mem_cons] at h
    rcases h with rfl | h
    · exact ⟨1, Nat.le_refl _, by simp, rfl⟩
    · obtain ⟨j, h1, h2, h3⟩ := adj_at h
      refine ⟨j + 1, by omega, by simpa using h2, ?_⟩
      rw [h3]
      obtain ⟨i, rfl⟩ : ∃ i, j = i + 1 := ⟨j - 1, by omega⟩
      simp
theorem pairs_up {zs : List Int} {ss : List (List Nat)} (h : ∀ i, i < ss.length → upTo zs (ss.getD i []) (ss.getD i []).length) : ∀ p ∈ pairs ss, zs.getD p.1 0 < zs.getD p.2 0 := by
  intro p hp
  obtain ⟨s, hs, h2⟩ := List.mem_flatMap.1 hp
  obtain ⟨i, hi, rfl⟩ := List.mem_iff_getElem.1 hs
  obtain ⟨j, h3, h4, rfl⟩ := adj_at h2
  have := h i hi
  have he : ss.getD i [] = ss[i] := by simp [List.getD, hi]
  rw [he] at this
  exact this j h3 h4 h4
theorem upTo_succ {zs : List Int} {s : List Nat} {k : Nat} (h : upTo zs s k) (h2 : zs.getD (s.getD (k - 1) 0) 0 < zs.getD (s.getD k 0) 0) : upTo zs s (k + 1) := by
  intro j h3 h4 h5
  rcases Nat.lt_or_eq_of_le (Nat.le_of_lt_succ h4) with h6 | rfl
  · exact h j h3 h6 h5
  · exact h2
theorem same_may {n : Nat} {ss : List (List Nat)} {one other : Nat} (hv : Valid n ss) (h1 : one < n) (h2 : other < n) (hne : one ≠ other) (h : sameOf n ss one other = true) :
    cyc n ss = false ∧ wordI (cnt n (ss ++ [[one, other]])) (cnt n ss) = 2 := by
  obtain ⟨a1, a2⟩ := same_word hv h1 h2 hne h
  obtain ⟨_, b2⟩ := same_word hv h2 h1 (Ne.symm hne) ((same_symm hv h1 h2 hne).trans h)
  exact ⟨a1, word_may (cnt_two hv h1 h2 hne) a2 b2⟩

end Go.Proofs.YtiehfpkcaoeieaaGreatDoor
