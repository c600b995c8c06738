/- How long the text of a board as defined is. No condition. -/
import Derived.Test.YtiehfpkcaoeieaaGreatDoorMathS
set_option linter.unusedVariables false
set_option linter.unusedSimpArgs false
namespace Go.Proofs.YtiehfpkcaoeieaaGreatDoor
open Go.StripM

theorem digs_one {n : Nat} (h : n < 10) : (digs n).length = 1 := by
  unfold digs; rw [Lib.decDigits, dif_pos h]; rfl
theorem rowB_one (word : List UInt8) : ∀ {ns : List Nat}, (∀ n ∈ ns, n < 10) → (rowB word ns).length = word.length + 2 * ns.length
  | [], _ => by simp [rowB]
  | n :: ns, h => by
    have ih := rowB_one word (ns := ns) fun m hm => h m (List.mem_cons_of_mem _ hm)
    have h1 := digs_one (h n List.mem_cons_self)
    simp only [rowB, List.flatMap_cons, List.length_append, List.length_cons] at ih ⊢
    omega
theorem flat_len (L : List (List UInt8)) (c : Nat) (h : ∀ s ∈ L, s.length ≤ c) : (L.flatMap fun s => s ++ [10]).length ≤ L.length * (c + 1) := by
  induction L with
  | nil => simp
  | cons s L ih =>
    have h1 := h s List.mem_cons_self
    have h2 := ih fun t ht => h t (List.mem_cons_of_mem _ ht)
    simp only [List.flatMap_cons, List.length_append, List.length_cons, List.length_nil, Nat.succ_mul]
    omega
theorem Good.text_len {n : Nat} {ss : List (List Nat)} (g : Good n ss) : (textB n ss).length ≤ 130 := by
  have hle := g.le
  have hb := g.isB
  simp only [boardB, Bool.and_eq_true] at hb
  have h1 : ∀ s ∈ linesB n ss, s.length ≤ 14 := by
    intro s hs
    rcases List.mem_cons.1 hs with rfl | hs
    · rw [rowB_one wBoard (ns := [n]) (by intro m hm; simp only [List.mem_singleton] at hm; omega)]
      simp [wBoard]
    · obtain ⟨t, ht, rfl⟩ := List.mem_map.1 hs
      rw [rowB_one wSpot (fun m hm => by have := (g.valid t ht).2 m hm; omega)]
      have h2 := List.all_eq_true.1 hb.2 (up t) (List.mem_map.2 ⟨t, ht, rfl⟩)
      simp only [spotB, inB, Bool.and_eq_true, decide_eq_true_eq, up_length] at h2
      have h3 := h2.1
      simp only [wSpot, List.length_cons, List.length_nil]
      omega
  have h2 := flat_len (linesB n ss) 14 h1
  rw [linesB_length] at h2
  have h4 := g.len
  have e1 := digs_one (show checkOf (linesB n ss) / 100 < 10 by have := check_small (linesB n ss); omega)
  have e2 := digs_one (show checkOf (linesB n ss) / 10 % 10 < 10 by omega)
  have e3 := digs_one (show checkOf (linesB n ss) % 10 < 10 by omega)
  have h5 : (ss.length + 1) * (14 + 1) ≤ 7 * 15 := Nat.mul_le_mul (by omega) (Nat.le_refl _)
  rw [textB, sealB_eq, endB]
  simp only [List.length_append, List.length_cons, List.length_nil, e1, e2, e3, wEnd]
  omega

end Go.Proofs.YtiehfpkcaoeieaaGreatDoor
