/- A text of a board with one digit changed is none: the check. No condition. -/
import Derived.Test.YtiehfpkcaoeieaaGreatDoorMathG
set_option linter.unusedVariables false
set_option linter.unusedSimpArgs false
namespace Go.Proofs.YtiehfpkcaoeieaaGreatDoor
open Go.StripM

theorem spl_mid (c : UInt8) (v : List UInt8) : ∀ u : List UInt8, ∃ A p q B, ∀ x : UInt8, x ≠ c → spl c (u ++ x :: v) = A ++ (p ++ x :: q) :: B
  | [] => ⟨[], [], (spl c v).headD [], (spl c v).tail, fun x hx => by rw [List.nil_append, spl, if_neg hx]; rfl⟩
  | y :: u => by
    obtain ⟨A, p, q, B, h⟩ := spl_mid c v u
    by_cases hy : y = c
    · exact ⟨[] :: A, p, q, B, fun x hx => by rw [List.cons_append, spl, if_pos hy, h x hx]; rfl⟩
    · cases A with
      | nil => exact ⟨[], y :: p, q, B, fun x hx => by rw [List.cons_append, spl, if_neg hy, h x hx]; rfl⟩
      | cons a A => exact ⟨(y :: a) :: A, p, q, B, fun x hx => by rw [List.cons_append, spl, if_neg hy, h x hx]; rfl⟩

theorem tail_cases {α : Type} {X A B : List α} {e f z : α} (h : X ++ [e, f] = A ++ z :: B) : (B = [] ∧ z = f) ∨ (B = [f] ∧ X = A ∧ z = e) ∨ ∃ B', B = B' ++ [e, f] ∧ X = A ++ z :: B' := by
  have h1 : (X ++ [e]) ++ [f] = A ++ z :: B := by simpa using h
  by_cases hB : B = []
  · subst hB
    exact .inl ⟨rfl, by have := (List.append_inj' h1 rfl).2; simpa using this.symm⟩
  · obtain ⟨B1, b, rfl⟩ : ∃ B1 b, B = B1 ++ [b] := ⟨_, _, (List.dropLast_concat_getLast hB).symm⟩
    have h2 : (X ++ [e]) ++ [f] = (A ++ z :: B1) ++ [b] := by simpa using h1
    obtain ⟨h3, h4⟩ := List.append_inj' h2 rfl
    obtain rfl : f = b := by simpa using h4
    by_cases hB1 : B1 = []
    · subst hB1
      obtain ⟨h5, h6⟩ := List.append_inj' h3 rfl
      exact .inr (.inl ⟨rfl, h5, by simpa using h6.symm⟩)
    · obtain ⟨B2, b', rfl⟩ : ∃ B2 b, B1 = B2 ++ [b] := ⟨_, _, (List.dropLast_concat_getLast hB1).symm⟩
      have h7 : X ++ [e] = (A ++ z :: B2) ++ [b'] := by simpa using h3
      obtain ⟨h8, h9⟩ := List.append_inj' h7 rfl
      obtain rfl : e = b' := by simpa using h9
      exact .inr (.inr ⟨B2, by simp, h8⟩)

theorem sum_but {f g : Nat → Nat} {a : Nat} (h : ∀ i, i ≠ a → f i = g i) : ∀ m, a < m → ((List.range m).map f).sum + g a = ((List.range m).map g).sum + f a := by
  intro m
  induction m with
  | zero => intro h; omega
  | succ m ih =>
    intro hm
    simp only [List.range_succ, List.map_append, List.sum_append, List.map_cons, List.map_nil, List.sum_cons, List.sum_nil]
    by_cases e : a = m
    · subst e
      have : (List.range a).map f = (List.range a).map g := List.map_congr_left fun i hi => h i (by have := List.mem_range.1 hi; omega)
      rw [this]; omega
    · have := ih (by omega)
      have := h m (Ne.symm e)
      omega

theorem getD_mid {α : Type} (p q : List α) (x d : α) (z : α) (i : Nat) (h : i ≠ p.length) : (p ++ x :: q).getD i z = (p ++ d :: q).getD i z := by
  simp only [List.getD_eq_getElem?_getD]
  congr 1
  by_cases hi : i < p.length
  · rw [List.getElem?_append_left hi, List.getElem?_append_left hi]
  · rw [List.getElem?_append_right (by omega), List.getElem?_append_right (by omega)]
    obtain ⟨k, hk⟩ : ∃ k, i - p.length = k + 1 := ⟨i - p.length - 1, by omega⟩
    rw [hk]; rfl
theorem getD_here {α : Type} (p q : List α) (x z : α) : (p ++ x :: q).getD p.length z = x := by simp [List.getD_eq_getElem?_getD]
theorem sumTo_mid (i : Nat) (p q : List UInt8) (x d : UInt8) : sumTo i (p ++ x :: q) (p ++ x :: q).length + d.toNat * (p.length + 1) * (i + 1) = sumTo i (p ++ d :: q) (p ++ d :: q).length + x.toNat * (p.length + 1) * (i + 1) := by
  have := sum_but (f := fun j => ((p ++ x :: q).getD j 0).toNat * (j + 1) * (i + 1)) (g := fun j => ((p ++ d :: q).getD j 0).toNat * (j + 1) * (i + 1)) (a := p.length)
    (fun j hj => by simp only [getD_mid p q x d 0 j hj]) (p ++ x :: q).length (by simp)
  simp only [getD_here] at this
  have hl : (p ++ x :: q).length = (p ++ d :: q).length := by simp
  unfold sumTo
  rw [← hl]
  exact this
theorem sumAll_mid (A B : List (List UInt8)) (p q : List UInt8) (x d : UInt8) :
    sumAll (A ++ (p ++ x :: q) :: B) (A ++ (p ++ x :: q) :: B).length + d.toNat * (p.length + 1) * (A.length + 1) = sumAll (A ++ (p ++ d :: q) :: B) (A ++ (p ++ d :: q) :: B).length + x.toNat * (p.length + 1) * (A.length + 1) := by
  have := sum_but (f := fun i => sumTo i ((A ++ (p ++ x :: q) :: B).getD i []) ((A ++ (p ++ x :: q) :: B).getD i []).length) (g := fun i => sumTo i ((A ++ (p ++ d :: q) :: B).getD i []) ((A ++ (p ++ d :: q) :: B).getD i []).length) (a := A.length)
    (fun j hj => by simp only [getD_mid A B (p ++ x :: q) (p ++ d :: q) [] j hj]) (A ++ (p ++ x :: q) :: B).length (by simp)
  simp only [getD_here] at this
  have hm := sumTo_mid A.length p q x d
  have hl : (A ++ (p ++ x :: q) :: B).length = (A ++ (p ++ d :: q) :: B).length := by simp
  unfold sumAll
  rw [← hl]
  omega

def decEnd (l : List UInt8) : Nat := ((l.getD 4 0).toNat - 48) * 100 + ((l.getD 5 0).toNat - 48) * 10 + ((l.getD 6 0).toNat - 48)
theorem decEnd_all : ∀ c : Fin 193, decEnd (wEnd ++ digs (c.val / 100) ++ digs (c.val / 10 % 10) ++ digs (c.val % 10)) = c.val := by decide +kernel
theorem end_check {L M : List (List UInt8)} (h : endB L = endB M) : checkOf L = checkOf M := by
  have h1 := decEnd_all ⟨checkOf L, check_small L⟩
  have h2 := decEnd_all ⟨checkOf M, check_small M⟩
  simp only at h1 h2
  rw [← h1, ← h2]
  exact congrArg decEnd h
theorem weights : ∀ k : Fin 20, ∀ i : Fin 7, ∀ x d : Fin 10, ((48 + x.val) * (k.val + 1) * (i.val + 1)) % 193 = ((48 + d.val) * (k.val + 1) * (i.val + 1)) % 193 → x = d := by decide +kernel

theorem Good.sm {n : Nat} {ss : List (List Nat)} (g : Good n ss) : Sm n ss :=
  ⟨by have := g.le; omega, fun s hs x hx => by have := (g.valid s hs).2 x hx; have := g.le; omega⟩
theorem Good.row_len {n : Nat} {ss : List (List Nat)} (g : Good n ss) {r : List UInt8} (h : r ∈ linesB n ss) : r.length ≤ 19 := by
  have hs := g.sm
  have hb := g.isB
  simp only [boardB, Bool.and_eq_true] at hb
  rcases List.mem_cons.1 h with rfl | h
  · have := rowB_len wBoard (ns := [n]) (by simpa using hs.1)
    simp [wBoard] at this ⊢; omega
  · obtain ⟨s, hs', rfl⟩ := List.mem_map.1 h
    have h1 := rowB_len wSpot (hs.2 s hs')
    have h2 := List.all_eq_true.1 hb.2 (up s) (List.mem_map.2 ⟨s, hs', rfl⟩)
    simp only [spotB, inB, Bool.and_eq_true, decide_eq_true_eq, up_length] at h2
    have h3 := h2.1
    simp [wSpot] at h1 ⊢; omega

/-- A digit changed: no text. -/
theorem spoilt {n : Nat} {ss : List (List Nat)} (g : Good n ss) {u v : List UInt8} {x d : Nat} (hx : x < 10) (hd : d < 10) (hne : x ≠ d) (ht : textB n ss = u ++ UInt8.ofNat (48 + x) :: v) : parse (u ++ UInt8.ofNat (48 + d) :: v) = none := by
  cases hp : parse (u ++ UInt8.ofNat (48 + d) :: v) with
  | none => rfl
  | some p =>
    obtain ⟨n', ss'⟩ := p
    obtain ⟨hs', ht'⟩ := parse_iff.1 hp
    have hs := g.sm
    have tn : ∀ y, y < 10 → (UInt8.ofNat (48 + y)).toNat = 48 + y := fun y hy => by simp; omega
    have n10 : ∀ y, y < 10 → UInt8.ofNat (48 + y) ≠ 10 := fun y hy e => by
      have := tn y hy
      rw [e] at this
      simp at this
      omega
    have hxd : UInt8.ofNat (48 + x) ≠ UInt8.ofNat (48 + d) := fun e => by
      have := tn x hx
      rw [e, tn d hd] at this
      omega
    obtain ⟨A, p, q, B, hspl⟩ := spl_mid 10 v u
    have h1 := hspl _ (n10 x hx)
    have h2 := hspl _ (n10 d hd)
    rw [← ht, spl_text hs] at h1
    rw [← ht', spl_text hs'] at h2
    rcases tail_cases h1 with ⟨rfl, hz⟩ | ⟨rfl, hX, hz⟩ | ⟨B', rfl, hX⟩
    · cases p <;> simp at hz
    · rcases tail_cases h2 with ⟨hz', _⟩ | ⟨_, hX', hz'⟩ | ⟨B', hB, _⟩
      · cases hz'
      · rw [hX'] at hz'
        rw [hX, ← hz'] at hz
        have := List.append_cancel_left hz
        simp only [List.cons.injEq, and_true] at this
        exact absurd this hxd
      · have := congrArg List.length hB
        simp at this
    · rcases tail_cases h2 with ⟨hB, _⟩ | ⟨hB, _, _⟩ | ⟨B'', hB, hX'⟩
      · have := congrArg List.length hB
        simp at this
      · have := congrArg List.length hB
        simp at this
      · obtain ⟨e1, e2⟩ := List.append_inj' hB (by simp)
        subst e1
        have e3 : endB (linesB n ss) = endB (linesB n' ss') := by simpa using e2
        have hc := end_check e3
        rw [checkOf, checkOf, hX, hX'] at hc
        have hsum := sumAll_mid A B' p q (UInt8.ofNat (48 + x)) (UInt8.ofNat (48 + d))
        rw [tn x hx, tn d hd] at hsum
        have hA : A.length < 7 := by
          have h5 := congrArg List.length hX
          rw [linesB_length] at h5
          simp only [List.length_append, List.length_cons] at h5
          have := g.len
          omega
        have hk : p.length < 20 := by
          have := g.row_len (r := p ++ UInt8.ofNat (48 + x) :: q) (by rw [hX]; simp)
          simp only [List.length_append, List.length_cons] at this
          omega
        have := weights ⟨p.length, hk⟩ ⟨A.length, hA⟩ ⟨x, hx⟩ ⟨d, hd⟩ (by show ((48 + x) * (p.length + 1) * (A.length + 1)) % 193 = ((48 + d) * (p.length + 1) * (A.length + 1)) % 193; omega)
        simp only [Fin.mk.injEq] at this
        exact absurd this hne

end Go.Proofs.YtiehfpkcaoeieaaGreatDoor
