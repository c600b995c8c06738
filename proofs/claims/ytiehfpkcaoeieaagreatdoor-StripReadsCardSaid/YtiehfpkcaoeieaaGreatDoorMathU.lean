/- What the reference reads of a text, in plain mathematics. No condition. -/
import Derived.Test.YtiehfpkcaoeieaaGreatDoorM11
set_option linter.unusedVariables false
set_option linter.unusedSimpArgs false
namespace Go.Proofs.YtiehfpkcaoeieaaGreatDoor
open Go.StripM

/-- What the reference makes of a word: a number, and whether it is one. -/
def NumR (l : List UInt8) (v : Int) (is : Bool) : Prop := -99 ≤ v ∧ v ≤ 99 ∧ parseNum l = if is = true ∧ 0 ≤ v then some v.toNat else none
/-- Numbers none of which is below 0. -/
def numsOf (zs : List Int) : Option (List Nat) := if zs.all (fun z => decide (0 ≤ z)) = true then some (zs.map Int.toNat) else none
theorem nums_snoc {L : List (List UInt8)} {l : List UInt8} {zs : List Int} {v : Int} (h : L.mapM parseNum = numsOf zs) (h2 : NumR l v true) : (L ++ [l]).mapM parseNum = numsOf (zs ++ [v]) := by
  rw [mapM_snoc, h]
  have h3 := h2.2.2
  simp only [true_and] at h3
  unfold numsOf
  rw [List.all_append]
  by_cases ha : zs.all (fun z => decide (0 ≤ z)) = true
  · rw [if_pos ha, ha]
    by_cases hv : 0 ≤ v
    · rw [h3, if_pos hv, if_pos (by simp [hv])]; simp
    · rw [h3, if_neg hv, if_neg (by simp [hv])]; rfl
  · rw [if_neg ha, if_neg (by simp only [Bool.and_eq_true]; exact fun h => ha h.1)]; rfl
theorem nums_bad {L : List (List UInt8)} {l : List UInt8} {v : Int} (hl : l ∈ L) (h2 : NumR l v false) : L.mapM parseNum = none :=
  mapM_bad hl (by have := h2.2.2; simpa using this)

def rLine (first : Bool) (row : List UInt8) : Option (List Nat) := ((spl 32 row).tail.mapM parseNum).bind fun ns => if first = true ∧ ¬ ns.length = 1 then none else some ns
def rTo (rows : List (List UInt8)) : Nat → Option (Nat × List (List Nat))
  | 0 => some (0, [])
  | i + 1 => (rTo rows i).bind fun p => if i = 0 then (rLine true (rows.getD i [])).map fun ns => (ns.headD 0, p.2) else (rLine false (rows.getD i [])).map fun s => (p.1, p.2 ++ [s])
theorem line_r {f : Bool} {row : List UInt8} {ns : List Nat} (h : lineOk f row = some ns) : rLine f row = some ns := by
  unfold lineOk at h
  unfold rLine
  cases h1 : (spl 32 row).tail.mapM parseNum with
  | none => rw [h1] at h; cases h
  | some xs =>
    rw [h1] at h
    simp only [Option.bind_some] at h ⊢
    cases f with
    | true =>
      simp only [if_true] at h
      split at h
      · rename_i hc
        injection h with h; subst h
        rw [if_neg (fun k => k.2 hc.2)]
      · cases h
    | false =>
      simp only [Bool.false_eq_true, if_false] at h
      split at h
      · injection h with h; subst h
        rw [if_neg (fun k => by cases k.1)]
      · cases h
theorem to_r {rows : List (List UInt8)} : ∀ {i : Nat} {p : Nat × List (List Nat)}, stTo rows i = some p → rTo rows i = some p := by
  intro i
  induction i with
  | zero => intro p h; exact h
  | succ i ih =>
    intro p h
    rw [stTo] at h
    cases h1 : stTo rows i with
    | none => rw [h1] at h; cases h
    | some q =>
      rw [h1, Option.bind_some] at h
      rw [rTo, ih h1, Option.bind_some]
      split at h
      · rename_i hi
        rw [if_pos hi]
        cases h2 : lineOk true (rows.getD i []) with
        | none => rw [h2] at h; cases h
        | some ns => rw [h2] at h; rw [line_r h2]; exact h
      · rename_i hi
        rw [if_neg hi]
        cases h2 : lineOk false (rows.getD i []) with
        | none => rw [h2] at h; cases h
        | some ns => rw [h2] at h; rw [line_r h2]; exact h
theorem rLine_small {f : Bool} {row : List UInt8} {ns : List Nat} (h : rLine f row = some ns) : ∀ n ∈ ns, n < 100 := by
  unfold rLine at h
  cases h1 : (spl 32 row).tail.mapM parseNum with
  | none => rw [h1] at h; cases h
  | some xs =>
    rw [h1] at h
    simp only [Option.bind_some] at h
    split at h
    · cases h
    · injection h with h; subst h; exact mapM_small h1
theorem rTo_small {rows : List (List UInt8)} : ∀ {i : Nat} {p : Nat × List (List Nat)}, rTo rows i = some p → Sm p.1 p.2 := by
  intro i
  induction i with
  | zero => intro p h; injection h with h; subst h; exact ⟨by simp, by simp⟩
  | succ i ih =>
    intro p h
    rw [rTo] at h
    cases h1 : rTo rows i with
    | none => rw [h1] at h; cases h
    | some q =>
      rw [h1, Option.bind_some] at h
      have hq := ih h1
      split at h
      · cases h2 : rLine true (rows.getD i []) with
        | none => rw [h2] at h; cases h
        | some ns =>
          rw [h2] at h
          injection h with h
          subst h
          have := rLine_small h2
          refine ⟨?_, hq.2⟩
          cases ns with
          | nil => simp
          | cons a xs => exact this a (by simp)
      · cases h2 : rLine false (rows.getD i []) with
        | none => rw [h2] at h; cases h
        | some ns =>
          rw [h2] at h
          injection h with h
          subst h
          refine ⟨hq.1, fun s hs => ?_⟩
          rcases List.mem_append.1 hs with hs | hs
          · exact hq.2 s hs
          · rw [List.mem_singleton.1 hs]; exact rLine_small h2
theorem read_none {l : List UInt8} {k : Nat} (h : rTo (spl 10 l) k = none) (hk : k ≤ (spl 10 l).length - 2) : parse l = none := by
  refine parse_stop (i := k) ?_ hk
  cases h1 : stTo (spl 10 l) k with
  | none => rfl
  | some p => rw [to_r h1] at h; cases h
theorem read_done {l : List UInt8} {p : Nat × List (List Nat)} (h3 : 3 ≤ (spl 10 l).length) (h : rTo (spl 10 l) ((spl 10 l).length - 2) = some p) : parse l = if textB p.1 p.2 = l then some p else none := by
  split
  · rename_i ht
    exact parse_iff.2 ⟨rTo_small h, ht⟩
  · rename_i ht
    cases hp : parse l with
    | none => rfl
    | some q =>
      exfalso
      unfold parse at hp
      rw [if_neg (by omega)] at hp
      cases h1 : stTo (spl 10 l) ((spl 10 l).length - 2) with
      | none => rw [h1] at hp; cases hp
      | some q' =>
        rw [h1, Option.bind_some] at hp
        have := to_r h1
        rw [h] at this
        injection this with this
        subst this
        rw [if_neg ht] at hp
        cases hp

theorem rLine_len {f : Bool} {row : List UInt8} {ns : List Nat} (h : rLine f row = some ns) : ns.length ≤ row.length := by
  unfold rLine at h
  cases h1 : (spl 32 row).tail.mapM parseNum with
  | none => rw [h1] at h; cases h
  | some xs =>
    have h2 := mapM_len h1
    have h3 := spl_len 32 row
    rw [List.length_tail] at h2
    rw [h1] at h
    simp only [Option.bind_some] at h
    split at h
    · cases h
    · injection h with h; subst h; omega
theorem rLine_true {row : List UInt8} {ns : List Nat} (h : (spl 32 row).tail.mapM parseNum = some ns) : rLine true row = if ns.length = 1 then some ns else none := by
  rw [rLine, h, Option.bind_some]
  by_cases hn : ns.length = 1
  · rw [if_pos hn, if_neg (fun k => k.2 hn)]
  · rw [if_neg hn, if_pos ⟨rfl, hn⟩]
theorem rLine_false {row : List UInt8} {ns : List Nat} (h : (spl 32 row).tail.mapM parseNum = some ns) : rLine false row = some ns := by
  rw [rLine, h, Option.bind_some, if_neg (fun k => by cases k.1)]
theorem rLine_none {f : Bool} {row : List UInt8} (h : (spl 32 row).tail.mapM parseNum = none) : rLine f row = none := by rw [rLine, h]; rfl
theorem rTo_first {rows : List (List UInt8)} {r : List UInt8} {p : Nat × List (List Nat)} (h : rTo rows 0 = some p) (hr : rows[0]? = some r) : rTo rows 1 = (rLine true r).map fun ns => (ns.headD 0, p.2) := by
  rw [rTo, h, Option.bind_some, if_pos rfl]; simp [List.getD, hr]
theorem rTo_more {rows : List (List UInt8)} {r : List UInt8} {i : Nat} {p : Nat × List (List Nat)} (h : rTo rows i = some p) (hi : i ≠ 0) (hr : rows[i]? = some r) : rTo rows (i + 1) = (rLine false r).map fun s => (p.1, p.2 ++ [s]) := by
  rw [rTo, h, Option.bind_some, if_neg hi]; simp [List.getD, hr]
theorem rTo_bad {rows : List (List UInt8)} {r : List UInt8} {k : Nat} {p : Nat × List (List Nat)} (h : rTo rows k = some p) (hr : rows[k]? = some r) (hb : ∀ f, rLine f r = none) : rTo rows (k + 1) = none := by
  cases k with
  | zero => rw [rTo_first h hr, hb]; rfl
  | succ k => rw [rTo_more h (by omega) hr, hb]; rfl
theorem rTo_len {rows : List (List UInt8)} (hr : ∀ r ∈ rows, r.length ≤ 900) : ∀ {i : Nat} {p : Nat × List (List Nat)}, rTo rows i = some p → p.2.length ≤ i ∧ ∀ s ∈ p.2, s.length ≤ 900 := by
  intro i
  induction i with
  | zero => intro p h; injection h with h; subst h; exact ⟨by simp, by simp⟩
  | succ i ih =>
    intro p h
    rw [rTo] at h
    cases h1 : rTo rows i with
    | none => rw [h1] at h; cases h
    | some q =>
      rw [h1, Option.bind_some] at h
      obtain ⟨q1, q2⟩ := ih h1
      split at h
      · cases h2 : rLine true (rows.getD i []) with
        | none => rw [h2] at h; cases h
        | some ns => rw [h2] at h; injection h with h; subst h; exact ⟨by simp; omega, q2⟩
      · cases h2 : rLine false (rows.getD i []) with
        | none => rw [h2] at h; cases h
        | some ns =>
          rw [h2] at h
          injection h with h
          subst h
          refine ⟨by simp; omega, fun s hs => ?_⟩
          rcases List.mem_append.1 hs with hs | hs
          · exact q2 s hs
          · rw [List.mem_singleton.1 hs]
            have := rLine_len h2
            by_cases hi : i < rows.length
            · have e : rows.getD i [] = rows[i] := by simp [List.getD, hi]
              rw [e] at this
              have := hr _ (List.getElem_mem hi)
              omega
            · have e : rows.getD i [] = [] := by simp [List.getD, List.getElem?_eq_none (by omega : rows.length ≤ i)]
              rw [e] at this
              simp only [List.length_nil] at this; omega
/-- Whether the first of some numbers are not below 0. -/
def nonneg (zs : List Int) (k : Nat) : Bool := (zs.take k).all fun z => decide (0 ≤ z)
theorem nonneg_succ {zs : List Int} {k : Nat} (hk : k < zs.length) : nonneg zs (k + 1) = (nonneg zs k && decide (0 ≤ zs[k])) := by
  rw [nonneg, List.take_succ_eq_append_getElem hk, List.all_append, nonneg]; simp
theorem nonneg_up {zs : List Int} (h : nonneg zs zs.length = true) : numsOf zs = some (zs.map Int.toNat) ∧ zs = up (zs.map Int.toNat) := by
  rw [nonneg, List.take_of_length_le (Nat.le_refl _)] at h
  refine ⟨by rw [numsOf, if_pos h], ?_⟩
  rw [List.all_eq_true] at h
  simp only [up, List.map_map]
  conv => lhs; rw [← List.map_id zs]
  exact List.map_congr_left fun z hz => by have := h z hz; simp at this ⊢; omega
theorem nonneg_not {zs : List Int} (h : nonneg zs zs.length = false) : numsOf zs = none := by
  rw [nonneg, List.take_of_length_le (Nat.le_refl _)] at h
  rw [numsOf, if_neg (by rw [h]; decide)]

end Go.Proofs.YtiehfpkcaoeieaaGreatDoor
