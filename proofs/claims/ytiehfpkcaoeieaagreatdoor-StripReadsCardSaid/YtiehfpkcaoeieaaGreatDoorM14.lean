/- Contracts and mathematics, joined: Args, Lift. Conditions stand with each. -/
import Derived.Test.YtiehfpkcaoeieaaGreatDoorM13
import Derived.Test.YtiehfpkcaoeieaaGreatDoorM1
import Derived.Test.YtiehfpkcaoeieaaGreatDoorM2
set_option linter.unusedVariables false
set_option linter.unusedSimpArgs false
/- The arguments of a law, and what its walk may ask of a board, in a box. No condition. -/
namespace Go.Proofs.YtiehfpkcaoeieaaGreatDoor
open Go.RowKit Go.My Go.StripM

structure BArg (w : World) (ls : List (List Int)) (oa : Option Addr) (cap : Nat) : Prop where
  rows : RowsAt w oa ls
  le : ls.length ≤ cap
  max : cap ≤ maxLen
  none : oa = none → cap = 0
structure LArg (w : World) (l : List Int) (oa : Option Addr) (cap : Nat) : Prop where
  ints : IntsAt w oa l
  le : l.length ≤ cap
  max : cap ≤ maxLen
  none : oa = none → cap = 0
theorem BArg.small {w : World} {ls : List (List Int)} {oa : Option Addr} {cap : Nat} (h : BArg w ls oa cap) : ls.length ≤ 9223372036854775807 := by
  have := h.le; have := h.max; unfold maxLen at *; omega
theorem LArg.small {w : World} {l : List Int} {oa : Option Addr} {cap : Nat} (h : LArg w l oa cap) : l.length ≤ 9223372036854775807 := by
  have := h.le; have := h.max; unfold maxLen at *; omega

section
variable {n : Int} {ls : List (List Int)} {oa : Option Addr} {cap : Nat} {w W : World}
theorem BxI.short (h : BxI n ls oa cap w W) (hl : ls.length ≤ 9223372036854775807) : Calls Tryz.prog 22 #[.agg #[.int .i64 n, .slice oa ls.length cap]] W fun e w' => e = .returned (.bool (shortB ls)) ∧ Ext W w' :=
  short_any n ls oa cap W h.rows hl
theorem BxI.right (h : BxI n ls oa cap w W) (hl : ls.length ≤ 9223372036854775807) : Calls Tryz.prog 29 #[.agg #[.int .i64 n, .slice oa ls.length cap]] W fun e w' => e = .returned (.bool (shortB ls && boardB n ls)) ∧ Ext W w' :=
  (right_any n ls oa cap W h.rows hl)
theorem BxI.rboard (h : BxI n ls oa cap w W) (hl : ls.length ≤ 9223372036854775807) : Calls Tryz.prog 26 #[.agg #[.int .i64 n, .slice oa ls.length cap]] W fun e w' => e = .returned (.bool (boardB n ls)) ∧ Ext W w' :=
  (rBoard_any n ls oa cap W h.rows hl)
theorem BxI.check (h : BxI n ls oa cap w W) (hl : ls.length ≤ 9223372036854775807) : Calls Tryz.prog 63 #[.agg #[.int .i64 n, .slice oa ls.length cap]] W fun e w' => e = .returned (.int .i64 (if boardB n ls then 0 else 2)) ∧ Ext W w' :=
  (check_any n ls oa cap W h.rows hl)
theorem BxI.known (h : BxI n ls oa cap w W) {m : Int} (hm : w.cell? ⟨1, 0, none⟩ = some (.int .i64 m)) : Calls Tryz.prog 23 #[] W fun e w' => e = .returned (.bool true) ∧ Ext W w' :=
  (known_any W m (cell_ext h.ext hm))
end


end Go.Proofs.YtiehfpkcaoeieaaGreatDoor
/- From lists of whole numbers to lists of names: boards, orders, spots, misses; what an order's first, count and word say. No condition. -/
namespace Go.Proofs.YtiehfpkcaoeieaaGreatDoor
open Go.RowKit Go.My Go.StripM

theorem up_lift : ∀ {l : List Int} (_h : ∀ x ∈ l, 0 ≤ x), ∃ s : List Nat, l = up s
  | [], _ => ⟨[], rfl⟩
  | x :: l, h => by
    obtain ⟨s, hs⟩ := up_lift (l := l) (fun y hy => h y (List.mem_cons_of_mem _ hy))
    refine ⟨x.toNat :: s, ?_⟩
    have := h x List.mem_cons_self
    simp only [up, List.map_cons] at *
    rw [hs, Int.toNat_of_nonneg this]

theorem up_inj {a b : List Nat} (h : up a = up b) : a = b := by
  induction a generalizing b with
  | nil => cases b with
    | nil => rfl
    | cons y b => simp [up] at h
  | cons x a ih => cases b with
    | nil => simp [up] at h
    | cons y b =>
      simp only [up, List.map_cons, List.cons.injEq] at h
      rw [ih h.2, Int.ofNat.inj h.1]

theorem up_nodup {s : List Nat} (h : (up s).Nodup) : s.Nodup := by
  induction s with
  | nil => exact List.nodup_nil
  | cons x s ih =>
    rw [show up (x :: s) = (x : Int) :: up s from rfl, List.nodup_cons] at h
    exact List.nodup_cons.2 ⟨fun k => h.1 (up_mem.2 k), ih h.2⟩

theorem names_lift {n : Nat} {l : List Int} (h : namesB (n : Int) l = true) : ∃ s : List Nat, l = up s ∧ namesOk n s := by
  have h' : l.Nodup ∧ ∀ x ∈ l, 0 ≤ x ∧ x ≤ (n : Int) - 1 := by simpa [namesB] using h
  obtain ⟨s, rfl⟩ := up_lift (fun x hx => (h'.2 x hx).1)
  refine ⟨s, rfl, up_nodup h'.1, fun x hx => ?_⟩
  have := (h'.2 x (up_mem.2 hx)).2
  omega

theorem order_lift {n : Nat} {o : List Int} (h : orderB (n : Int) o = true) : ∃ p, o = up p ∧ isOrd n p := by
  simp only [orderB, Bool.and_eq_true, decide_eq_true_eq] at h
  obtain ⟨p, rfl, hp⟩ := names_lift h.2
  refine ⟨p, rfl, ?_, hp.1, hp.2⟩
  have := h.1
  rw [up_length] at this
  omega

theorem spot_lift {n : Nat} {l : List Int} (h : spotB (n : Int) l = true) : ∃ s, l = up s ∧ GoodSpot n s := by
  have h' := h
  simp only [spotB, Bool.and_eq_true] at h
  obtain ⟨s, rfl, hs⟩ := names_lift h.2
  have h1 := h.1
  simp only [inB, Bool.and_eq_true, decide_eq_true_eq, up_length] at h1
  exact ⟨s, rfl, h', hs, by omega, by omega⟩

theorem rows_lift {n : Nat} : ∀ {ls : List (List Int)} (_h : ls.all (spotB (n : Int)) = true), ∃ ss, ls = upp ss ∧ Valid n ss
  | [], _ => ⟨[], rfl, fun s hs => by cases hs⟩
  | l :: ls, h => by
    rw [List.all_cons, Bool.and_eq_true] at h
    obtain ⟨s, rfl, gs⟩ := spot_lift h.1
    obtain ⟨ss, rfl, hv⟩ := rows_lift h.2
    exact ⟨s :: ss, rfl, fun t ht => by
      rcases List.mem_cons.1 ht with rfl | ht
      · exact gs.ok
      · exact hv t ht⟩

theorem board_lift {n : Int} {ls : List (List Int)} (h : boardB n ls = true) : ∃ (m : Nat) (ss : List (List Nat)), n = m ∧ ls = upp ss ∧ Good m ss := by
  have h' := h
  simp only [boardB, Bool.and_eq_true, inB, decide_eq_true_eq] at h
  obtain ⟨m, rfl⟩ : ∃ m : Nat, n = m := ⟨n.toNat, by omega⟩
  obtain ⟨ss, rfl, hv⟩ := rows_lift h.2
  have := h.1.2
  rw [upp_length] at this
  exact ⟨m, ss, rfl, rfl, h', by omega, by omega, this, hv⟩

theorem name_lift {n : Nat} {x : Int} (h : inB x 0 ((n : Int) - 1) = true) : ∃ y : Nat, x = y ∧ y < n := by
  simp only [inB, Bool.and_eq_true, decide_eq_true_eq] at h
  exact ⟨x.toNat, by omega, by omega⟩

/-! ### misses -/

theorem agreesI_cons (o : List Int) (a b : Int) (s : List Int) : agreesI o (a :: b :: s) = (decide (indexI o a ≤ indexI o b) && agreesI o (b :: s)) := by
  rw [Bool.eq_iff_iff, Bool.and_eq_true, decide_eq_true_eq]
  simp only [agreesI, decide_eq_true_eq]
  constructor
  · intro h
    refine ⟨by simpa using h 0 (by simp), fun i hi => ?_⟩
    have := h (i + 1) (by simp at hi ⊢; omega)
    simpa using this
  · rintro ⟨h1, h2⟩ i hi
    cases i with
    | zero => simpa using h1
    | succ i =>
      have := h2 i (by simp at hi ⊢; omega)
      simpa using this

theorem agrees_up {p : List Nat} : ∀ {s : List Nat} (_h : ∀ x ∈ s, x ∈ p), agreesI (up p) (up s) = agrees p s
  | [], _ => by simp [agreesI, up, agrees]
  | [a], _ => by simp [agreesI, up, agrees]
  | a :: b :: s, h => by
    have := agrees_up (s := b :: s) (fun x hx => h x (List.mem_cons_of_mem _ hx))
    rw [show up (a :: b :: s) = (a : Int) :: (b : Int) :: up s from rfl, agreesI_cons, index_in (h a (by simp)), index_in (h b (by simp))]
    rw [show (b : Int) :: up s = up (b :: s) from rfl, this]
    simp [agrees]

def missN (p : List Nat) (ss : List (List Nat)) : List Nat := (List.range ss.length).filter fun i => !agrees p (ss.getD i [])
theorem upp_getD (ss : List (List Nat)) (i : Nat) : (upp ss).getD i [] = up (ss.getD i []) := by
  simp only [List.getD_eq_getElem?_getD, upp, List.getElem?_map]
  cases ss[i]? <;> rfl
theorem getD_valid {n : Nat} {ss : List (List Nat)} (hv : Valid n ss) (i : Nat) : namesOk n (ss.getD i []) := by
  rw [List.getD_eq_getElem?_getD]
  cases h : ss[i]? with
  | none => exact ⟨List.nodup_nil, fun x hx => by cases hx⟩
  | some s => exact hv s (List.mem_of_getElem? h)
theorem misses_up {n : Nat} {p : List Nat} {ss : List (List Nat)} (hp : isOrd n p) (hv : Valid n ss) : missesTo (up p) (upp ss) ss.length = up (missN p ss) := by
  unfold missesTo missN up
  congr 1
  apply List.filter_congr
  intro i _
  rw [upp_getD, show (List.map (fun (x : Nat) => (x : Int)) p) = up p from rfl, agrees_up fun x hx => ord_mem hp ((getD_valid hv i).2 x hx)]
theorem missN_nil {p : List Nat} {ss : List (List Nat)} : missN p ss = [] ↔ okOrd ss p = true := by
  rw [missN, List.filter_eq_nil_iff, okOrd, List.all_eq_true]
  constructor
  · intro h s hs
    obtain ⟨i, hi⟩ := List.mem_iff_getElem?.1 hs
    have := h i (List.mem_range.2 (List.getElem?_eq_some_iff.1 hi).1)
    rw [List.getD_eq_getElem?_getD, hi] at this
    simpa using this
  · intro h i hi
    have hi' := List.mem_range.1 hi
    have := h ss[i] (List.getElem_mem hi')
    simp [List.getD_eq_getElem?_getD, hi', this]
theorem missN_len (p : List Nat) (ss : List (List Nat)) : (missN p ss).length ≤ ss.length := by
  have := List.length_filter_le (fun i => !agrees p (ss.getD i [])) (List.range ss.length)
  simpa [missN] using this

/-! ### the number of orders, the first one -/

theorem cnt_pos {n : Nat} {ss : List (List Nat)} (hv : Valid n ss) : cnt n ss = 0 ↔ cyc n ss = true := by
  rw [cnt_all hv, List.length_eq_zero_iff, all_nil hv]
theorem ords_720 : ∀ n, n ≤ 6 → (ords n n []).length ≤ 720 := by
  intro n hn
  have : ∀ n : Fin 7, (ords n n []).length ≤ 720 := by decide +kernel
  exact this ⟨n, by omega⟩
theorem cnt_720 {n : Nat} {ss : List (List Nat)} (hn : n ≤ 6) (hv : Valid n ss) : cnt n ss ≤ 720 := by
  rw [cnt_all hv, all]
  exact Nat.le_trans (List.length_filter_le _ _) (ords_720 n hn)
theorem first_some {n : Nat} {ss : List (List Nat)} (hv : Valid n ss) (hc : cyc n ss = false) : ∃ f, (all n ss).head? = some f ∧ f ∈ all n ss := by
  obtain ⟨o, ho⟩ := all_some hv hc
  cases h : all n ss with
  | nil => rw [h] at ho; cases ho
  | cons f r => exact ⟨f, rfl, List.mem_cons_self⟩
theorem order_of {n : Nat} {p : List Nat} (h : isOrd n p) : orderB (n : Int) (up p) = true := by
  obtain ⟨h1, h2, h3⟩ := h
  simp only [orderB, namesB, Bool.and_eq_true, decide_eq_true_eq, up_length]
  refine ⟨by omega, ?_, fun x hx => ?_⟩
  · rw [up]
    exact h2.map _ (fun a b hne e => hne (Int.ofNat.inj e))
  · obtain ⟨y, hy, rfl⟩ := List.mem_map.1 hx
    have := h3 y hy
    constructor <;> omega

end Go.Proofs.YtiehfpkcaoeieaaGreatDoor
