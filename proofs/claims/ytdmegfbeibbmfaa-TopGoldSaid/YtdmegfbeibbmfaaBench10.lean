/- What was tried so far lies in a variable. No condition. -/
import Derived.Test.YtdmegfbeibbmfaaBench9
set_option linter.unusedVariables false
set_option linter.unusedSimpArgs false
namespace Go.Proofs.Ytdmegfbeibbmfaa
open Go.RowKit Go.My Go.GoldM

/-- Plans, and how long each takes. -/
structure TimedIn (q : Nat) (wA : World) (L : List Nat) (I : Nat → Prop) (W : World) : Prop where
  turned : Turned q wA W
  own : ∀ i, I i → wA.heap.size ≤ i
  frozen : W.frozen? ⟨q, 0, none⟩ = false
  var : ∃ v xs, W.cell? ⟨q, 0, none⟩ = some v ∧ W.ownsRow wA.heap.size 75 2 v L.length xs ∧ (∀ b, v.ownBlock = some b → ¬ I b) ∧ ∀ (j m : Nat), L[j]? = some m → ∃ (o : Option Addr) (n c : Nat), xs[j * 2]? = some (.slice o n c) ∧ xs[j * 2 + 1]? = some (Value.int .i64 (m : Nat))

section
variable {q : Nat} {wA W : World} {L : List Nat} {I : Nat → Prop}
theorem TimedIn.lt (h : TimedIn q wA L I W) : q < W.heap.size := by
  obtain ⟨v, xs, hc, _⟩ := h.var
  exact World.block_lt_of_cell? _ _ hc
theorem TimedIn.mv {I' : Nat → Prop} {W' : World} (hq : q < wA.heap.size) (h : TimedIn q wA L I W) (hM : Mv I W W') (hI' : ∀ i, I' i → (I i ∨ W.heap.size ≤ i) ∧ i < W'.heap.size) : TimedIn q wA L I' W' := by
  have hn : ¬ I q := fun k => by have := h.own q k; omega
  refine ⟨Turned_mv h.turned h.own hM, fun i hi => ?_, (hM.frozen hn (by exact h.lt)).trans h.frozen, ?_⟩
  · rcases (hI' i hi).1 with k | k
    · exact h.own i k
    · exact Nat.le_trans h.turned.size k
  · obtain ⟨v, xs, hc, hrow, hv, hall⟩ := h.var
    refine ⟨v, xs, hM.cell hn hc, row_mv hrow hM hv, fun b hb hi => ?_, hall⟩
    rcases (hI' b hi).1 with k | k
    · exact hv b hb k
    · have := (World.ownsRow.lt hrow b hb).2; omega
theorem TimedIn.put (hq : q < wA.heap.size) (h : TimedIn q wA L I W) {l : Nat} {o o' : Obj} (hl : wA.heap.size ≤ l) (ho : W.heap[l]? = some o) (hoc : o.isCells = false) : TimedIn q wA L I (W.putObj l o') := by
  have hM := putObj_mv W l o'
  have hn : ¬ q = l := by omega
  obtain ⟨v, xs, hc, hrow, hv, hall⟩ := h.var
  exact ⟨h.turned.own (grownBy_putObj' W l o') hl, h.own, (hM.frozen hn (by exact h.lt)).trans h.frozen, v, xs, hM.cell hn hc, row_put hrow ho hoc, hv, hall⟩
theorem TimedIn.app (hq : q < wA.heap.size) (hA : TimedIn q wA L I W) (hI : ∀ i, I i → i < W.heap.size) {w6 w7 : World} (hE : Ext W w6) {v v' : Value} {xs : List Value} {m : Nat} {om : Option Addr} {nm cm : Nat}
    (hv : W.cell? ⟨q, 0, none⟩ = some v) (hr : W.ownsRow wA.heap.size 75 2 v L.length xs) (hvI : ∀ b, v.ownBlock = some b → ¬ I b) (hall : ∀ (j m : Nat), L[j]? = some m → ∃ (o : Option Addr) (n c : Nat), xs[j * 2]? = some (.slice o n c) ∧ xs[j * 2 + 1]? = some (Value.int .i64 (m : Nat)))
    (hr' : w7.ownsRow wA.heap.size 75 2 v' (L.length + 1) (xs ++ [.slice om nm cm, .int .i64 (m : Nat)])) (hg : w6.grownBy w7 v.ownBlock) (hat : v'.ownBlock = v.ownBlock ∨ v'.ownBlock = some w6.heap.size) :
    TimedIn q wA (L ++ [m]) I (w7.setCell ⟨q, 0, none⟩ v') ∧ Kept I (fun i => i = q) wA.heap.size W (w7.setCell ⟨q, 0, none⟩ v') ∧ KeepsOthers W (w7.setCell ⟨q, 0, none⟩ v') := by
  have hT : Turned q w7 (w7.setCell ⟨q, 0, none⟩ v') := (Turned.refl q w7).set 0 v'
  have hqn : ∀ b, v.ownBlock = some b → wA.heap.size ≤ b := fun b hb => (World.ownsRow.lt hr b hb).1
  have hq6 : q < w6.heap.size := Nat.lt_of_lt_of_le hA.lt hE.size
  have hE' : Mv (fun i => v.ownBlock = some i) w6 w7 := Mv.of_grown hg fun i h => h
  have hqb : ¬ v.ownBlock = some q := fun h => by have := hqn q h; omega
  have hc7 : w7.cell? ⟨q, 0, none⟩ = some v := hE'.cell hqb (cell_ext hE hv)
  have hf7 : w7.frozen? ⟨q, 0, none⟩ = false := (hE'.frozen hqb hq6).trans ((frozen_ext hE hA.lt).trans hA.frozen)
  have hr6 : w6.ownsRow wA.heap.size 75 2 v L.length xs := row_mv hr (Mv.of_ext (I := fun _ => False) hE) (fun _ _ h => h)
  have hkept : Kept I (fun i => i = q) wA.heap.size W (w7.setCell ⟨q, 0, none⟩ v') := by
    refine ((Mv.of_ext hE).trans (Mv.of_grown hg fun i hi => ?_)).trans (Mv.of_grown hT fun i hi => ?_)
    · rintro (k | k)
      · exact hvI i hi k
      · have := hqn i hi; omega
    · cases hi
      rintro (k | k)
      · have := hA.own _ k; omega
      · exact k.2 rfl
  have hsz6 := hE.size
  refine ⟨⟨(Turned_mv (hA.turned.trans (Turned.of_ext hE)) hqn hE').trans hT, hA.own, by go_simp, v', xs ++ [.slice om nm cm, .int .i64 (m : Nat)], by go_simp, ?_, fun b hb hi => ?_, fun j m' hl' => ?_⟩, hkept, ?_⟩
  · rw [List.length_append, List.length_singleton]
    refine row_mv (I := fun i => i = q) hr' (Mv.of_grown hT fun i hi => by cases hi; rfl) fun b hb hbq => ?_
    have := (World.ownsRow.lt hr' b hb).1
    omega
  · rcases hat with h | h
    · rw [h] at hb; exact hvI b hb hi
    · rw [h] at hb
      cases hb
      have := hI _ hi
      omega
  · have hxl : xs.length = L.length * 2 := hr.1
    by_cases hj : j < L.length
    · rw [List.getElem?_append_left hj] at hl'
      obtain ⟨o', n', c', h1, h2⟩ := hall j m' hl'
      exact ⟨o', n', c', by rw [List.getElem?_append_left (List.getElem?_eq_some_iff.1 h1).1]; exact h1, by rw [List.getElem?_append_left (List.getElem?_eq_some_iff.1 h2).1]; exact h2⟩
    · have hj2 : j = L.length := by
        have := (List.getElem?_eq_some_iff.1 hl').1
        rw [List.length_append, List.length_singleton] at this
        omega
      subst hj2
      rw [List.getElem?_append_right (Nat.le_refl _), Nat.sub_self] at hl'
      simp only [List.getElem?_cons_zero, Option.some.injEq] at hl'
      subst hl'
      exact ⟨om, nm, cm, by rw [← hxl, List.getElem?_append_right (by omega), Nat.sub_self]; rfl, by rw [← hxl, List.getElem?_append_right (by omega), Nat.add_sub_cancel_left]; rfl⟩
  · exact (keeps_ext hE).trans ((KeepsOthers.of_grownBy hg (row_isCells hr6)).trans (KeepsOthers.setCell _ _ _))
/-- Cell by cell. -/
theorem TimedIn.cells (h : TimedIn q wA L I W) (hL : 0 < L.length) :
    ∃ g cap, W.cell? ⟨q, 0, none⟩ = some (.slice (some ⟨g, 0, none⟩) L.length cap) ∧ L.length ≤ cap ∧ ∀ j, j < L.length → ∃ o n c, W.cell? ⟨g, 2 * j, none⟩ = some (.slice o n c) ∧ W.cell? ⟨g, 2 * j + 1, none⟩ = some (.int .i64 (L.getD j 0 : Nat)) := by
  obtain ⟨v, xs, hc, hrow, hv, hall⟩ := h.var
  rcases id hrow.2 with ⟨_, h2⟩ | ⟨g, cap, cur, rfl, hb, hh, h3, h4, h5, h6⟩
  · omega
  refine ⟨g, cap, hc, h3, fun j hj => ?_⟩
  have hx := hrow.cells (g := g) rfl
  obtain ⟨o, n, c, h1, h2⟩ := hall j (L.getD j 0) (by simp [List.getD, hj])
  have x1 := hx _ _ h1
  have x2 := hx _ _ h2
  rw [add_none, Nat.zero_add] at x1 x2
  rw [Nat.mul_comm 2 j]
  exact ⟨o, n, c, x1, x2⟩
end

/-- A plan in hand. -/
def PlanAt (x : Bn) (wA : World) (act : Value → Act) (k : Nat) (I : Nat → Prop) (v : Value) (a : Act) (W : World) : Prop :=
  ∃ p om cm, (plansOf x)[k]? = some p ∧ v = .slice om p.length cm ∧ a = act v ∧ My.Own W wA.heap.size 3 (.slice om p.length cm) (natsV p) ∧ ∀ b, (Value.slice om p.length cm).ownBlock = some b → ¬ I b
theorem PlanAt.put (x : Bn) (wA : World) (act : Value → Act) (k : Nat) (I : Nat → Prop) (v : Value) (a : Act) (W : World) (l : Nat) (o o' : Obj) (h : PlanAt x wA act k I v a W) (hl2 : W.heap[l]? = some o) (ho : o.isCells = false) : PlanAt x wA act k I v a (W.putObj l o') := by
  obtain ⟨m, om, cm, h1, h2, h3, h4, h5⟩ := h
  exact ⟨m, om, cm, h1, h2, h3, own_put h4 hl2 ho, h5⟩

end Go.Proofs.Ytdmegfbeibbmfaa
