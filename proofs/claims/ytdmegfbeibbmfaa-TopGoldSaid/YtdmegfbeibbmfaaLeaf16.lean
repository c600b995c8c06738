/- The best ones so far lie in a variable. No condition. -/
import Derived.Test.YtdmegfbeibbmfaaLeaf15
import Derived.Maps.OwnIn
import Derived.Maps.AppendAt
set_option linter.unusedVariables false
set_option linter.unusedSimpArgs false
namespace Go.Proofs.Ytdmegfbeibbmfaa
open Go.RowKit Go.My Go.GoldM

theorem Turned_mv {q : Nat} {wA W W' : World} {I : Nat → Prop} (h : Turned q wA W) (hI : ∀ i, I i → wA.heap.size ≤ i) (hM : Mv I W W') : Turned q wA W' :=
  ⟨hM.os.trans h.os, hM.tape.trans h.tape, hM.output.trans h.output, Nat.le_trans h.size hM.size, fun i hi hne => (hM.block i (Nat.lt_of_lt_of_le hi h.size) fun k => by have := hI i k; omega).trans (h.block i hi hne)⟩
theorem keeps_ext {W W' : World} (h : Ext W W') : KeepsOthers W W' := ⟨h.size, fun k o hk _ => (h.block k (Array.getElem?_eq_some_iff.1 hk).1).trans hk⟩
theorem putObj_mv (W : World) (l : Nat) (o : Obj) : Mv (fun i => i = l) W (W.putObj l o) := Mv.of_grown (grownBy_putObj' W l o) fun i e => by cases e; rfl
section
variable {W W' : World} {B sz n : Nat} {e : TypeId} {v : Value} {xs : List Value}
theorem row_mv {I : Nat → Prop} (h : W.ownsRow B e sz v n xs) (hM : Mv I W W') (hI : ∀ b, v.ownBlock = some b → ¬ I b) : W'.ownsRow B e sz v n xs := by
  refine ⟨h.1, ?_⟩
  rcases h.2 with h2 | ⟨g, cap, cur, hv, hb, hg, r⟩
  · exact .inl h2
  · exact .inr ⟨g, cap, cur, hv, hb, hM.heap (hI g (by rw [hv]; rfl)) hg, r⟩
theorem row_put {l : Nat} {o o' : Obj} (h : W.ownsRow B e sz v n xs) (hl : W.heap[l]? = some o) (ho : o.isCells = false) : (W.putObj l o').ownsRow B e sz v n xs := by
  refine ⟨h.1, ?_⟩
  rcases h.2 with h2 | ⟨g, cap, cur, hv, hb, hg, r⟩
  · exact .inl h2
  · refine .inr ⟨g, cap, cur, hv, hb, (World.putObj_heap_other ?_).trans hg, r⟩
    rintro rfl
    rw [hl] at hg
    cases hg
    simp [Obj.isCells] at ho
theorem row_block (h : W.ownsRow B e sz v n xs) {g : Nat} (hg : v.ownBlock = some g) : ∃ cur, W.heap[g]? = some (.cells cur e (0, 0)) := by
  rcases h.2 with ⟨rfl, _⟩ | ⟨g', cap, cur, rfl, hb, hh, r⟩
  · cases hg
  · injection hg with hg
    subst hg
    exact ⟨cur, hh⟩
theorem row_isCells (h : W.ownsRow B e sz v n xs) (j : Nat) (o : Obj) (hj : v.ownBlock = some j) (ho : W.heap[j]? = some o) : o.isCells = true := by
  obtain ⟨cur, hc⟩ := row_block h hj
  rw [hc] at ho
  cases ho
  rfl
end

abbrev cutL (o : Option Addr) (n c many : Nat) : List Value := [.slice o n c, .int .i64 (many : Nat)]
/-- The head's cells, and its list. -/
def HeadAt (W : World) (B : Nat) (I : Nat → Prop) (L : List (List Nat × Nat)) (xs : List Value) : Prop := ∀ x : List Nat × Nat, L[0]? = some x → ∃ (om : Option Addr) (cm : Nat), (∀ (i : Nat) (u : Value), (cutL om x.1.length cm x.2)[i]? = some u → xs[i]? = some u) ∧ My.Own W B 3 (.slice om x.1.length cm) (natsV x.1) ∧ ∀ b, (Value.slice om x.1.length cm).ownBlock = some b → ¬ I b
/-- The best ones so far. -/
structure BestIn (e : TypeId) (q : Nat) (wA : World) (L : List (List Nat × Nat)) (I : Nat → Prop) (W : World) : Prop where
  turned : Turned q wA W
  own : ∀ i, I i → wA.heap.size ≤ i
  frozen : W.frozen? ⟨q, 0, none⟩ = false
  var : ∃ v xs, W.cell? ⟨q, 0, none⟩ = some v ∧ W.ownsRow wA.heap.size e 2 v L.length xs ∧ (∀ b, v.ownBlock = some b → ¬ I b) ∧ HeadAt W wA.heap.size I L xs

section
variable {e : TypeId} {q : Nat} {wA W : World} {L : List (List Nat × Nat)} {I : Nat → Prop}
theorem BestIn.lt (h : BestIn e q wA L I W) : q < W.heap.size := by
  obtain ⟨v, xs, hc, _⟩ := h.var
  exact World.block_lt_of_cell? _ _ hc
theorem BestIn.mv {I' : Nat → Prop} {W' : World} (hq : q < wA.heap.size) (h : BestIn e q wA L I W) (hM : Mv I W W') (hI' : ∀ i, I' i → (I i ∨ W.heap.size ≤ i) ∧ i < W'.heap.size) : BestIn e q wA L I' W' := by
  have hn : ¬ I q := fun k => by have := h.own q k; omega
  refine ⟨Turned_mv h.turned h.own hM, fun i hi => ?_, (hM.frozen hn (by exact h.lt)).trans h.frozen, ?_⟩
  · rcases (hI' i hi).1 with k | k
    · exact h.own i k
    · exact Nat.le_trans h.turned.size k
  · obtain ⟨v, xs, hc, hrow, hv, hall⟩ := h.var
    have up : ∀ b, b < W.heap.size → ¬ I b → ¬ I' b := fun b hb hnb hi => by
      rcases (hI' b hi).1 with k | k
      · exact hnb k
      · omega
    refine ⟨v, xs, hM.cell hn hc, row_mv hrow hM hv, fun b hb => up b (World.ownsRow.lt hrow b hb).2 (hv b hb), fun l hl => ?_⟩
    obtain ⟨om, cm, h1, h2, h3⟩ := hall l hl
    exact ⟨om, cm, h1, h2.mv hM h3, fun b hb => up b (h2.lt b hb).2 (h3 b hb)⟩
theorem BestIn.put (hq : q < wA.heap.size) (h : BestIn e q wA L I W) {l : Nat} {o o' : Obj} (hl : wA.heap.size ≤ l) (ho : W.heap[l]? = some o) (hoc : o.isCells = false) : BestIn e q wA L I (W.putObj l o') := by
  have hM := putObj_mv W l o'
  have hn : ¬ q = l := by omega
  obtain ⟨v, xs, hc, hrow, hv, hall⟩ := h.var
  refine ⟨h.turned.own (grownBy_putObj' W l o') hl, h.own, (hM.frozen hn (by exact h.lt)).trans h.frozen, v, xs, hM.cell hn hc, row_put hrow ho hoc, hv, fun l' hl' => ?_⟩
  obtain ⟨om, cm, h1, h2, h3⟩ := hall l' hl'
  exact ⟨om, cm, h1, own_put h2 ho hoc, h3⟩
theorem BestIn.ext (hq : q < wA.heap.size) (h : BestIn e q wA L I W) (hI : ∀ i, I i → i < W.heap.size) {W' : World} (hE : Ext W W') : BestIn e q wA L I W' := h.mv hq (Mv.of_ext hE) fun i hi => ⟨.inl hi, Nat.lt_of_lt_of_le (hI i hi) hE.size⟩
theorem BestIn.headCells {y : List Nat × Nat} {r : List (List Nat × Nat)} (h : BestIn e q wA (y :: r) I W) : ∃ g cap om cm, W.cell? ⟨q, 0, none⟩ = some (.slice (some ⟨g, 0, none⟩) (r.length + 1) cap) ∧ r.length + 1 ≤ cap ∧ cap ≤ maxLen ∧ W.cell? ⟨g, 0, none⟩ = some (.slice om y.1.length cm) ∧ W.cell? ⟨g, 1, none⟩ = some (.int .i64 (y.2 : Nat)) ∧
    My.Own W wA.heap.size 3 (.slice om y.1.length cm) (natsV y.1) := by
  obtain ⟨v, xs, hc, hrow, hv, hall⟩ := h.var
  obtain ⟨om, cm, h1, h2, h3⟩ := hall y rfl
  rcases id hrow.2 with ⟨_, h0⟩ | ⟨g, cap, cur, rfl, hb, hh, k1, k2, _⟩
  · simp at h0
  · have hx := hrow.cells (g := g) rfl
    have x0 := hx _ _ (h1 0 _ rfl)
    have x1 := hx _ _ (h1 1 _ rfl)
    rw [add_none] at x0 x1
    exact ⟨g, cap, om, cm, hc, k1, k2, x0, x1, h2⟩
/-- None. -/
theorem BestIn.nil (hq : q < wA.heap.size) (hA : BestIn e q wA L I W) : BestIn e q wA [] I (W.setCell ⟨q, 0, none⟩ (.slice none 0 0)) ∧ Kept I (fun i => i = q) wA.heap.size W (W.setCell ⟨q, 0, none⟩ (.slice none 0 0)) ∧ KeepsOthers W (W.setCell ⟨q, 0, none⟩ (.slice none 0 0)) := by
  have hT : Turned q W (W.setCell ⟨q, 0, none⟩ (.slice none 0 0)) := (Turned.refl q W).set 0 _
  obtain ⟨v, xs, hc, hrow, hv, hall⟩ := hA.var
  have hf := hA.frozen
  refine ⟨⟨hA.turned.trans hT, hA.own, by go_simp, .slice none 0 0, [], by go_simp, World.ownsRow_nil _ _ _ _, nofun, fun x hx => by simp at hx⟩, Mv.of_grown hT fun i hi => ?_, KeepsOthers.setCell _ _ _⟩
  cases hi
  rintro (k | k)
  · have := hA.own _ k; omega
  · exact k.2 rfl
/-- One more. -/
theorem BestIn.app (he : e ≠ 3) (hq : q < wA.heap.size) (hA : BestIn e q wA L I W) (hI : ∀ i, I i → i < W.heap.size) {w6 w7 : World} (hE : Ext W w6) {v v' : Value} {xs : List Value} {x : List Nat × Nat} {om : Option Addr} {cm : Nat}
    (hv : W.cell? ⟨q, 0, none⟩ = some v) (hr : W.ownsRow wA.heap.size e 2 v L.length xs) (hvI : ∀ b, v.ownBlock = some b → ¬ I b) (hall : HeadAt W wA.heap.size I L xs)
    (ho : My.Own w6 wA.heap.size 3 (.slice om x.1.length cm) (natsV x.1)) (hoI : ∀ b, (Value.slice om x.1.length cm).ownBlock = some b → ¬ I b)
    (hr' : w7.ownsRow wA.heap.size e 2 v' (L.length + 1) (xs ++ cutL om x.1.length cm x.2)) (hg : w6.grownBy w7 v.ownBlock) (hat : v'.ownBlock = v.ownBlock ∨ v'.ownBlock = some w6.heap.size) :
    BestIn e q wA (L ++ [x]) I (w7.setCell ⟨q, 0, none⟩ v') ∧ Kept I (fun i => i = q) wA.heap.size W (w7.setCell ⟨q, 0, none⟩ v') ∧ KeepsOthers W (w7.setCell ⟨q, 0, none⟩ v') := by
  have hT : Turned q w7 (w7.setCell ⟨q, 0, none⟩ v') := (Turned.refl q w7).set 0 v'
  have hqn : ∀ b, v.ownBlock = some b → wA.heap.size ≤ b := fun b hb => (World.ownsRow.lt hr b hb).1
  have hq6 : q < w6.heap.size := Nat.lt_of_lt_of_le hA.lt hE.size
  have hE' : Mv (fun i => v.ownBlock = some i) w6 w7 := Mv.of_grown hg fun i h => h
  have hqb : ¬ v.ownBlock = some q := fun h => by have := hqn q h; omega
  have hc7 : w7.cell? ⟨q, 0, none⟩ = some v := hE'.cell hqb (cell_ext hE hv)
  have hf7 : w7.frozen? ⟨q, 0, none⟩ = false := (hE'.frozen hqb hq6).trans ((frozen_ext hE hA.lt).trans hA.frozen)
  have hr6 : w6.ownsRow wA.heap.size e 2 v L.length xs := row_mv hr (Mv.of_ext (I := fun _ => False) hE) (fun _ _ h => h)
  have hne3 : ∀ {x : Value} {ys : List Value}, My.Own w6 wA.heap.size 3 x ys → ∀ b, x.ownBlock = some b → ¬ v.ownBlock = some b := fun hx b hb hvb => by
    obtain ⟨c1, h1⟩ := row_block hx hb
    obtain ⟨c2, h2⟩ := row_block hr6 hvb
    rw [h1] at h2
    cases h2
    exact he rfl
  have up3 : ∀ {x : Value} {ys : List Value}, My.Own w6 wA.heap.size 3 x ys → My.Own (w7.setCell ⟨q, 0, none⟩ v') wA.heap.size 3 x ys := fun hx => (hx.mv hE' (hne3 hx)).turned hT hq
  have hkept : Kept I (fun i => i = q) wA.heap.size W (w7.setCell ⟨q, 0, none⟩ v') := by
    refine ((Mv.of_ext hE).trans (Mv.of_grown hg fun i hi => ?_)).trans (Mv.of_grown hT fun i hi => ?_)
    · rintro (k | k)
      · exact hvI i hi k
      · have := hqn i hi; omega
    · cases hi
      rintro (k | k)
      · have := hA.own _ k; omega
      · exact k.2 rfl
  have hsz6 := hE.size
  refine ⟨⟨?_, hA.own, by go_simp, v', xs ++ cutL om x.1.length cm x.2, by go_simp, ?_, fun b hb hi => ?_, fun l' hl' => ?_⟩, hkept, ?_⟩
  · exact (Turned_mv (hA.turned.trans (Turned.of_ext hE)) hqn hE').trans hT
  · rw [List.length_append, List.length_singleton]
    refine row_mv (I := fun i => i = q) hr' (Mv.of_grown hT fun i hi => by cases hi; rfl) fun b hb hbq => ?_
    have := (World.ownsRow.lt hr' b hb).1
    omega
  · rcases hat with h | h
    · rw [h] at hb; exact hvI b hb hi
    · rw [h] at hb
      cases hb
      have := hI _ hi
      omega
  · have hxl : xs.length = L.length * 2 := hr.1
    by_cases hj : 0 < L.length
    · rw [List.getElem?_append_left hj] at hl'
      obtain ⟨om', cm', h1, h2, h3⟩ := hall l' hl'
      refine ⟨om', cm', fun i u hu => ?_, up3 (h2.ext hE), h3⟩
      have := h1 i u hu
      rw [List.getElem?_append_left (List.getElem?_eq_some_iff.1 this).1]
      exact this
    · have hj2 : L = [] := List.eq_nil_of_length_eq_zero (by omega)
      subst hj2
      have hx0 : xs = [] := List.eq_nil_of_length_eq_zero (by simpa using hxl)
      subst hx0
      simp only [List.nil_append, List.getElem?_cons_zero, Option.some.injEq] at hl'
      subst hl'
      exact ⟨om, cm, fun i u hu => by simpa using hu, up3 ho, hoI⟩
  · exact (keeps_ext hE).trans ((KeepsOthers.of_grownBy hg (row_isCells hr6)).trans (KeepsOthers.setCell _ _ _))
end

/-- A cutting in a box of the round's, its whole block known. -/
def CutAt (j : Jb) (wA : World) (act : Nat → Value → Act) (k : Nat) (I : Nat → Prop) (x : Value) (a : Act) (W : World) : Prop :=
  ∃ c om cm qb, (cuts j)[k]? = some c ∧ x = cutV om c.1.length cm c.2 ∧ a = act qb x ∧ My.Own W wA.heap.size 3 (.slice om c.1.length cm) (natsV c.1) ∧ (∀ b, (Value.slice om c.1.length cm).ownBlock = some b → ¬ I b) ∧ W.heap[qb]? = some (.cells (cutL om c.1.length cm c.2).toArray 64 (0, 0)) ∧ ¬ I qb ∧ wA.heap.size ≤ qb
theorem CutAt.put (j : Jb) (wA : World) (act : Nat → Value → Act) (k : Nat) (I : Nat → Prop) (x : Value) (a : Act) (W : World) (l : Nat) (o o' : Obj) (h : CutAt j wA act k I x a W) (hl2 : W.heap[l]? = some o) (ho : o.isCells = false) : CutAt j wA act k I x a (W.putObj l o') := by
  obtain ⟨m, om, cm, qb, h1, h2, h3, h4, h5, h7, h8, h9⟩ := h
  refine ⟨m, om, cm, qb, h1, h2, h3, own_put h4 hl2 ho, h5, (World.putObj_heap_other ?_).trans h7, h8, h9⟩
  rintro rfl
  rw [hl2] at h7
  cases h7
  simp [Obj.isCells] at ho
theorem CutAt.start {j : Jb} {wA : World} {act : Nat → Value → Act} {k : Nat} {I : Nat → Prop} {W : World} {c : List Nat × Nat} {cm : Nat} {om : Option Addr} (hm : (cuts j)[k]? = some c)
    (ho : My.Own W wA.heap.size 3 (.slice om c.1.length cm) (natsV c.1)) (h1 : ∀ b, (Value.slice om c.1.length cm).ownBlock = some b → ¬ I b) (hI : ∀ i, I i → wA.heap.size ≤ i ∧ i < W.heap.size) (hs : wA.heap.size ≤ W.heap.size) :
    CutAt j wA act k I (cutV om c.1.length cm c.2) (act W.heap.size (cutV om c.1.length cm c.2)) (W.alloc (.cells (cutL om c.1.length cm c.2).toArray 64)) :=
  ⟨c, om, cm, W.heap.size, hm, rfl, rfl, ho.ext ((Ext.refl W).alloc _), h1, heap_alloc_new _ _, fun h => by have := (hI _ h).2; omega, hs⟩
theorem cut_heap {W : World} {qb : Nat} {om : Option Addr} {n cm m : Nat} (h : W.heap[qb]? = some (.cells (cutL om n cm m).toArray 64 (0, 0))) : VB W qb (cutL om n cm m) :=
  fun i v hv => by rw [cell_of_row _ _ i _ _ _ h]; simpa using hv
theorem cut_row {W : World} {qb B sz n : Nat} {c : Array Value} {e t : TypeId} {v : Value} {xs : List Value} (h : W.heap[qb]? = some (.cells c t (0, 0))) (hr : W.ownsRow B e sz v n xs) (he : t ≠ e) : ¬ v.ownBlock = some qb := fun k => by
  obtain ⟨cur, hc⟩ := row_block hr k
  rw [h] at hc
  cases hc
  exact he rfl

end Go.Proofs.Ytdmegfbeibbmfaa
