/- Contracts and mathematics, joined: Tried, Best. Conditions stand with each. -/
import Derived.ArgAppend
import Derived.Below
import Derived.BigQuiet
import Derived.Deep.DeepCutAuto
import Derived.Deep.DeepFit
import Derived.Deep.LoopGhost
import Derived.Deep.QuietTactic
import Derived.Deep.RegionHeld
import Derived.Deep.RegionHeld3
import Derived.Deep.RegionWith
import Derived.Laws.EntriesVeiled
import Derived.Laws.OwnMore
import Derived.Lib.Hide
import Derived.LoopIn
import Derived.LoopNIn
import Derived.Maps.AppendAt
import Derived.Maps.Keyed
import Derived.Maps.OwnIn
import Derived.OrdersHeld
import Derived.OwnWalkIn
import Derived.RangeFuncBound
import Derived.RangeFuncCalls
import Derived.RangeFuncLeaves
import Derived.RangeFuncNested
import Derived.RegionIn
import Derived.Shelf.Abstract
import Derived.TacticsInMore
import Derived.Test.YtjpekonfjihcoaaGreatDoorProg
import Derived.WalkKit
import Derived.WalkLawsBesides
import Derived.WalkSpells
import Derived.Test.YtjpekonfjihcoaaGreatDoorM2
import Derived.Test.YtjpekonfjihcoaaGreatDoorM12
import Derived.Test.YtjpekonfjihcoaaGreatDoorM9
import Derived.Test.YtjpekonfjihcoaaGreatDoorM4
import Derived.Test.YtjpekonfjihcoaaGreatDoorM3
import Derived.Test.YtjpekonfjihcoaaGreatDoorM10
import Derived.Test.YtjpekonfjihcoaaGreatDoorM11
import Derived.Test.YtjpekonfjihcoaaGreatDoorM1
import Derived.Test.YtjpekonfjihcoaaGreatDoorM25
namespace Go.TintM
end Go.TintM
set_option maxRecDepth 100000
set_option maxHeartbeats 64000000
set_option linter.unusedVariables false
set_option linter.unusedSimpArgs false
/- What was tried so far lies in a variable: a row of one's own whose elements begin with rows of one's own. No condition. -/
namespace Go.Proofs.YtjpekonfjihcoaaGreatDoor
open Go.RowKit Go.My Go.TintM

section
variable {W W' : World} {B sz n : Nat} {e : TypeId} {v : Value} {xs : List Value}
theorem row_mv {I : Nat → Prop} (h : W.ownsRow B e sz v n xs) (hM : Mv I W W') (hI : ∀ b, v.ownBlock = some b → ¬ I b) : W'.ownsRow B e sz v n xs := by
 refine ⟨h.1, ?_⟩
 rcases h.2 with h2 | ⟨g, cap, cur, hv, hb, hg, r⟩
 ·exact .inl h2
 ·exact .inr ⟨g, cap, cur, hv, hb, hM.heap (hI g (by rw [hv]; rfl)) hg, r⟩
theorem row_put {l : Nat} {o o' : Obj} (h : W.ownsRow B e sz v n xs) (hl : W.heap[l]? = some o) (ho : o.isCells = false) : (W.putObj l o').ownsRow B e sz v n xs := by
 refine ⟨h.1, ?_⟩
 rcases h.2 with h2 | ⟨g, cap, cur, hv, hb, hg, r⟩
 ·exact .inl h2
 ·refine .inr ⟨g, cap, cur, hv, hb, (World.putObj_heap_other ?_).trans hg, r⟩
  rintro rfl
  rw [hl] at hg
  cases hg
  simp [Obj.isCells] at ho
theorem row_block (h : W.ownsRow B e sz v n xs) {g : Nat} (hg : v.ownBlock = some g) : ∃ cur, W.heap[g]? = some (.cells cur e (0, 0)) := by
 rcases h.2 with ⟨rfl, _⟩ | ⟨g', cap, cur, rfl, hb, hh, r⟩
 ·cases hg
 ·injection hg with hg
  subst hg
  exact ⟨cur, hh⟩
theorem row_isCells (h : W.ownsRow B e sz v n xs) (j : Nat) (o : Obj) (hj : v.ownBlock = some j) (ho : W.heap[j]? = some o) : o.isCells = true := by
 obtain ⟨cur, hc⟩ := row_block h hj
 rw [hc] at ho
 cases ho
 rfl
end

/-- What was tried so far. -/
structure TriedIn (e : TypeId) (tl : List Nat → List Value) (sz q : Nat) (wA : World) (L : List (List Nat)) (I : Nat → Prop) (W : World) : Prop where
 turned : Turned q wA W
 own : ∀ i, I i → wA.heap.size ≤ i
 frozen : W.frozen? ⟨q, 0, none⟩ = false
 var : ∃ v xs, W.cell? ⟨q, 0, none⟩ = some v ∧ W.ownsRow wA.heap.size e sz v L.length xs ∧ (∀ b, v.ownBlock = some b → ¬ I b) ∧
  ∀ j l, L[j]? = some l → ∃ om cm, (∀ i u, (Value.slice om l.length cm :: tl l)[i]? = some u → xs[j * sz + i]? = some u) ∧ My.Own W wA.heap.size 3 (.slice om l.length cm) ((upL l).map (Value.int .i64)) ∧ ∀ b, (Value.slice om l.length cm).ownBlock = some b → ¬ I b

section
variable {e : TypeId} {tl : List Nat → List Value} {sz q : Nat} {wA W : World} {L : List (List Nat)} {I : Nat → Prop}
theorem TriedIn.lt (h : TriedIn e tl sz q wA L I W) : q < W.heap.size := by
 obtain ⟨v, xs, hc, _⟩ := h.var
 exact World.block_lt_of_cell? _ _ hc
theorem TriedIn.mv {I' : Nat → Prop} {W' : World} (hq : q < wA.heap.size) (h : TriedIn e tl sz q wA L I W) (hM : Mv I W W') (hI' : ∀ i, I' i → (I i ∨ W.heap.size ≤ i) ∧ i < W'.heap.size) : TriedIn e tl sz q wA L I' W' := by
 have hn : ¬ I q := fun k => by have := h.own q k; omega
 refine ⟨Turned_mv h.turned h.own hM, fun i hi => ?_, (hM.frozen hn (by exact h.lt)).trans h.frozen, ?_⟩
 ·rcases (hI' i hi).1 with k | k
  ·exact h.own i k
  ·exact Nat.le_trans h.turned.size k
 ·obtain ⟨v, xs, hc, hrow, hv, hall⟩ := h.var
  have up : ∀ b, b < W.heap.size → ¬ I b → ¬ I' b := fun b hb hnb hi => by
   rcases (hI' b hi).1 with k | k
   ·exact hnb k
   ·omega
  refine ⟨v, xs, hM.cell hn hc, row_mv hrow hM hv, fun b hb => up b (World.ownsRow.lt hrow b hb).2 (hv b hb), fun j l hl => ?_⟩
  obtain ⟨om, cm, h1, h2, h3⟩ := hall j l hl
  exact ⟨om, cm, h1, h2.mv hM h3, fun b hb => up b (h2.lt b hb).2 (h3 b hb)⟩
theorem TriedIn.put (hq : q < wA.heap.size) (h : TriedIn e tl sz q wA L I W) {l : Nat} {o o' : Obj} (hl : wA.heap.size ≤ l) (ho : W.heap[l]? = some o) (hoc : o.isCells = false) : TriedIn e tl sz q wA L I (W.putObj l o') := by
 have hM := putObj_mv W l o'
 have hn : ¬ q = l := by omega
 obtain ⟨v, xs, hc, hrow, hv, hall⟩ := h.var
 refine ⟨h.turned.own (grownBy_putObj' W l o') hl, h.own, (hM.frozen hn (by exact h.lt)).trans h.frozen, v, xs, hM.cell hn hc, row_put hrow ho hoc, hv, fun j l' hl' => ?_⟩
 obtain ⟨om, cm, h1, h2, h3⟩ := hall j l' hl'
 exact ⟨om, cm, h1, own_put h2 ho hoc, h3⟩
/-- One more. -/
theorem TriedIn.more (he : e ≠ 3) (hq : q < wA.heap.size) (hA : TriedIn e tl sz q wA L I W) (hI : ∀ i, I i → i < W.heap.size) {w6 w7 : World} (hE : Ext W w6) {v v' : Value} {xs : List Value} {l : List Nat} {om : Option Addr} {cm : Nat}
  (hv : W.cell? ⟨q, 0, none⟩ = some v) (hr : W.ownsRow wA.heap.size e sz v L.length xs) (hvI : ∀ b, v.ownBlock = some b → ¬ I b)
  (hall : ∀ j l, L[j]? = some l → ∃ om cm, (∀ i u, (Value.slice om l.length cm :: tl l)[i]? = some u → xs[j * sz + i]? = some u) ∧ My.Own W wA.heap.size 3 (.slice om l.length cm) ((upL l).map (Value.int .i64)) ∧ ∀ b, (Value.slice om l.length cm).ownBlock = some b → ¬ I b)
  (ho : My.Own w6 wA.heap.size 3 (.slice om l.length cm) ((upL l).map (Value.int .i64))) (hoI : ∀ b, (Value.slice om l.length cm).ownBlock = some b → ¬ I b)
  (hr' : w7.ownsRow wA.heap.size e sz v' (L.length + 1) (xs ++ (Value.slice om l.length cm :: tl l))) (hg : w6.grownBy w7 v.ownBlock) (hat : v'.ownBlock = v.ownBlock ∨ v'.ownBlock = some w6.heap.size) (hsz : 0 < sz) :
  TriedIn e tl sz q wA (L ++ [l]) I (w7.setCell ⟨q, 0, none⟩ v') ∧ Kept I (fun i => i = q) wA.heap.size W (w7.setCell ⟨q, 0, none⟩ v') ∧ KeepsOthers W (w7.setCell ⟨q, 0, none⟩ v') := by
 have hT : Turned q w7 (w7.setCell ⟨q, 0, none⟩ v') := (Turned.refl q w7).set 0 v'
 have hqn : ∀ b, v.ownBlock = some b → wA.heap.size ≤ b := fun b hb => (World.ownsRow.lt hr b hb).1
 have hq6 : q < w6.heap.size := Nat.lt_of_lt_of_le hA.lt hE.size
 have hE' : Mv (fun i => v.ownBlock = some i) w6 w7 := Mv.of_grown hg fun i h => h
 have hqb : ¬ v.ownBlock = some q := fun h => by have := hqn q h; omega
 have hc7 : w7.cell? ⟨q, 0, none⟩ = some v := hE'.cell hqb (cell_ext hE hv)
 have hf7 : w7.frozen? ⟨q, 0, none⟩ = false := (hE'.frozen hqb hq6).trans ((frozen_ext hE hA.lt).trans hA.frozen)
 have hr6 : w6.ownsRow wA.heap.size e sz v L.length xs := row_mv hr (Mv.of_ext (I := fun _ => False) hE) (fun _ _ h => h)
 have hne3 : ∀ {x : Value} {ys : List Value}, My.Own w6 wA.heap.size 3 x ys → ∀ b, x.ownBlock = some b → ¬ v.ownBlock = some b := fun hx b hb hvb => by
  obtain ⟨c1, h1⟩ := row_block hx hb
  obtain ⟨c2, h2⟩ := row_block hr6 hvb
  rw [h1] at h2
  cases h2
  exact he rfl
 have up3 : ∀ {x : Value} {ys : List Value}, My.Own w6 wA.heap.size 3 x ys → My.Own (w7.setCell ⟨q, 0, none⟩ v') wA.heap.size 3 x ys := fun hx => (hx.mv hE' (hne3 hx)).turned hT hq
 have hkept : Kept I (fun i => i = q) wA.heap.size W (w7.setCell ⟨q, 0, none⟩ v') := by
  refine ((Mv.of_ext hE).trans (Mv.of_grown hg fun i hi => ?_)).trans (Mv.of_grown hT fun i hi => ?_)
  ·rintro (k | k)
   ·exact hvI i hi k
   ·have := hqn i hi; omega
  ·cases hi
   rintro (k | k)
   ·have := hA.own _ k; omega
   ·exact k.2 rfl
 have hsz6 := hE.size
 refine ⟨⟨?_, hA.own, by go_simp, v', xs ++ (Value.slice om l.length cm :: tl l), by go_simp, ?_, fun b hb hi => ?_, fun j l' hl' => ?_⟩, hkept, ?_⟩
 ·exact (Turned_mv (hA.turned.trans (Turned.of_ext hE)) hqn hE').trans hT
 ·rw [List.length_append, List.length_singleton]
  refine row_mv (I := fun i => i = q) hr' (Mv.of_grown hT fun i hi => by cases hi; rfl) fun b hb hbq => ?_
  have := (World.ownsRow.lt hr' b hb).1
  omega
 ·rcases hat with h | h
  ·rw [h] at hb; exact hvI b hb hi
  ·rw [h] at hb
   cases hb
   have := hI _ hi
   omega
 ·have hxl : xs.length = L.length * sz := hr.1
  by_cases hj : j < L.length
  ·rw [List.getElem?_append_left hj] at hl'
   obtain ⟨om', cm', h1, h2, h3⟩ := hall j l' hl'
   refine ⟨om', cm', fun i u hu => ?_, up3 (h2.ext hE), h3⟩
   have := h1 i u hu
   rw [List.getElem?_append_left (List.getElem?_eq_some_iff.1 this).1]
   exact this
  ·have hj2 : j = L.length := by
    have := (List.getElem?_eq_some_iff.1 hl').1
    rw [List.length_append, List.length_singleton] at this
    omega
   subst hj2
   rw [List.getElem?_append_right (Nat.le_refl _), Nat.sub_self] at hl'
   simp only [List.getElem?_cons_zero, Option.some.injEq] at hl'
   subst hl'
   refine ⟨om, cm, fun i u hu => ?_, up3 ho, hoI⟩
   rw [← hxl, List.getElem?_append_right (by omega), Nat.add_sub_cancel_left]
   exact hu
 ·exact (keeps_ext hE).trans ((KeepsOthers.of_grownBy hg (row_isCells hr6)).trans (KeepsOthers.setCell _ _ _))
end

/-- A mixture in a box of the round's, its whole block known. -/
def PotAtH (s : Sh) (wA : World) (ot : Option Addr) (cap : Nat) (act : Nat → Value → Act) (k : Nat) (I : Nat → Prop) (x : Value) (a : Act) (W : World) : Prop :=
 ∃ m base om cm qb, (allMix s.tins.length)[k]? = some m ∧ x = potV s ot cap om m.length cm ∧ a = act qb x ∧ My.Own W base 3 (.slice om m.length cm) ((upL m).map (Value.int .i64)) ∧ (∀ i, I i → i < base) ∧ wA.heap.size ≤ base ∧ W.heap[qb]? = some (.cells (potC s ot cap om m.length cm) 108 (0, 0)) ∧ ¬ I qb ∧ wA.heap.size ≤ qb
theorem PotAtH.put (s : Sh) (wA : World) (ot : Option Addr) (cap : Nat) (act : Nat → Value → Act) (k : Nat) (I : Nat → Prop) (x : Value) (a : Act) (W : World) (l : Nat) (o o' : Obj) (h : PotAtH s wA ot cap act k I x a W) (hl2 : W.heap[l]? = some o) (ho : o.isCells = false) : PotAtH s wA ot cap act k I x a (W.putObj l o') := by
 obtain ⟨m, base, om, cm, qb, h1, h2, h3, h4, h5, h6, h7, h8, h9⟩ := h
 refine ⟨m, base, om, cm, qb, h1, h2, h3, own_put h4 hl2 ho, h5, h6, (World.putObj_heap_other ?_).trans h7, h8, h9⟩
 rintro rfl
 rw [hl2] at h7
 cases h7
 simp [Obj.isCells] at ho
theorem PotAtH.start {s : Sh} {wA : World} {ot : Option Addr} {cap : Nat} {act : Nat → Value → Act} {k : Nat} {I : Nat → Prop} {W : World} {m : List Nat} {base cm : Nat} {om : Option Addr} (hm : (allMix s.tins.length)[k]? = some m)
  (ho : My.Own W base 3 (.slice om m.length cm) ((upL m).map (Value.int .i64))) (h1 : ∀ i, I i → i < base) (h2 : wA.heap.size ≤ base) (hI : ∀ i, I i → wA.heap.size ≤ i ∧ i < W.heap.size) (hs : wA.heap.size ≤ W.heap.size) :
  PotAtH s wA ot cap act k I (potV s ot cap om m.length cm) (act W.heap.size (potV s ot cap om m.length cm)) (W.alloc (.cells (potC s ot cap om m.length cm) 108)) :=
 ⟨m, base, om, cm, W.heap.size, hm, rfl, rfl, ho.ext ((Ext.refl W).alloc _), h1, h2, heap_alloc_new _ _, fun h => by have := (hI _ h).2; omega, hs⟩
theorem pot_heap {W : World} {qb : Nat} {s : Sh} {ot : Option Addr} {cap : Nat} {om : Option Addr} {n cm : Nat} (h : W.heap[qb]? = some (.cells (potC s ot cap om n cm) 108 (0, 0))) : PotBox W qb s ot cap om n cm :=
 fun i v hv => by rw [cell_of_row _ _ i _ _ _ h]; exact hv
theorem pot_row {W : World} {qb B sz n : Nat} {c : Array Value} {e t : TypeId} {v : Value} {xs : List Value} (h : W.heap[qb]? = some (.cells c t (0, 0))) (hr : W.ownsRow B e sz v n xs) (he : t ≠ e) : ¬ v.ownBlock = some qb := fun k => by
 obtain ⟨cur, hc⟩ := row_block hr k
 rw [h] at hc
 cases hc
 exact he rfl

/-- What was tried, cell by cell. -/
theorem TriedIn.cells {e : TypeId} {tl : List Nat → List Value} {sz q : Nat} {wA W : World} {L : List (List Nat)} {I : Nat → Prop} (h : TriedIn e tl sz q wA L I W) (hL : 0 < L.length) :
  ∃ g cap, W.cell? ⟨q, 0, none⟩ = some (.slice (some ⟨g, 0, none⟩) L.length cap) ∧ g < W.heap.size ∧ L.length ≤ cap ∧ cap ≤ maxLen ∧
   ∃ E : Nat → Option Addr × Nat, ∀ j, j < L.length → (∀ i u, (Value.slice (E j).1 (L.getD j []).length (E j).2 :: tl (L.getD j []))[i]? = some u → W.cell? ⟨g, j * sz + i, none⟩ = some u) ∧ My.Own W wA.heap.size 3 (.slice (E j).1 (L.getD j []).length (E j).2) ((upL (L.getD j [])).map (Value.int .i64)) := by
 obtain ⟨v, xs, hc, hrow, hv, hall⟩ := h.var
 rcases id hrow.2 with ⟨_, h2⟩ | ⟨g, cap, cur, rfl, hb, hh, h3, h4, h5, h6⟩
 ·omega
 refine ⟨g, cap, hc, (Array.getElem?_eq_some_iff.1 hh).1, h3, h4, ?_⟩
 have hx := hrow.cells (g := g) rfl
 have key : ∀ j, ∃ E : Option Addr × Nat, j < L.length → (∀ i u, (Value.slice E.1 (L.getD j []).length E.2 :: tl (L.getD j []))[i]? = some u → W.cell? ⟨g, j * sz + i, none⟩ = some u) ∧ My.Own W wA.heap.size 3 (.slice E.1 (L.getD j []).length E.2) ((upL (L.getD j [])).map (Value.int .i64)) := fun j => by
  by_cases hj : j < L.length
  ·obtain ⟨om, cm, h1, h2, _⟩ := hall j (L.getD j []) (by simp [List.getD, hj])
   refine ⟨(om, cm), fun _ => ⟨fun i u hu => ?_, h2⟩⟩
   have := hx _ _ (h1 i u hu)
   rwa [add_none, Nat.zero_add] at this
  ·exact ⟨(none, 0), fun h => absurd h hj⟩
 obtain ⟨E, hE⟩ := Classical.skolem.1 key
 exact ⟨E, hE⟩

end Go.Proofs.YtjpekonfjihcoaaGreatDoor
/- Contracts: best of what was tried; Near's comparison. No condition. -/
namespace Go.Proofs.YtjpekonfjihcoaaGreatDoor
open Go.RowKit Go.My Go.TintM

theorem less_any (x y : Value) (a b : Int) (w : World) : Calls Tryz.prog 95 #[.agg #[x, .int .i64 a], .agg #[y, .int .i64 b]] w fun r w' => r = .returned (.bool (decide (a < b))) ∧ Ext w w' := by
 go_enter Tryz.func95, Tryz.ntmps95
 go_wp2
 all_goals go_ret
 all_goals exact ⟨ret_bool (by simp), ((Ext.refl w).alloc _).alloc _⟩

/-- The first place of the least number. -/
def argm (f : Nat → Int) : Nat → Nat
 | 0 => 0
 | k + 1 => if f (k + 1) < f (argm f k) then k + 1 else argm f k
theorem argm_le (f : Nat → Int) : ∀ k, argm f k ≤ k
 | 0 => Nat.le_refl _
 | k + 1 => by
  have := argm_le f k
  rw [argm]
  split <;> omega
theorem argm_best {α : Type} (F : α → Int) (L : List α) (d : α) : ∀ k, k < L.length → bestBy F (L.getD 0 d) ((L.drop 1).take k) = L.getD (argm (fun j => F (L.getD j d)) k) d := by
 intro k
 induction k with
 | zero => intro _; simp [bestBy, argm]
 | succ k ih =>
  intro hk
  have h1 : (L.drop 1).take (k + 1) = (L.drop 1).take k ++ [L.getD (k + 1) d] := by
   rw [List.take_succ_eq_append_getElem (by rw [List.length_drop]; omega), List.getElem_drop]
   simp [List.getD, hk, Nat.add_comm]
  rw [h1, bestBy_snoc, ih (by omega), argm]
  split <;> rfl

/-- A box of two cells that is one's own to write. -/
structure Duo (W : World) (p : Nat) (x y : Value) : Prop where
 c0 : W.cell? ⟨p, 0, none⟩ = some x
 c1 : W.cell? ⟨p, 1, none⟩ = some y
 f0 : W.frozen? ⟨p, 0, none⟩ = false
 f1 : W.frozen? ⟨p, 1, none⟩ = false
theorem Duo.ext {W W' : World} {p : Nat} {x y : Value} (h : Duo W p x y) (hE : Ext W W') : Duo W' p x y :=
 have hp := World.block_lt_of_cell? _ _ h.c0
 ⟨cell_ext hE h.c0, cell_ext hE h.c1, (hE.frozen (by exact hp)).trans h.f0, (hE.frozen (by exact hp)).trans h.f1⟩
abbrev set2 (W : World) (p : Nat) (x y : Value) : World := (W.setCell ⟨p, 0, none⟩ x).setCell ⟨p, 1, none⟩ y
theorem ext_set2 {w W : World} {p : Nat} (h : Ext w W) (hp : w.heap.size ≤ p) (x y : Value) : Ext w (set2 W p x y) :=
 ext_own (ext_own h ((Turned.refl p _).set 0 x) hp) ((Turned.refl p _).set 1 y) hp
theorem Duo.set {W : World} {p : Nat} {x y : Value} (h : Duo W p x y) (x' y' : Value) : Duo (set2 W p x' y') p x' y' := by
 obtain ⟨h0, h1, g0, g1⟩ := h
 exact ⟨by go_simp, by go_simp, by go_simp, by go_simp⟩
theorem Duo.other {W : World} {p q : Nat} {x y : Value} (h : Duo W p x y) (hne : p ≠ q) (x' y' : Value) : Duo (set2 W q x' y') p x y := by
 obtain ⟨h0, h1, g0, g1⟩ := h
 exact ⟨by go_simp, by go_simp, by go_simp, by go_simp⟩
theorem Duo.new (W : World) (x y : Value) (t : TypeId) : Duo (W.alloc (.cells #[x, y] t)) W.heap.size x y := ⟨by go_simp, by go_simp, by go_simp, by go_simp⟩

theorem best_any (n g cap : Nat) (oa : Nat → Option Addr) (ln cp : Nat → Nat) (f : Nat → Int) (w : World) (hg : g < w.heap.size) (h0 : ∀ j, j ≤ n → w.cell? ⟨g, 2 * j, none⟩ = some (.slice (oa j) (ln j) (cp j))) (h1 : ∀ j, j ≤ n → w.cell? ⟨g, 2 * j + 1, none⟩ = some (.int .i64 (f j)))
  (hc : n + 1 ≤ cap) (hc2 : cap ≤ maxLen) (hn : 1 ≤ n) :
  Calls Tryz.prog 94 #[.slice (some ⟨g, 0, none⟩) (n + 1 : Nat) cap, .func (.func 95) #[] #[]] w fun e w' => e = .returned (.agg #[.slice (oa (argm f n)) (ln (argm f n)) (cp (argm f n)), .int .i64 (f (argm f n))]) ∧ Ext w w' := by
 have k0 := h0 0 (by omega)
 have k1 := h1 0 (by omega)
 rw [Nat.mul_zero] at k0 k1
 rw [Nat.zero_add] at k1
 have H0 := Lib.hid h0
 have H1 := Lib.hid h1
 have hc3 : cap ≤ 9223372036854775807 := by unfold maxLen at hc2; omega
 have hone1 : ¬ cap = 1 := by omega
 clear hc2 h0 h1
 go_enter Tryz.func94, Tryz.ntmps94
 go_wp2
 go_loopg [14] n (fun g' v wr => ∃ k : Nat, k + g' = n ∧ v = .int .i64 k ∧ Ext w wr ∧ Duo wr w.heap.size (.slice none 0 0) (.int .i64 0) ∧ Duo wr (w.heap.size + 1) (.slice (oa (argm f k)) (ln (argm f k)) (cp (argm f k))) (.int .i64 (f (argm f k))))
 case atStart => exact ⟨0, by simp, rfl, ((Ext.refl w).alloc _).alloc _, (Duo.new w _ _ _).ext ((Ext.refl _).alloc _), by have := Duo.new (w.alloc (.cells #[.slice none 0 0, .int .i64 0] 124)) (.slice (oa 0) (ln 0) (cp 0)) (.int .i64 (f 0)) 124; simpa [argm] using this⟩
 case round =>
  obtain ⟨k, hk, rfl, hE, hr, ho⟩ := hrel
  have Hr := Lib.hid hr
  have Ho := Lib.hid ho
  have hsz : w.heap.size + 1 < wr.heap.size := World.block_lt_of_cell? _ _ ho.c0
  by_cases hlt : k < n
  ·have e0 := cell_ext hE (H0.out (k + 1) (by omega))
   have e1 := cell_ext hE (H1.out (k + 1) (by omega))
   rw [show 2 * (k + 1) = 2 + k * 2 by omega] at e0 e1
   have hbs : argm f (k + 1) = if f (k + 1) < f (argm f k) then k + 1 else argm f k := rfl
   clear hr k0 k1 H0 H1
   generalize argm f k = B at *
   have hlx := less_any (.slice (oa (k + 1)) (ln (k + 1)) (cp (k + 1))) (.slice (oa B) (ln B) (cp B)) (f (k + 1)) (f B)
   by_cases hb3 : f (k + 1) < f B
   ·rw [if_pos hb3] at hbs
    have Hbs := Lib.hid hbs; clear hbs
    rw [decide_eq_true hb3] at hlx
    have Hle := Lib.hid hlx; clear hlx hb3
    obtain ⟨o0, o1, p0, p1⟩ := ho
    go_wp2_with (first | (go_at_call 95; refine (Hle.out _).mono ?_; rintro e w1 ⟨rfl, hE1⟩; have hx7 := Lib.hid ((Duo.new wr _ _ 124).ext hE1); have hE7 := Lib.hid (((Ext.refl wr).alloc _).trans hE1); obtain ⟨x0, x1, _, _⟩ := hx7.out; have ho7 := Lib.hid (Ho.out.ext hE7.out); clear o0 o1 p0 p1; obtain ⟨o0, o1, p0, p1⟩ := ho7.out; clear hE1))
    go_roundg (gk - 1)
    case measure => omega
    case rel => exact ⟨k + 1, by omega, by go_num, ext_set2 (hE.trans hE7.out) (by omega) _ _, (Hr.out.ext hE7.out).other (by omega) _ _, by rw [Hbs.out]; exact ho7.out.set _ _⟩
   ·rw [if_neg hb3] at hbs
    have Hbs := Lib.hid hbs; clear hbs
    rw [decide_eq_false hb3] at hlx
    have Hle := Lib.hid hlx; clear hlx hb3
    obtain ⟨o0, o1, p0, p1⟩ := ho
    go_wp2_with (first | (go_at_call 95; refine (Hle.out _).mono ?_; rintro e w1 ⟨rfl, hE1⟩; have hE7 := Lib.hid (((Ext.refl wr).alloc _).trans hE1); clear hE1))
    go_roundg (gk - 1)
    case measure => omega
    case rel => exact ⟨k + 1, by omega, by go_num, hE.trans hE7.out, Hr.out.ext hE7.out, by rw [Hbs.out]; exact Ho.out.ext hE7.out⟩
  ·obtain rfl : k = n := by omega
   generalize hB : argm f k = B at *
   have HB := Lib.hid hB
   clear hB
   clear k0 k1
   obtain ⟨o0, o1, p0, p1⟩ := ho
   obtain ⟨r0, r1, s0, s1⟩ := hr
   go_wp2
   refine bodyPost_ret (v := .agg #[.slice (oa B) (ln B) (cp B), .int .i64 (f B)]) (results_cells (n := 2) rfl (by kernel_rfl) (by kernel_rfl) _ w.heap.size [.slice (oa B) (ln B) (cp B), .int .i64 (f B)] rfl (by simp) (fun j v hv => ?_)) (by simp) ⟨by rw [HB.out], ext_set2 hE (Nat.le_refl _) _ _⟩
   match j, hv with
   | 0, hv => cases hv; go_simp
   | 1, hv => cases hv; go_simp

end Go.Proofs.YtjpekonfjihcoaaGreatDoor
