/- Contracts and mathematics, joined: Base, Plan, Names, Boards, RefBoards, RefBoards2. Conditions stand with each. -/
import Derived.Test.YtiehfpkcaoeieaaGreatDoorProg
import Derived.WalkKit
import Derived.WalkSpells
import Derived.WalkLawsBesides
import Derived.Deep.LoopGhost
import Derived.Deep.QuietTactic
import Derived.Deep.RegionWith
import Derived.Deep.RegionHeld3
import Derived.Deep.DeepCutAuto
import Derived.Deep.DeepFit
import Derived.BigQuiet
import Derived.Lib.Hide
import Derived.Below
import Derived.OrdersHeld
import Derived.Deep.RegionHeld
set_option linter.unusedVariables false
set_option linter.unusedSimpArgs false
/- Data in memory as lists, and how they are kept when a call makes memory of its own. No condition. -/
namespace Go.My
open Go Go.RowKit

/-- w' is w with new blocks. -/
abbrev Ext (w w' : World) : Prop := Below w.heap.size w w'

theorem Ext.refl (w : World) : Ext w w := Below.refl _ _
theorem Ext.trans {a b c : World} (h : Ext a b) (k : Ext b c) : Ext a c := Below.trans h (k.mono h.size)
theorem Ext.alloc {a w : World} (h : Ext a w) (o : Obj) : Ext a (w.alloc o) := Below.alloc h h.size o
theorem Ext.drew {a w : World} (h : Ext a w) : Ext a w.drew := Below.drew h

theorem Ext.below {a b c : World} {B : Nat} (h : Ext a b) (k : Below B b c) (hB : a.heap.size ≤ B) : Ext a c := Below.trans h (k.mono hB)

/-- The cells of a slice of numbers. -/
def IntsAt (w : World) (oa : Option Addr) (l : List Int) : Prop :=
  ∀ (i : Nat) (x : Int), l[i]? = some x → ∃ b off, oa = some ⟨b, off, none⟩ ∧ b < w.heap.size ∧ w.cell? ⟨b, off + i, none⟩ = some (.int .i64 x)

/-- v is a slice of these numbers. -/
def IsInts (w : World) (v : Value) (l : List Int) : Prop :=
  ∃ oa cap, v = .slice oa l.length cap ∧ l.length ≤ cap ∧ cap ≤ maxLen ∧ (oa = none → cap = 0) ∧ IntsAt w oa l

/-- The cells of a slice of slices. -/
def RowsAt (w : World) (oa : Option Addr) (ls : List (List Int)) : Prop :=
  ∀ (i : Nat) (l : List Int), ls[i]? = some l → ∃ b off u, oa = some ⟨b, off, none⟩ ∧ b < w.heap.size ∧ w.cell? ⟨b, off + i, none⟩ = some u ∧ IsInts w u l

def IsRows (w : World) (v : Value) (ls : List (List Int)) : Prop :=
  ∃ oa cap, v = .slice oa ls.length cap ∧ ls.length ≤ cap ∧ cap ≤ maxLen ∧ (oa = none → cap = 0) ∧ RowsAt w oa ls

theorem IntsAt.ext {w w' : World} {oa : Option Addr} {l : List Int} (h : IntsAt w oa l) (hb : Ext w w') : IntsAt w' oa l := by
  intro i x hx
  obtain ⟨b, off, ho, hlt, hc⟩ := h i x hx
  exact ⟨b, off, ho, Nat.lt_of_lt_of_le hlt hb.size, (hb.cell (p := ⟨b, off + i, none⟩) hlt).trans hc⟩

theorem IsInts.ext {w w' : World} {v : Value} {l : List Int} (h : IsInts w v l) (hb : Ext w w') : IsInts w' v l := by
  obtain ⟨oa, cap, h1, h2, h3, h4, h5⟩ := h
  exact ⟨oa, cap, h1, h2, h3, h4, h5.ext hb⟩

theorem RowsAt.ext {w w' : World} {oa : Option Addr} {ls : List (List Int)} (h : RowsAt w oa ls) (hb : Ext w w') : RowsAt w' oa ls := by
  intro i l hl
  obtain ⟨b, off, u, ho, hlt, hc, hu⟩ := h i l hl
  exact ⟨b, off, u, ho, Nat.lt_of_lt_of_le hlt hb.size, (hb.cell (p := ⟨b, off + i, none⟩) hlt).trans hc, hu.ext hb⟩

theorem IsRows.ext {w w' : World} {v : Value} {ls : List (List Int)} (h : IsRows w v ls) (hb : Ext w w') : IsRows w' v ls := by
  obtain ⟨oa, cap, h1, h2, h3, h4, h5⟩ := h
  exact ⟨oa, cap, h1, h2, h3, h4, h5.ext hb⟩

theorem bcell {W w1 : World} (hb : Ext W w1) : (∀ b o, b < W.heap.size → w1.cell? ⟨b, o, none⟩ = W.cell? ⟨b, o, none⟩) ∧ (∀ b o, b < W.heap.size → w1.frozen? ⟨b, o, none⟩ = W.frozen? ⟨b, o, none⟩) :=
  ⟨fun b o h => hb.cell (p := ⟨b, o, none⟩) h, fun b o h => hb.frozen (p := ⟨b, o, none⟩) h⟩

theorem cell_ext {w w' : World} {p : Addr} {v : Value} (hE : Ext w w') (h : w.cell? p = some v) : w'.cell? p = some v :=
  (hE.cell (World.block_lt_of_cell? w p h)).trans h

theorem IntsAt.at {w : World} {oa : Option Addr} {l : List Int} (h : IntsAt w oa l) {k : Nat} (hk : k < l.length) :
    ∃ b off, oa = some ⟨b, off, none⟩ ∧ b < w.heap.size ∧ w.cell? ⟨b, off + k, none⟩ = some (.int .i64 l[k]) :=
  h k l[k] (by simp [hk])

theorem IntsAt.take {w : World} {oa : Option Addr} {l : List Int} (h : IntsAt w oa l) (k : Nat) : IntsAt w oa (l.take k) := by
  intro i x hx
  rw [List.getElem?_take] at hx
  split at hx
  · exact h i x hx
  · cases hx

theorem RowsAt.at {w : World} {oa : Option Addr} {ls : List (List Int)} (h : RowsAt w oa ls) {k : Nat} (hk : k < ls.length) :
    ∃ b off oa' cap', oa = some ⟨b, off, none⟩ ∧ b < w.heap.size ∧ w.cell? ⟨b, off + k, none⟩ = some (.slice oa' ls[k].length cap') ∧ ls[k].length ≤ cap' ∧ cap' ≤ maxLen ∧ (oa' = none → cap' = 0) ∧ IntsAt w oa' ls[k] := by
  obtain ⟨b, off, u, h1, h2, h3, oa', cap', rfl, h4, h5, h6, h7⟩ := h k ls[k] (by simp [hk])
  exact ⟨b, off, oa', cap', h1, h2, h3, h4, h5, h6, h7⟩

/-- An owned row of numbers is a slice of these numbers. -/
theorem isInts_of_own {w : World} {B : Nat} {e : TypeId} {v : Value} {l : List Int} (h : w.ownsRow B e 1 v l.length (l.map (Value.int .i64))) : IsInts w v l := by
  obtain ⟨h1, h2⟩ := h
  rcases h2 with ⟨rfl, h2⟩ | ⟨g, cap, cur, rfl, hb, hg, hn, hc, hs, ht⟩
  · have : l = [] := List.eq_nil_of_length_eq_zero h2
    subst this
    exact ⟨none, 0, rfl, Nat.le_refl _, by simp [maxLen], fun _ => rfl, fun i x hx => by simp at hx⟩
  · refine ⟨_, _, rfl, hn, hc, (fun h => by cases h), fun i x hx => ⟨g, 0, rfl, (Array.getElem?_eq_some_iff.1 hg).1, ?_⟩⟩
    have hx' : (l.map (Value.int .i64))[i]? = some (.int .i64 x) := by simp [hx]
    rw [← ht, List.getElem?_take] at hx'
    split at hx'
    · rw [cell_of_row w g (0 + i) cur e (0, 0) hg]; simpa using hx'
    · cases hx'

theorem isRows_of_own {w : World} {B : Nat} {e : TypeId} {v : Value} {ls : List (List Int)} {xs : List Value} (h : w.ownsRow B e 1 v ls.length xs)
    (hx : ∀ (i : Nat) (l : List Int), ls[i]? = some l → ∃ u, xs[i]? = some u ∧ IsInts w u l) : IsRows w v ls := by
  obtain ⟨h1, h2⟩ := h
  rcases h2 with ⟨rfl, h2⟩ | ⟨g, cap, cur, rfl, hb, hg, hn, hc, hs, ht⟩
  · have : ls = [] := List.eq_nil_of_length_eq_zero h2
    subst this
    exact ⟨none, 0, rfl, Nat.le_refl _, by simp [maxLen], fun _ => rfl, fun i x hx => by simp at hx⟩
  · refine ⟨_, _, rfl, hn, hc, (fun h => by cases h), fun i l hl => ?_⟩
    obtain ⟨u, hu, hul⟩ := hx i l hl
    refine ⟨g, 0, u, rfl, (Array.getElem?_eq_some_iff.1 hg).1, ?_, hul⟩
    rw [← ht, List.getElem?_take] at hu
    split at hu
    · rw [cell_of_row w g (0 + i) cur e (0, 0) hg]; simpa using hu
    · cases hu

/-- A slice of the call's own (its block from base on), of elements of one cell. -/
def Own (w : World) (base : Nat) (e : TypeId) (v : Value) (xs : List Value) : Prop := w.ownsRow base e 1 v xs.length xs

theorem Own.nil (w : World) (base : Nat) (e : TypeId) : Own w base e (.slice none 0 0) [] := World.ownsRow_nil _ _ _ _
theorem Own.ext {w w' : World} {base : Nat} {e : TypeId} {v : Value} {xs : List Value} (h : Own w base e v xs) (hE : Ext w w') : Own w' base e v xs := by
  refine ⟨h.1, ?_⟩
  rcases h.2 with h2 | ⟨g, cap, cur, hv, hb, hg, r⟩
  · exact .inl h2
  · exact .inr ⟨g, cap, cur, hv, hb, (hE.block g (Array.getElem?_eq_some_iff.1 hg).1).trans hg, r⟩
theorem Own.ints {w : World} {B : Nat} {e : TypeId} {v : Value} {l : List Int} (h : Own w B e v (l.map (Value.int .i64))) : IsInts w v l :=
  isInts_of_own (B := B) (e := e) (by unfold Own at h; rwa [List.length_map] at h)
theorem Own.slice {w : World} {B : Nat} {e : TypeId} {v : Value} {xs : List Value} (h : Own w B e v xs) : ∃ oa cap, v = .slice oa xs.length cap ∧ xs.length ≤ cap ∧ cap ≤ maxLen ∧ (oa = none → cap = 0) ∧
    ∀ (i : Nat) (u : Value), xs[i]? = some u → ∃ b, oa = some ⟨b, 0, none⟩ ∧ B ≤ b ∧ w.cell? ⟨b, i, none⟩ = some u := by
  rcases h.2 with ⟨rfl, h2⟩ | ⟨g, cap, cur, rfl, hb, hg, hn, hc, hs, ht⟩
  · have : xs = [] := List.eq_nil_of_length_eq_zero h2
    subst this
    exact ⟨none, 0, rfl, Nat.le_refl _, by simp [maxLen], fun _ => rfl, fun i u hu => by simp at hu⟩
  · refine ⟨_, _, rfl, hn, hc, (fun h => by cases h), fun i u hu => ⟨g, rfl, hb, ?_⟩⟩
    rw [← ht, List.getElem?_take] at hu
    split at hu
    · rw [cell_of_row w g i cur e (0, 0) hg]; simpa using hu
    · cases hu

/-- append of one element of one cell, to a slice of the call's own. -/
theorem wpList_app1 {P : Program} (w : World) {ops : Array Oper} {rest : List Oper} {o : Oper} {a : Act} {Q : Exit → Act → World → Prop} (hgd : o.guard = none) (s x : Operand) (t : TypeId)
    (ho : o.op = .call { callee := .builtin .append, args := #[s, x], argTypes := #[t, t] }) (e : TypeId) (ht : P.underlying t = some (.slice e)) (z : Value) (bytes : Nat)
    (hi : (P.info? e).map (fun i => (i.zero, i.size, i.bytes)) = some (some z, 1, bytes)) (hz : z.cells.size = 1) (hby : bytes ≤ 64) (base : Nat) (v : Value) (xs : List Value) (hs : a.eval s = v)
    (hown : Own w base e v xs) (b : Nat) (u : Value) (hx : a.eval x = .slice (some ⟨b, 0, none⟩) 1 1) (hc : w.cell? ⟨b, 0, none⟩ = some u) (hu : u.oneCell' = true)
    (hl : xs.length < 1000000000) (hbase : base ≤ w.heap.size)
    (h : ∀ v' w', Own w' base e v' (xs ++ [u]) → Below base w w' → w.grownBy w' v.ownBlock → wpList P ops Q rest (a.put o.dst v') w') : wpList P ops Q (o :: rest) a w := by
  obtain ⟨i, hi1, hi2, hi3, hi4⟩ := info_parts hi
  refine wpList_append_own w hgd s x t ho base e i z 1 bytes ht hi1 hi2 hi3 hi4 hz (by decide) v xs.length xs hs hown ⟨b, 0, none⟩ 1 1 [u] hx rfl ?_ ?_ ?_ ?_ hbase ?_
  · intro j u' hj
    cases j with
    | zero => simp at hj; subst hj; simpa [Addr.add] using hc
    | succ j => simp at hj
  · intro u' hu'; simp at hu'; subst hu'; exact hu
  · unfold maxLen; omega
  · have : (xs.length + 1) * bytes ≤ 1000000000 * 64 := Nat.mul_le_mul (by omega) hby
    omega
  · intro v' w' h1 h2 _
    refine h v' w' (by unfold Own; rw [List.length_append]; exact h1) ((Below.refl base w).grown h2 hbase fun k hk => (hown.lt k hk).1) h2

theorem cell_below {w w' : World} {B : Nat} {p : Addr} {v : Value} (hB : Below B w w') (hp : p.block < B) (h : w.cell? p = some v) : w'.cell? p = some v := (hB.cell hp).trans h

theorem ret_int {k : IntKind} {a b : Int} (h : a = b) : Ending.returned (.int k a) = .returned (.int k b) := by rw [h]
theorem ret_bool {a b : Bool} (h : a = b) : Ending.returned (.bool a) = .returned (.bool b) := by rw [h]

end Go.My
/- A region that draws its order, walked by a plan: what only reads is taken first; where one operation alone may come up, it is walked. No condition. -/
namespace Go.My
open Go Go.RowKit

/-- A plan: 'take i': operation i yields a value in every world at hand, and is taken first; 'only i': operation i is the only one that may come up; 'two i j': one of both comes up. -/
inductive Plan where
  | done
  | take (i : Nat) (p : Plan)
  | only (i : Nat) (p : Plan)
  | two (i j : Nat) (p q : Plan)

def Plan.size : Plan → Nat
  | .done => 0
  | .take _ p | .only _ p => p.size + 1
  | .two _ _ p q => max p.size q.size + 1

def planOk (ops : Array Oper) : Plan → Array Bool → Bool
  | .done, listed => (Region.ready .any ops listed).isEmpty
  | .take i rest, listed => Region.free .any ops listed i && (Region.ready .any ops listed).contains i && planOk ops rest (listed.setIfInBounds i true)
  | .only i rest, listed => Region.ready .any ops listed == [i] && planOk ops rest (listed.setIfInBounds i true)
  | .two i j p q, listed => Region.ready .any ops listed == [i, j] && planOk ops p (listed.setIfInBounds i true) && planOk ops q (listed.setIfInBounds j true)

def nthOp : List Oper → Nat → Option Oper
  | o :: _, 0 => some o
  | _ :: l, i + 1 => nthOp l i
  | [], _ => none

theorem nthOp_eq (l : List Oper) (i : Nat) : nthOp l i = l[i]? := by
  induction l generalizing i with
  | nil => cases i <;> rfl
  | cons o l ih => cases i with
    | zero => rfl
    | succ i => simp [nthOp, ih]

theorem nthOp_arr {ops : Array Oper} {i : Nat} {o : Oper} (h : nthOp ops.toList i = some o) : ops[i]? = some o := by
  rw [nthOp_eq] at h; simpa using h

def planWalk (P : Program) (ops : Array Oper) (Q : Exit → Act → World → Prop) (S : World → Prop) : Plan → Act → World → Prop
  | .done, a, w => Q .normal a w
  | .take i rest, a, w => ∃ o v, nthOp ops.toList i = some o ∧ YieldsIf P ops S o v a ∧ planWalk P ops Q S rest (a.put o.dst v) w
  | .only i rest, a, w => ∃ o, nthOp ops.toList i = some o ∧ wpList P ops (Exit.then (fun a' w' => S w' ∧ planWalk P ops Q S rest a' w') Q) [o] a w
  | .two i j p q, a, w => (∃ o, nthOp ops.toList i = some o ∧ wpList P ops (Exit.then (fun a' w' => S w' ∧ planWalk P ops Q S p a' w') Q) [o] a w) ∧
      (∃ o, nthOp ops.toList j = some o ∧ wpList P ops (Exit.then (fun a' w' => S w' ∧ planWalk P ops Q S q a' w') Q) [o] a w)

theorem wp_posts {P : Program} {o : Oper} {a : Act} {w : World} {K : Act → World → Prop} {Q Q' : Exit → Act → World → Prop} (h1 : ∀ c a w, Q' (.panic c) a w → Q (.panic c) a w)
    (h2 : LetsOut Q' → LetsOut Q) (hh : o.wp P a w K Q') : o.wp P a w K Q := by
  unfold Oper.wp at *
  generalize (execOp a.eval o).run P w = r at *
  cases r with
  | ok n w' =>
    cases n <;> simp only [Oper.upon] at hh ⊢ <;>
      first
        | exact hh
        | exact Calls.mono hh (fun e w'' he => by cases e <;> first | exact he | exact h1 _ _ _ he | exact h2 he)
  | halt x w' => cases x <;> simp only [Oper.upon] at hh ⊢ <;> exact h1 _ _ _ hh

theorem wpOp_of_list {P : Program} {ops : Array Oper} {Q : Exit → Act → World → Prop} {K : Act → World → Prop} {a : Act} {w : World} {i : Nat} {o : Oper} (ho : ops[i]? = some o)
    (hw : wpList P ops (Exit.then K Q) [o] a w) : wpOp P ops Q i K a w := by
  unfold wpOp
  simp only [ho]
  simp only [wpList] at hw
  split
  · rename_i hwt
    rw [if_pos hwt] at hw
    rcases hw with hw | hw
    · exact .inl (Oper.wp_mono (fun a' w' h => h) (wp_posts (fun _ _ _ h => h) (fun h => h) hw))
    · exact .inr ⟨hw.1, by obtain ⟨a0, w0, hq⟩ := hw.2; exact ⟨a0, w0, hq⟩⟩
  · rename_i hwt
    rw [if_neg hwt] at hw
    exact hw

theorem planWalk_sound {P : Program} {ops : Array Oper} {Q : Exit → Act → World → Prop} {S : World → Prop} (hs : Region.noSelect ops = true)
    (hQ : ∀ c a d v w, Q (.panic c) (Act.put a d v) w → Q (.panic c) a w) : ∀ (p : Plan) (listed : Array Bool) (a : Act) (w : World) (fuel : Nat),
    planOk ops p listed = true → p.size ≤ fuel → S w → planWalk P ops Q S p a w → wpAnyH P .any ops Q S fuel listed a w := by
  intro p
  induction p with
  | done =>
    intro listed a w fuel hok _ _ h
    exact wpAnyH_done (by simpa [planOk, List.isEmpty_iff] using hok) h fuel
  | take i rest ih =>
    intro listed a w fuel hok hf hS h
    cases fuel with
    | zero => simp [Plan.size] at hf
    | succ fuel =>
      simp only [planOk, Bool.and_eq_true] at hok
      obtain ⟨⟨h1, h2⟩, h3⟩ := hok
      obtain ⟨o, v, ho, hy, hr⟩ := h
      exact wpAnyH_take (nthOp_arr ho) hs h1 h2 (fun c a w => hQ c a _ _ w) hy hS (ih _ _ _ _ h3 (by simpa [Plan.size] using hf) hS hr)
  | only i rest ih =>
    intro listed a w fuel hok hf hS h
    cases fuel with
    | zero => simp [Plan.size] at hf
    | succ fuel =>
      simp only [planOk, Bool.and_eq_true, beq_iff_eq] at hok
      obtain ⟨h1, h3⟩ := hok
      obtain ⟨o, ho, hw⟩ := h
      refine wpAnyH_all h1 (by simp) ?_
      intro j hj
      simp at hj
      subst hj
      exact wpOp_mono (fun a' w' ⟨hS', h'⟩ => ⟨hS', ih _ _ _ _ h3 (by simpa [Plan.size] using hf) hS' h'⟩) (wpOp_of_list (nthOp_arr ho) hw)
  | two i j p q ihp ihq =>
    intro listed a w fuel hok hf hS h
    cases fuel with
    | zero => simp [Plan.size] at hf
    | succ fuel =>
      simp only [planOk, Bool.and_eq_true, beq_iff_eq] at hok
      obtain ⟨⟨h1, h2⟩, h3⟩ := hok
      obtain ⟨⟨o, ho, hw⟩, ⟨o', ho', hw'⟩⟩ := h
      simp only [Plan.size] at hf
      refine wpAnyH_all h1 (by simp) ?_
      intro k hk
      simp at hk
      rcases hk with rfl | rfl
      · exact wpOp_mono (fun a' w' ⟨hS', h'⟩ => ⟨hS', ihp _ _ _ _ h2 (by omega) hS' h'⟩) (wpOp_of_list (nthOp_arr ho) hw)
      · exact wpOp_mono (fun a' w' ⟨hS', h'⟩ => ⟨hS', ihq _ _ _ _ h3 (by omega) hS' h'⟩) (wpOp_of_list (nthOp_arr ho') hw')

/-- The beginning. -/
theorem wp_region_plan {P : Program} {ops : Array Oper} {Q : Exit → Act → World → Prop} {id : Nat} {a : Act} {w : World} (p : Plan) (S : World → Prop) (hm : P.follows .mixedOrders = true)
    (hs : Region.noSelect ops = true) (hp : planOk ops p (Array.replicate ops.size false) = true) (hl : p.size = ops.size)
    (hQ : ∀ c a d v w, Q (.panic c) (Act.put a d v) w → Q (.panic c) a w) (hS : S w.drew) (h : planWalk P ops Q S p a w.drew) : (Code.region id ops true).wp P Q a w :=
  wp_region_held (S := S) hm (planWalk_sound hs hQ p _ a _ _ hp (by omega) hS h)

section
variable {P : Program} {ops : Array Oper} {Q : Exit → Act → World → Prop} {S : World → Prop} {rest : Plan} {a : Act} {w : World}
theorem plan_take {i : Nat} {o : Oper} {v : Value} (ho : nthOp ops.toList i = some o) (hw : Region.wanted o (yielded ops a.tmps) = true) (hr : ∀ w, S w → (execOp a.eval o).run P w = .ok (.value v) w)
    (h : planWalk P ops Q S rest (a.put o.dst v) w) : planWalk P ops Q S (.take i rest) a w := ⟨o, v, ho, .inl ⟨hw, hr⟩, h⟩
theorem plan_skip {i : Nat} {o : Oper} (ho : nthOp ops.toList i = some o) (hw : Region.wanted o (yielded ops a.tmps) = false)
    (h : planWalk P ops Q S rest (a.put o.dst undef) w) : planWalk P ops Q S (.take i rest) a w := ⟨o, undef, ho, .inr ⟨hw, rfl⟩, h⟩
theorem plan_walk {i : Nat} {o : Oper} (ho : nthOp ops.toList i = some o) (h : ∀ K : Act → World → Prop, (∀ a' w', S w' → planWalk P ops Q S rest a' w' → K a' w') → wpList P ops (Exit.then K Q) [o] a w) :
    planWalk P ops Q S (.only i rest) a w := ⟨o, ho, h _ fun _ _ h1 h2 => ⟨h1, h2⟩⟩
theorem plan_two {i j : Nat} {p q : Plan} {o o' : Oper} (ho : nthOp ops.toList i = some o) (ho' : nthOp ops.toList j = some o')
    (h : ∀ K : Act → World → Prop, (∀ a' w', S w' → planWalk P ops Q S p a' w' → K a' w') → wpList P ops (Exit.then K Q) [o] a w)
    (h' : ∀ K : Act → World → Prop, (∀ a' w', S w' → planWalk P ops Q S q a' w' → K a' w') → wpList P ops (Exit.then K Q) [o'] a w) :
    planWalk P ops Q S (.two i j p q) a w := ⟨⟨o, ho, h _ fun _ _ h1 h2 => ⟨h1, h2⟩⟩, ⟨o', ho', h' _ fun _ _ h1 h2 => ⟨h1, h2⟩⟩⟩
theorem plan_done (h : Q .normal a w) : planWalk P ops Q S .done a w := h
end
end Go.My
/- Contracts: which numbers are those of names, in lists and boards. No condition beyond small numbers of names. -/
namespace Go.Proofs.YtiehfpkcaoeieaaGreatDoor
open Go.RowKit Go.My

theorem idxOf_at {l : List Int} {x : Int} {k : Nat} (hk : k < l.length) (hx : x ∉ l.take k) (he : x = l[k]) : l.idxOf x = k := by
  have h1 : l = l.take k ++ x :: l.drop (k+1) := by rw [he]; simp
  rw [h1, List.idxOf_append, if_neg hx]
  simp; omega

theorem not_mem_take_succ {l : List Int} {x : Int} {k : Nat} (hk : k < l.length) (hx : x ∉ l.take k) (he : ¬ x = l[k]) : x ∉ l.take (k + 1) := by
  rw [List.take_succ_eq_append_getElem hk, List.mem_append]; simp only [List.mem_singleton]; rintro (h | h)
  · exact hx h
  · exact he h

def indexI (l : List Int) (x : Int) : Int := if x ∈ l then (l.idxOf x : Int) else -1
theorem indexI_yes {l : List Int} {x : Int} {k : Nat} (hk : k < l.length) (hx : x ∉ l.take k) (he : x = l[k]) : indexI l x = k := by
  rw [indexI, if_pos (he ▸ List.getElem_mem hk), idxOf_at hk hx he]
theorem indexI_no {l : List Int} {x : Int} {k : Nat} (hk : l.length ≤ k) (hx : x ∉ l.take k) : indexI l x = -1 := by
  rw [List.take_of_length_le hk] at hx; simp [indexI, hx]
theorem indexI_lt (l : List Int) (x : Int) : -1 ≤ indexI l x ∧ indexI l x < l.length := by
  unfold indexI
  split
  · have := List.idxOf_lt_length_of_mem ‹x ∈ l›; omega
  · omega
theorem indexI_ge (l : List Int) (x : Int) : decide (0 ≤ indexI l x) = decide (x ∈ l) := by
  unfold indexI
  split
  · simp [*]
  · simp [*]

def inB (x a b : Int) : Bool := decide (a ≤ x) && decide (x ≤ b)

set_option maxHeartbeats 400000 in
theorem in_any (x a b : Int) (w : World) : Calls Tryz.prog 115 #[.int .i64 x, .int .i64 a, .int .i64 b] w fun e w' => e = .returned (.bool (inB x a b)) ∧ w = w' := by
  go_enter Tryz.func115, Tryz.ntmps115
  go_wp2
  all_goals go_ret
  all_goals exact ⟨ret_bool (by simp [inB, *] <;> omega), rfl⟩

set_option maxHeartbeats 400000 in
theorem isName_any (n x : Int) (s : Value) (w : World) (hn : 0 ≤ n) (hn2 : n ≤ 1000) : Calls Tryz.prog 83 #[.agg #[.int .i64 n, s], .int .i64 x] w fun e w' => e = .returned (.bool (inB x 0 (n - 1))) ∧ Ext w w' := by
  go_enter Tryz.func83, Tryz.ntmps83
  go_wp2_with (go_at_call 115; refine (in_any _ _ _ _).mono ?_; rintro e w' ⟨rfl, rfl⟩)
  all_goals go_ret
  all_goals exact ⟨rfl, (Below.refl _ _).alloc (Nat.le_refl _) _⟩

set_option maxHeartbeats 400000 in
theorem sindex_any (l : List Int) (oa : Option Addr) (cap : Nat) (x : Int) (w : World) (h : IntsAt w oa l) (hl : l.length ≤ 9223372036854775807) :
    Calls Tryz.prog 102 #[.slice oa l.length cap, .int .i64 x] w fun e w' => e = .returned (.int .i64 (indexI l x)) ∧ w = w' := by
  go_enter Tryz.func102, Tryz.ntmps102
  go_wp2
  go_loopg [8] l.length (fun g i wr => ∃ k : Nat, k + g = l.length ∧ wr = w ∧ i = .int .i64 k ∧ x ∉ l.take k)
  case atStart => exact ⟨0, by simp, rfl, rfl, by simp⟩
  case round =>
    obtain ⟨k, hk, rfl, rfl, hx⟩ := hrel
    have Hx := Lib.hid hx; clear hx
    by_cases hlt : k < l.length
    · obtain ⟨b, off, rfl, hb, hc⟩ := h.at hlt
      go_wp2
      · go_ret
        have he : x = l[k] := by simpa using (by assumption : (x == l[k]) = true)
        exact ⟨ret_int (indexI_yes hlt Hx.out he).symm, rfl⟩
      · have he : ¬ x = l[k] := by simpa using (by assumption : (x == l[k]) = false)
        go_roundg (gk - 1)
        case measure => omega
        case rel => exact ⟨k + 1, by omega, rfl, by go_num, not_mem_take_succ hlt Hx.out he⟩
    · go_wp2
      go_ret
      exact ⟨ret_int (indexI_no (by omega) Hx.out).symm, rfl⟩

set_option maxHeartbeats 400000 in
theorem contains_any (l : List Int) (oa : Option Addr) (n cap : Nat) (x : Int) (w : World) (hn : l.length = n) (h : IntsAt w oa l) (hl : l.length ≤ 9223372036854775807) :
    Calls Tryz.prog 100 #[.slice oa n cap, .int .i64 x] w fun e w' => e = .returned (.bool (decide (x ∈ l))) ∧ w = w' := by
  subst hn
  have H := Lib.hid h; clear h
  have hi := indexI_lt l x
  have Hi := Lib.hid (indexI_ge l x)
  go_enter Tryz.func100, Tryz.ntmps100
  go_wp2_with (go_at_call 102; refine (sindex_any _ _ _ _ _ H.out hl).mono ?_; rintro e w' ⟨rfl, rfl⟩)
  go_ret
  exact ⟨ret_bool Hi.out, rfl⟩

/-- A list has numbers from 0 to n - 1, none twice. -/
def namesB (n : Int) (l : List Int) : Bool := decide (l.Nodup ∧ ∀ x ∈ l, 0 ≤ x ∧ x ≤ n - 1)

theorem namesB_take_no {n : Int} {l : List Int} {k : Nat} (hk : k < l.length) (h : inB l[k] 0 (n - 1) = false ∨ l[k] ∈ l.take k) : namesB n l = false := by
  simp only [namesB, decide_eq_false_iff_not, not_and]
  intro hn hx
  rcases h with h | h
  · have := hx _ (List.getElem_mem hk)
    simp [inB, this.1, this.2] at h
  · have h1 : l = l.take k ++ l[k] :: l.drop (k+1) := by simp
    rw [h1, List.nodup_append] at hn
    exact hn.2.2 _ h _ List.mem_cons_self rfl

theorem namesB_take_succ {n : Int} {l : List Int} {k : Nat} (hk : k < l.length) (h0 : namesB n (l.take k) = true) (h : inB l[k] 0 (n - 1) = true) (h2 : l[k] ∉ l.take k) : namesB n (l.take (k + 1)) = true := by
  simp only [namesB, decide_eq_true_eq] at h0 ⊢
  rw [List.take_succ_eq_append_getElem hk]
  refine ⟨?_, ?_⟩
  · rw [List.nodup_append]
    refine ⟨h0.1, by simp, ?_⟩
    intro a ha b hb e
    simp at hb
    subst hb; subst e
    exact h2 ha
  · intro x hx
    rcases List.mem_append.1 hx with hx | hx
    · exact h0.2 x hx
    · simp at hx; subst hx
      simpa [inB] using h

set_option maxHeartbeats 1000000 in
theorem areNames_any (n : Int) (s : Value) (l : List Int) (oa : Option Addr) (cap : Nat) (w : World) (hn : 0 ≤ n) (hn2 : n ≤ 1000) (h : IntsAt w oa l) (hl : l.length ≤ 9223372036854775807) (hcap : l.length ≤ cap) :
    Calls Tryz.prog 101 #[.agg #[.int .i64 n, s], .slice oa l.length cap] w fun e w' => e = .returned (.bool (namesB n l)) ∧ Ext w w' := by
  have H := Lib.hid h; clear h
  go_enter Tryz.func101, Tryz.ntmps101
  go_wp2
  go_loopg [9] l.length (fun g i wr => ∃ k : Nat, k + g = l.length ∧ i = .int .i64 k ∧ Ext w wr ∧ wr.cell? ⟨w.heap.size, 0, none⟩ = some (.int .i64 n) ∧ wr.cell? ⟨w.heap.size, 1, none⟩ = some s ∧ namesB n (l.take k) = true)
  case atStart => exact ⟨0, by simp, rfl, (Ext.refl w).alloc _, by go_simp, by go_simp, by simp [namesB]⟩
  case round =>
    obtain ⟨k, hk, rfl, hE, c0, c1, hx⟩ := hrel
    have Hx := Lib.hid hx; clear hx
    have Hr := Lib.hid (H.out.ext hE)
    by_cases hlt : k < l.length
    · obtain ⟨b, off, ho, hb, hc⟩ := Hr.out.at hlt
      subst ho
      cases hin : inB l[k] 0 (n - 1)
      · go_wp2_with (go_at_call 83; refine (isName_any _ _ _ _ hn hn2).mono ?_; rintro e w' ⟨rfl, hE'⟩)
        go_ret
        exact ⟨ret_bool (namesB_take_no hlt (.inl hin)).symm, hE.trans hE'⟩
      · go_wp2_with (first | (go_at_call 83; refine (isName_any _ _ _ _ hn hn2).mono ?_; rintro e w' ⟨rfl, hE'⟩) | (go_at_call 100; refine (contains_any (l.take k) _ k _ _ _ (by simp; omega) ((H.out.ext (hE.trans hE')).take _) (by simp; omega)).mono ?_; rintro e w'' ⟨rfl, rfl⟩))
        · have hm : l[k] ∈ l.take k := by assumption
          go_ret
          exact ⟨ret_bool (namesB_take_no hlt (.inr hm)).symm, hE.trans hE'⟩
        · have hm : ¬ l[k] ∈ l.take k := by assumption
          go_roundg (gk - 1)
          case measure => omega
          case rel => exact ⟨k + 1, by omega, by go_num, hE.trans hE', cell_ext hE' c0, cell_ext hE' c1, namesB_take_succ hlt Hx.out hin hm⟩
    · go_wp2
      go_ret
      have hx := Hx.out
      rw [List.take_of_length_le (by omega)] at hx
      exact ⟨ret_bool hx.symm, hE⟩

end Go.Proofs.YtiehfpkcaoeieaaGreatDoor
/- Contracts: which lists are spots, which boards are as defined (the program's functions and the reference's). No condition. -/
namespace Go.Proofs.YtiehfpkcaoeieaaGreatDoor
open Go.RowKit Go.My

def spotB (n : Int) (l : List Int) : Bool := inB l.length 1 5 && namesB n l

/-- A slice's length is small enough for its numbers. -/
theorem len_le {l : List Int} {cap : Nat} (h1 : l.length ≤ cap) (h2 : cap ≤ maxLen) : l.length ≤ 9223372036854775807 := by unfold maxLen at h2; omega

set_option maxHeartbeats 400000 in
theorem isSpot_any (n : Int) (s : Value) (l : List Int) (oa : Option Addr) (cap : Nat) (w : World) (hn : 0 ≤ n) (hn2 : n ≤ 1000) (h : IntsAt w oa l) (hl : l.length ≤ 9223372036854775807) (hcap : l.length ≤ cap) :
    Calls Tryz.prog 91 #[.agg #[.int .i64 n, s], .slice oa l.length cap] w fun e w' => e = .returned (.bool (spotB n l)) ∧ Ext w w' := by
  have H := Lib.hid h; clear h
  have HS : Hid (spotB n l = (inB l.length 1 5 && namesB n l)) := rfl
  go_enter Tryz.func91, Tryz.ntmps91
  cases hi : inB l.length 1 5
  · go_wp2_with (go_at_call 115; refine (in_any _ _ _ _).mono ?_; rintro e w' ⟨rfl, rfl⟩)
    go_ret
    exact ⟨ret_bool (by rw [HS.out, hi]; rfl), (Ext.refl w).alloc _⟩
  · go_wp2_with (first | (go_at_call 115; refine (in_any _ _ _ _).mono ?_; rintro e w' ⟨rfl, rfl⟩) | (go_at_call 101; refine (areNames_any n s l _ cap _ hn hn2 (H.out.ext ((Ext.refl w).alloc _)) hl hcap).mono ?_; rintro e w' ⟨rfl, hE⟩))
    go_ret
    exact ⟨ret_bool (by rw [HS.out, hi]; rfl), ((Ext.refl w).alloc _).trans hE⟩

set_option maxHeartbeats 400000 in
theorem isBoard1_any (n : Int) (s : Value) (B : Nat) (l : List Int) (oa : Option Addr) (cap : Nat) (w : World) (hn : 0 ≤ n) (hn2 : n ≤ 1000) (h : IntsAt w oa l) (hl : l.length ≤ 9223372036854775807) (hcap : l.length ≤ cap)
    (c0 : w.cell? ⟨B, 0, none⟩ = some (.int .i64 n)) (c1 : w.cell? ⟨B, 1, none⟩ = some s) :
    Calls Tryz.prog 117 #[.slice oa l.length cap, .pointer (some ⟨B, 0, none⟩)] w fun e w' => e = .returned (.bool (!spotB n l)) ∧ Ext w w' := by
  have H := Lib.hid h; clear h
  go_enter Tryz.func117, Tryz.ntmps117
  go_wp2_with (go_at_call 91; refine (isSpot_any n s l _ cap _ hn hn2 H.out hl hcap).mono ?_; rintro e w' ⟨rfl, hE⟩)
  go_ret
  exact ⟨rfl, hE⟩

/-- The place of the first list that is no spot, or -1. -/
def badI (n : Int) (ls : List (List Int)) : Int := if ls.all (spotB n) then -1 else (ls.findIdx (fun l => !spotB n l) : Int)
theorem badI_yes {n : Int} {ls : List (List Int)} {k : Nat} (hk : k < ls.length) (h0 : (ls.take k).all (spotB n) = true) (h : spotB n ls[k] = false) : badI n ls = k := by
  have h1 : ¬ ls.all (spotB n) = true := fun h2 => by
    have := List.all_eq_true.1 h2 _ (List.getElem_mem hk); simp [h] at this
  rw [badI, if_neg h1]
  congr 1
  rw [List.findIdx_eq hk]
  refine ⟨by simp [h], fun j hj => ?_⟩
  have := List.all_eq_true.1 h0 ls[j] (by rw [List.mem_take_iff_getElem]; exact ⟨j, by omega, rfl⟩)
  simp [this]
theorem badI_no {n : Int} {ls : List (List Int)} {k : Nat} (hk : ls.length ≤ k) (h0 : (ls.take k).all (spotB n) = true) : badI n ls = -1 := by
  rw [List.take_of_length_le hk] at h0; rw [badI, if_pos h0]
theorem all_take_succ {n : Int} {ls : List (List Int)} {k : Nat} (hk : k < ls.length) (h0 : (ls.take k).all (spotB n) = true) (h : spotB n ls[k] = true) : (ls.take (k + 1)).all (spotB n) = true := by
  rw [List.take_succ_eq_append_getElem hk, List.all_append, h0]; simp [h]
theorem badI_ge (n : Int) (ls : List (List Int)) : decide (0 ≤ badI n ls) = !ls.all (spotB n) := by
  unfold badI
  split
  · simp [*]
  · rename_i h
    rw [Bool.not_eq_true] at h
    rw [h]; simp
theorem badI_lt (n : Int) (ls : List (List Int)) : -1 ≤ badI n ls := by
  unfold badI; split <;> omega

set_option maxHeartbeats 1000000 in
theorem indexFunc_any (n : Int) (s : Value) (B : Nat) (ls : List (List Int)) (oa : Option Addr) (cap : Nat) (w : World) (hn : 0 ≤ n) (hn2 : n ≤ 1000) (h : RowsAt w oa ls) (hl : ls.length ≤ 9223372036854775807)
    (c0 : w.cell? ⟨B, 0, none⟩ = some (.int .i64 n)) (c1 : w.cell? ⟨B, 1, none⟩ = some s) :
    Calls Tryz.prog 135 #[.slice oa ls.length cap, .func (.func 117) #[] #[.pointer (some ⟨B, 0, none⟩)]] w fun e w' => e = .returned (.int .i64 (badI n ls)) ∧ Ext w w' := by
  have H := Lib.hid h; clear h
  go_enter Tryz.func135, Tryz.ntmps135
  go_wp2
  go_loopg [8] ls.length (fun g i wr => ∃ k : Nat, k + g = ls.length ∧ Ext w wr ∧ i = .int .i64 k ∧ (ls.take k).all (spotB n) = true)
  case atStart => exact ⟨0, by simp, Ext.refl w, rfl, by simp⟩
  case round =>
    obtain ⟨k, hk, hE, rfl, hx⟩ := hrel
    have Hx := Lib.hid hx; clear hx
    have Hr := Lib.hid (H.out.ext hE)
    by_cases hlt : k < ls.length
    · obtain ⟨b, off, oa', cap', rfl, hb, hc, h1, h2, _, h4⟩ := Hr.out.at hlt
      have H4 := Lib.hid h4; clear h4
      have d0 := Lib.hid (cell_ext hE c0)
      have d1 := Lib.hid (cell_ext hE c1)
      cases hs : spotB n ls[k]
      · go_wp2_with (go_at_call 117; refine (isBoard1_any n s B _ _ _ _ hn hn2 H4.out (len_le h1 h2) h1 d0.out d1.out).mono ?_; rintro e w' ⟨rfl, hE'⟩)
        go_ret
        exact ⟨ret_int (badI_yes hlt Hx.out hs).symm, hE.trans hE'⟩
      · go_wp2_with (go_at_call 117; refine (isBoard1_any n s B _ _ _ _ hn hn2 H4.out (len_le h1 h2) h1 d0.out d1.out).mono ?_; rintro e w' ⟨rfl, hE'⟩)
        go_roundg (gk - 1)
        case measure => omega
        case rel => exact ⟨k + 1, by omega, hE.trans hE', by go_num, all_take_succ hlt Hx.out hs⟩
    · go_wp2
      go_ret
      exact ⟨ret_int (badI_no (by omega) Hx.out).symm, hE⟩

set_option maxHeartbeats 400000 in
theorem containsFunc_any (n : Int) (s : Value) (B : Nat) (ls : List (List Int)) (oa : Option Addr) (cap : Nat) (w : World) (hn : 0 ≤ n) (hn2 : n ≤ 1000) (h : RowsAt w oa ls) (hl : ls.length ≤ 9223372036854775807)
    (c0 : w.cell? ⟨B, 0, none⟩ = some (.int .i64 n)) (c1 : w.cell? ⟨B, 1, none⟩ = some s) :
    Calls Tryz.prog 116 #[.slice oa ls.length cap, .func (.func 117) #[] #[.pointer (some ⟨B, 0, none⟩)]] w fun e w' => e = .returned (.bool (!ls.all (spotB n))) ∧ Ext w w' := by
  have H := Lib.hid h; clear h
  have d0 := Lib.hid c0; have d1 := Lib.hid c1; clear c0 c1
  have hi := badI_lt n ls
  have Hi := Lib.hid (badI_ge n ls)
  go_enter Tryz.func116, Tryz.ntmps116
  go_wp2_with (go_at_call 135; refine (indexFunc_any n s B _ _ _ _ hn hn2 H.out hl d0.out d1.out).mono ?_; rintro e w' ⟨rfl, hE⟩)
  go_ret
  exact ⟨ret_bool Hi.out, hE⟩

/-- A board is as defined. -/
def boardB (n : Int) (ls : List (List Int)) : Bool := inB n 1 6 && decide (ls.length ≤ 6) && ls.all (spotB n)

set_option maxHeartbeats 1000000 in
theorem isBoard_any (n : Int) (ls : List (List Int)) (oa : Option Addr) (cap : Nat) (w : World) (h : RowsAt w oa ls) (hl : ls.length ≤ 9223372036854775807) :
    Calls Tryz.prog 73 #[.agg #[.int .i64 n, .slice oa ls.length cap]] w fun e w' => e = .returned (.bool (boardB n ls)) ∧ Ext w w' := by
  have H := Lib.hid h; clear h
  have HS : Hid (boardB n ls = (inB n 1 6 && decide (ls.length ≤ 6) && ls.all (spotB n))) := rfl
  go_enter Tryz.func73, Tryz.ntmps73
  cases hi : inB n 1 6
  · go_wp2_with (go_at_call 115; refine (in_any _ _ _ _).mono ?_; rintro e w' ⟨rfl, rfl⟩)
    go_ret
    exact ⟨ret_bool (by rw [HS.out, hi]; rfl), (Ext.refl w).alloc _⟩
  · have hn : 0 ≤ n ∧ n ≤ 1000 := by simp [inB] at hi; omega
    by_cases h6 : ls.length ≤ 6
    · go_wp2_with (first | (go_at_call 115; refine (in_any _ _ _ _).mono ?_; rintro e w' ⟨rfl, rfl⟩) | (go_at_call 116; refine (containsFunc_any n (.slice oa ls.length cap) w.heap.size _ _ _ _ hn.1 hn.2 (H.out.ext ((Ext.refl w).alloc _)) hl (by go_simp) (by go_simp)).mono ?_; rintro e w' ⟨rfl, hE⟩))
      go_ret
      exact ⟨ret_bool (by rw [HS.out, hi]; simp [h6]), ((Ext.refl w).alloc _).trans hE⟩
    · go_wp2_with (first | (go_at_call 115; refine (in_any _ _ _ _).mono ?_; rintro e w' ⟨rfl, rfl⟩))
      go_ret
      exact ⟨ret_bool (by rw [HS.out, hi]; simp [h6]), (Ext.refl w).alloc _⟩

end Go.Proofs.YtiehfpkcaoeieaaGreatDoor
/- Contracts: the reference's own functions on names, spots, boards and orders. No condition. -/
namespace Go.Proofs.YtiehfpkcaoeieaaGreatDoor
open Go.RowKit Go.My

theorem mixed : Tryz.prog.follows .mixedOrders = true := by kernel_rfl

set_option maxHeartbeats 400000 in
theorem rin_any (x a b : Int) (w : World) : Calls Tryz.prog 79 #[.int .i64 x, .int .i64 a, .int .i64 b] w fun e w' => e = .returned (.bool (inB x a b)) ∧ w = w' := by
  go_enter Tryz.func79, Tryz.ntmps79
  go_wp2
  all_goals go_ret
  all_goals exact ⟨ret_bool (by simp [inB, *] <;> omega), rfl⟩

set_option maxHeartbeats 400000 in
theorem rName_any (n x : Int) (s : Value) (w : World) (hn : 0 ≤ n) (hn2 : n ≤ 1000) : Calls Tryz.prog 35 #[.agg #[.int .i64 n, s], .int .i64 x] w fun e w' => e = .returned (.bool (inB x 0 (n - 1))) ∧ Ext w w' := by
  go_enter Tryz.func35, Tryz.ntmps35
  go_wp2_with (go_at_call 79; refine (rin_any _ _ _ _).mono ?_; rintro e w' ⟨rfl, rfl⟩)
  all_goals go_ret
  all_goals exact ⟨rfl, (Below.refl _ _).alloc (Nat.le_refl _) _⟩

set_option maxHeartbeats 400000 in
theorem listed_any (l : List Int) (oa : Option Addr) (n cap : Nat) (x : Int) (w : World) (hn : l.length = n) (h : IntsAt w oa l) (hl : l.length ≤ 9223372036854775807) :
    Calls Tryz.prog 52 #[.slice oa n cap, .int .i64 x] w fun e w' => e = .returned (.bool (decide (x ∈ l))) ∧ w = w' := by
  subst hn
  have H := Lib.hid h; clear h
  go_enter Tryz.func52, Tryz.ntmps52
  go_wp2
  go_loopg [5] l.length (fun g i wr => ∃ k : Nat, k + g = l.length ∧ wr = w ∧ i = .int .i64 k ∧ x ∉ l.take k)
  case atStart => exact ⟨0, by simp, rfl, rfl, by simp⟩
  case round =>
    obtain ⟨k, hk, rfl, rfl, hx⟩ := hrel
    have Hx := Lib.hid hx; clear hx
    by_cases hlt : k < l.length
    · obtain ⟨b, off, rfl, hb, hc⟩ := H.out.at hlt
      go_wp2
      · go_ret
        have he : l[k] = x := by simpa using (by assumption : (l[k] == x) = true)
        exact ⟨ret_bool (by simp [← he]), rfl⟩
      · have he : ¬ l[k] = x := by simpa using (by assumption : (l[k] == x) = false)
        go_roundg (gk - 1)
        case measure => omega
        case rel => exact ⟨k + 1, by omega, rfl, by go_num, not_mem_take_succ hlt Hx.out (fun e => he e.symm)⟩
    · go_wp2
      go_ret
      have hx := Hx.out
      rw [List.take_of_length_le (by omega)] at hx
      exact ⟨ret_bool (by simp [hx]), rfl⟩

set_option maxHeartbeats 1000000 in
theorem apart_any (n : Int) (s : Value) (l : List Int) (oa : Option Addr) (cap : Nat) (w : World) (hn : 0 ≤ n) (hn2 : n ≤ 1000) (h : IntsAt w oa l) (hl : l.length ≤ 9223372036854775807) (hcap : l.length ≤ cap) :
    Calls Tryz.prog 81 #[.agg #[.int .i64 n, s], .slice oa l.length cap] w fun e w' => e = .returned (.bool (namesB n l)) ∧ Ext w w' := by
  have H := Lib.hid h; clear h
  go_enter Tryz.func81, Tryz.ntmps81
  go_wp2
  go_loopg [5] l.length (fun g i wr => ∃ k : Nat, k + g = l.length ∧ i = .int .i64 k ∧ Ext w wr ∧ wr.cell? ⟨w.heap.size, 0, none⟩ = some (.int .i64 n) ∧ wr.cell? ⟨w.heap.size, 1, none⟩ = some s ∧ namesB n (l.take k) = true)
  case atStart => exact ⟨0, by simp, rfl, (Ext.refl w).alloc _, by go_simp, by go_simp, by simp [namesB]⟩
  case round =>
    obtain ⟨k, hk, rfl, hE, c0, c1, hx⟩ := hrel
    have Hx := Lib.hid hx; clear hx
    have Hr := Lib.hid (H.out.ext hE)
    by_cases hlt : k < l.length
    · obtain ⟨b, off, ho, hb, hc⟩ := Hr.out.at hlt
      subst ho
      cases hin : inB l[k] 0 (n - 1)
      · go_wp2_with fail
        refine wp_region_plan (.take 0 <| .take 1 <| .take 2 <| .take 3 <| .take 4 <| .only 5 <| .take 6 <| .take 7 <| .take 8 <| .take 9 <| .take 10 <| .take 11 <| .take 12 <| .take 13 <| .take 14 <| .take 15 <| .take 16 <| .done) (fun W => Ext wr W) mixed (by kernel_rfl) (by kernel_rfl) rfl (fun _ _ d _ _ h => by cases d <;> exact h) ((Ext.refl wr).drew) ?_
        repeat (first | (refine plan_take (v := ?_) rfl rfl (fun W hW => ?_) ?_; rotate_left; (focus (have d0 := cell_ext hW c0; have d1 := cell_ext hW c1; have dc := cell_ext hW hc; go_simp; first | exact rfl | (split <;> first | exact rfl | (exfalso; omega)) | done)); simp only [Act.put, List.setIfInBounds_toArray, List.set_cons_zero, List.set_cons_succ]) | (refine plan_skip rfl rfl ?_; simp only [Act.put, List.setIfInBounds_toArray, List.set_cons_zero, List.set_cons_succ]))
        refine plan_walk rfl ?_; intro K hK
        go_wp2_with (first | (go_at_call 35; refine (rName_any _ _ _ _ hn hn2).mono ?_; rintro e w' ⟨rfl, hE'⟩))
        have hE2 := (Ext.refl wr).drew.trans hE'
        refine hK _ _ hE2 ?_
        repeat (first | (refine plan_take (v := ?_) rfl rfl (fun W hW => ?_) ?_; rotate_left; (focus (skip; go_simp; first | exact rfl | (split <;> first | exact rfl | (exfalso; omega)) | done)); simp only [Act.put, List.setIfInBounds_toArray, List.set_cons_zero, List.set_cons_succ]) | (refine plan_skip rfl rfl ?_; simp only [Act.put, List.setIfInBounds_toArray, List.set_cons_zero, List.set_cons_succ]))
        refine plan_done ?_
        go_wp2
        go_ret
        exact ⟨ret_bool (namesB_take_no hlt (.inl hin)).symm, hE.trans hE2⟩
      · go_wp2_with fail
        refine wp_region_plan (.take 0 <| .take 1 <| .take 2 <| .take 3 <| .take 4 <| .only 5 <| .take 6 <| .take 7 <| .take 8 <| .take 9 <| .take 10 <| .take 11 <| .take 12 <| .take 13 <| .take 14 <| .only 15 <| .take 16 <| .done) (fun W => Ext wr W) mixed (by kernel_rfl) (by kernel_rfl) rfl (fun _ _ d _ _ h => by cases d <;> exact h) ((Ext.refl wr).drew) ?_
        repeat (first | (refine plan_take (v := ?_) rfl rfl (fun W hW => ?_) ?_; rotate_left; (focus (have d0 := cell_ext hW c0; have d1 := cell_ext hW c1; have dc := cell_ext hW hc; go_simp; first | exact rfl | (split <;> first | exact rfl | (exfalso; omega)) | done)); simp only [Act.put, List.setIfInBounds_toArray, List.set_cons_zero, List.set_cons_succ]) | (refine plan_skip rfl rfl ?_; simp only [Act.put, List.setIfInBounds_toArray, List.set_cons_zero, List.set_cons_succ]))
        refine plan_walk rfl ?_; intro K hK
        go_wp2_with (first | (go_at_call 35; refine (rName_any _ _ _ _ hn hn2).mono ?_; rintro e w' ⟨rfl, hE'⟩))
        have hE2 := (Ext.refl wr).drew.trans hE'
        refine hK _ _ hE2 ?_
        repeat (first | (refine plan_take (v := ?_) rfl rfl (fun W hW => ?_) ?_; rotate_left; (focus (have dc := cell_ext hW hc; go_simp; first | exact rfl | (split <;> first | exact rfl | (exfalso; omega)) | done)); simp only [Act.put, List.setIfInBounds_toArray, List.set_cons_zero, List.set_cons_succ]) | (refine plan_skip rfl rfl ?_; simp only [Act.put, List.setIfInBounds_toArray, List.set_cons_zero, List.set_cons_succ]))
        refine plan_walk rfl ?_; intro K hK
        go_wp2_with (first | (go_at_call 52; refine (listed_any (l.take k) _ k _ _ _ (by simp; omega) ((H.out.ext (hE.trans hE2)).take _) (by simp; omega)).mono ?_; rintro e w'' ⟨rfl, rfl⟩))
        refine hK _ _ hE2 ?_
        repeat (first | (refine plan_take (v := ?_) rfl rfl (fun W hW => ?_) ?_; rotate_left; (focus (skip; go_simp; first | exact rfl | (split <;> first | exact rfl | (exfalso; omega)) | done)); simp only [Act.put, List.setIfInBounds_toArray, List.set_cons_zero, List.set_cons_succ]) | (refine plan_skip rfl rfl ?_; simp only [Act.put, List.setIfInBounds_toArray, List.set_cons_zero, List.set_cons_succ]))
        refine plan_done ?_
        go_wp2
        · have hm : l[k] ∈ l.take k := by assumption
          go_ret
          exact ⟨ret_bool (namesB_take_no hlt (.inr hm)).symm, hE.trans hE2⟩
        · have hm : ¬ l[k] ∈ l.take k := by assumption
          go_roundg (gk - 1)
          case measure => omega
          case rel => exact ⟨k + 1, by omega, by go_num, hE.trans hE2, cell_ext hE2 c0, cell_ext hE2 c1, namesB_take_succ hlt Hx.out hin hm⟩
    · go_wp2
      go_ret
      have hx := Hx.out
      rw [List.take_of_length_le (by omega)] at hx
      exact ⟨ret_bool hx.symm, hE⟩

end Go.Proofs.YtiehfpkcaoeieaaGreatDoor
/- Contracts: the reference's Spot, Board, Order; the statements' short and right. No condition. -/
namespace Go.Proofs.YtiehfpkcaoeieaaGreatDoor
open Go.RowKit Go.My

set_option maxHeartbeats 400000 in
theorem rSpot_any (n : Int) (s : Value) (l : List Int) (oa : Option Addr) (cap : Nat) (w : World) (hn : 0 ≤ n) (hn2 : n ≤ 1000) (h : IntsAt w oa l) (hl : l.length ≤ 9223372036854775807) (hcap : l.length ≤ cap) :
    Calls Tryz.prog 41 #[.agg #[.int .i64 n, s], .slice oa l.length cap] w fun e w' => e = .returned (.bool (spotB n l)) ∧ Ext w w' := by
  have H := Lib.hid h; clear h
  have HS : Hid (spotB n l = (inB l.length 1 5 && namesB n l)) := rfl
  go_enter Tryz.func41, Tryz.ntmps41
  cases hi : inB l.length 1 5
  · go_wp2_with (go_at_call 79; refine (rin_any _ _ _ _).mono ?_; rintro e w' ⟨rfl, rfl⟩)
    go_ret
    exact ⟨ret_bool (by rw [HS.out, hi]; rfl), (Ext.refl w).alloc _⟩
  · go_wp2_with (first | (go_at_call 79; refine (rin_any _ _ _ _).mono ?_; rintro e w' ⟨rfl, rfl⟩) | (go_at_call 81; refine (apart_any n s l _ cap _ hn hn2 (H.out.ext ((Ext.refl w).alloc _)) hl hcap).mono ?_; rintro e w' ⟨rfl, hE⟩))
    go_ret
    exact ⟨ret_bool (by rw [HS.out, hi]; rfl), ((Ext.refl w).alloc _).trans hE⟩

set_option maxHeartbeats 1000000 in
theorem rBoard_any (n : Int) (ls : List (List Int)) (oa : Option Addr) (cap : Nat) (w : World) (h : RowsAt w oa ls) (hl : ls.length ≤ 9223372036854775807) :
    Calls Tryz.prog 26 #[.agg #[.int .i64 n, .slice oa ls.length cap]] w fun e w' => e = .returned (.bool (boardB n ls)) ∧ Ext w w' := by
  have H := Lib.hid h; clear h
  have HS : Hid (boardB n ls = (inB n 1 6 && decide (ls.length ≤ 6) && ls.all (spotB n))) := rfl
  go_enter Tryz.func26, Tryz.ntmps26
  cases hi : inB n 1 6
  · go_wp2_with (go_at_call 79; refine (rin_any _ _ _ _).mono ?_; rintro e w' ⟨rfl, rfl⟩)
    go_ret
    exact ⟨ret_bool (by rw [HS.out, hi]; rfl), (Ext.refl w).alloc _⟩
  · have hn : 0 ≤ n ∧ n ≤ 1000 := by simp [inB] at hi; omega
    by_cases h6 : ls.length ≤ 6
    · go_wp2_with (go_at_call 79; refine (rin_any _ _ _ _).mono ?_; rintro e w' ⟨rfl, rfl⟩)
      go_loopg [3] ls.length (fun g i wr => ∃ k : Nat, k + g = ls.length ∧ Ext w wr ∧ i = .int .i64 k ∧ wr.cell? ⟨w.heap.size, 0, none⟩ = some (.int .i64 n) ∧ wr.cell? ⟨w.heap.size, 1, none⟩ = some (.slice oa ls.length cap) ∧ (ls.take k).all (spotB n) = true)
      case atStart => exact ⟨0, by simp, (Ext.refl w).alloc _, rfl, by go_simp, by go_simp, by simp⟩
      case round =>
        obtain ⟨k, hk, hE, rfl, c0, c1, hx⟩ := hrel
        have Hx := Lib.hid hx; clear hx
        have Hr := Lib.hid (H.out.ext hE)
        by_cases hlt : k < ls.length
        · obtain ⟨b, off, oa', cap', ho, hb, hc, h1, h2, _, h4⟩ := Hr.out.at hlt
          subst ho
          have H4 := Lib.hid h4; clear h4
          cases hs : spotB n ls[k]
          all_goals
            go_wp2_with fail
            refine wp_region_plan (.take 0 <| .take 1 <| .take 2 <| .take 3 <| .take 4 <| .take 5 <| .only 6 <| .take 7 <| .done) (fun W => Ext wr W) mixed (by kernel_rfl) (by kernel_rfl) rfl (fun _ _ d _ _ h => by cases d <;> exact h) ((Ext.refl wr).drew) ?_
            repeat (first | (refine plan_take (v := ?_) rfl rfl (fun W hW => ?_) ?_; rotate_left; (focus (have d0 := cell_ext hW c0; have d1 := cell_ext hW c1; have dc := cell_ext hW hc; go_simp; first | exact rfl | (split <;> first | exact rfl | (exfalso; omega)) | done)); simp only [Act.put, List.setIfInBounds_toArray, List.set_cons_zero, List.set_cons_succ]) | (refine plan_skip rfl rfl ?_; simp only [Act.put, List.setIfInBounds_toArray, List.set_cons_zero, List.set_cons_succ]))
            refine plan_walk rfl ?_; intro K hK
            go_wp2_with (first | (go_at_call 41; refine (rSpot_any n _ _ _ _ _ hn.1 hn.2 (H4.out.ext (Ext.refl wr).drew) (len_le h1 h2) h1).mono ?_; rintro e w' ⟨rfl, hE'⟩))
            have hE2 := (Ext.refl wr).drew.trans hE'
            refine hK _ _ hE2 ?_
            repeat (first | (refine plan_take (v := ?_) rfl rfl (fun W hW => ?_) ?_; rotate_left; (focus (skip; go_simp; first | exact rfl | (split <;> first | exact rfl | (exfalso; omega)) | done)); simp only [Act.put, List.setIfInBounds_toArray, List.set_cons_zero, List.set_cons_succ]) | (refine plan_skip rfl rfl ?_; simp only [Act.put, List.setIfInBounds_toArray, List.set_cons_zero, List.set_cons_succ]))
            refine plan_done ?_
            go_wp2
          · go_ret
            refine ⟨ret_bool ?_, hE.trans hE2⟩
            rw [HS.out]
            have : ls.all (spotB n) = false := by
              rw [List.all_eq_false]; exact ⟨ls[k], List.getElem_mem hlt, by simp [hs]⟩
            simp [this]
          · go_roundg (gk - 1)
            case measure => omega
            case rel => exact ⟨k + 1, by omega, hE.trans hE2, by go_num, cell_ext hE2 c0, cell_ext hE2 c1, all_take_succ hlt Hx.out hs⟩
        · go_wp2
          go_ret
          have hx := Hx.out
          rw [List.take_of_length_le (by omega)] at hx
          exact ⟨ret_bool (by rw [HS.out, hi, hx]; simp [h6]), hE⟩
    · go_wp2_with (first | (go_at_call 79; refine (rin_any _ _ _ _).mono ?_; rintro e w' ⟨rfl, rfl⟩))
      go_ret
      exact ⟨ret_bool (by rw [HS.out, hi]; simp [h6]), (Ext.refl w).alloc _⟩

def orderB (n : Int) (l : List Int) : Bool := decide ((l.length : Int) = n) && namesB n l

set_option maxHeartbeats 400000 in
theorem rOrder_any (n : Int) (s : Value) (l : List Int) (oa : Option Addr) (cap : Nat) (w : World) (hn : 0 ≤ n) (hn2 : n ≤ 1000) (h : IntsAt w oa l) (hl : l.length ≤ 9223372036854775807) (hcap : l.length ≤ cap) :
    Calls Tryz.prog 30 #[.agg #[.int .i64 n, s], .slice oa l.length cap] w fun e w' => e = .returned (.bool (orderB n l)) ∧ Ext w w' := by
  have H := Lib.hid h; clear h
  have HS : Hid (orderB n l = (decide ((l.length : Int) = n) && namesB n l)) := rfl
  by_cases hi : (l.length : Int) = n
  · have hi2 : ((l.length : Int) == n) = true := by simpa using hi
    have Hi := Lib.hid hi; clear hi
    go_enter Tryz.func30, Tryz.ntmps30
    go_wp2_with (first | (go_at_call 81; refine (apart_any n s l _ cap _ hn hn2 (H.out.ext ((Ext.refl w).alloc _)) hl hcap).mono ?_; rintro e w' ⟨rfl, hE⟩))
    go_ret
    exact ⟨ret_bool (by rw [HS.out, decide_eq_true Hi.out]; rfl), ((Ext.refl w).alloc _).trans hE⟩
  · have hi2 : ((l.length : Int) == n) = false := by simpa using hi
    go_enter Tryz.func30, Tryz.ntmps30
    go_wp2_with fail
    go_ret
    exact ⟨ret_bool (by rw [HS.out, decide_eq_false hi]; rfl), (Ext.refl w).alloc _⟩

def shortB (ls : List (List Int)) : Bool := (ls.take 8).all (fun l => decide (l.length ≤ 7)) && decide (ls.length ≤ 8)
theorem shortB_no {ls : List (List Int)} {k : Nat} (hk : k < ls.length) (h8 : k < 8) (h : ¬ ls[k].length ≤ 7) : shortB ls = false := by
  have : (ls.take 8).all (fun l => decide (l.length ≤ 7)) = false := by
    rw [List.all_eq_false]
    exact ⟨ls[k], by rw [List.mem_take_iff_getElem]; exact ⟨k, by omega, rfl⟩, by simp [h]⟩
  simp [shortB, this]
theorem shortB_at {ls : List (List Int)} {k : Nat} (h : (ls.take k).all (fun l => decide (l.length ≤ 7)) = true) (hk : k = min ls.length 8) : shortB ls = decide (ls.length ≤ 8) := by
  have : ls.take 8 = ls.take k := by
    rw [hk, Nat.min_comm]; exact List.take_eq_take_min
  rw [shortB, this, h]; simp
theorem short_take_succ {ls : List (List Int)} {k : Nat} (hk : k < ls.length) (h0 : (ls.take k).all (fun l => decide (l.length ≤ 7)) = true) (h : ls[k].length ≤ 7) : (ls.take (k + 1)).all (fun l => decide (l.length ≤ 7)) = true := by
  rw [List.take_succ_eq_append_getElem hk, List.all_append, h0]; simp [h]

set_option maxHeartbeats 1000000 in
theorem short_any (n : Int) (ls : List (List Int)) (oa : Option Addr) (cap : Nat) (w : World) (h : RowsAt w oa ls) (hl : ls.length ≤ 9223372036854775807) :
    Calls Tryz.prog 22 #[.agg #[.int .i64 n, .slice oa ls.length cap]] w fun e w' => e = .returned (.bool (shortB ls)) ∧ Ext w w' := by
  have H := Lib.hid h; clear h
  go_enter Tryz.func22, Tryz.ntmps22
  go_wp2
  go_loopg [3] 8 (fun g i wr => ∃ k : Nat, k + g = 8 ∧ k ≤ ls.length ∧ wr = w.alloc (.cells #[.int .i64 n, .slice oa ls.length cap] 24 (0, 0)) ∧ i = .int .i64 k ∧ (ls.take k).all (fun l => decide (l.length ≤ 7)) = true)
  case atStart => exact ⟨0, by simp, by simp, rfl, rfl, by simp⟩
  case round =>
    obtain ⟨k, hk, hk2, rfl, rfl, hx⟩ := hrel
    have Hx := Lib.hid hx; clear hx
    have hE := (Ext.refl w).alloc (.cells #[.int .i64 n, .slice oa ls.length cap] 24 (0, 0))
    have Hr := Lib.hid (H.out.ext hE)
    by_cases hlt : k < ls.length
    · by_cases h8 : k < 8
      · obtain ⟨b, off, oa', cap', ho, hb, hc, h1, h2, _, h4⟩ := Hr.out.at hlt
        subst ho
        clear h4 Hr H
        go_wp2
        · have : ¬ ls[k].length ≤ 7 := by omega
          go_ret
          exact ⟨ret_bool (shortB_no hlt h8 this).symm, hE⟩
        · have : ls[k].length ≤ 7 := by omega
          go_roundg (gk - 1)
          case measure => omega
          case rel => exact ⟨k + 1, by omega, by omega, rfl, by go_num, short_take_succ hlt Hx.out this⟩
      · go_wp2
        go_ret
        exact ⟨ret_bool (by rw [shortB_at Hx.out (by omega)]; simp only [decide_eq_decide]; omega), hE⟩
    · go_wp2
      go_ret
      exact ⟨ret_bool (by rw [shortB_at Hx.out (by omega)]; simp only [decide_eq_decide]; omega), hE⟩

set_option maxHeartbeats 400000 in
theorem right_any (n : Int) (ls : List (List Int)) (oa : Option Addr) (cap : Nat) (w : World) (h : RowsAt w oa ls) (hl : ls.length ≤ 9223372036854775807) :
    Calls Tryz.prog 29 #[.agg #[.int .i64 n, .slice oa ls.length cap]] w fun e w' => e = .returned (.bool (shortB ls && boardB n ls)) ∧ Ext w w' := by
  have H := Lib.hid h; clear h
  go_enter Tryz.func29, Tryz.ntmps29
  cases hs : shortB ls
  · go_wp2_with (first | (go_at_call 22; refine (short_any n ls _ cap _ (H.out.ext ((Ext.refl w).alloc _)) hl).mono ?_; rintro e w' ⟨rfl, hE⟩))
    go_ret
    exact ⟨ret_bool (by simp), ((Ext.refl w).alloc _).trans hE⟩
  · go_wp2_with (first | (go_at_call 22; refine (short_any n ls _ cap _ (H.out.ext ((Ext.refl w).alloc _)) hl).mono ?_; rintro e w' ⟨rfl, hE⟩; obtain ⟨hq, _⟩ := bcell hE) | (go_at_call 26; refine (rBoard_any n ls _ cap _ ((H.out.ext ((Ext.refl w).alloc _)).ext hE) hl).mono ?_; rintro e w'' ⟨rfl, hE2⟩))
    go_ret
    exact ⟨ret_bool (by simp), (((Ext.refl w).alloc _).trans hE).trans hE2⟩

end Go.Proofs.YtiehfpkcaoeieaaGreatDoor
