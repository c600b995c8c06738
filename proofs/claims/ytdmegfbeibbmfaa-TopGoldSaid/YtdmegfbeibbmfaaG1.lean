/- Contracts and mathematics, joined: Base, Plan, Share, PlanIn, PlanR, AppN, Turn, CBox, Each, Clone. Conditions stand with each. -/
import Derived.Test.YtdmegfbeibbmfaaProg
import Derived.WalkKit
import Derived.WalkSpells
import Derived.WalkLawsBesides
import Derived.Deep.LoopGhost
import Derived.Deep.QuietTactic
import Derived.Deep.RegionWith
import Derived.Deep.RegionHeld3
import Derived.Deep.DeepCutAuto
import Derived.Deep.DeepFit
import Derived.BigQuiet
import Derived.Lib.Hide
import Derived.Below
import Derived.OrdersHeld
import Derived.Deep.RegionHeld
import Derived.RegionIn
import Derived.TacticsIn
import Derived.OwnWalkIn
import Derived.ArgAppend
import Derived.Laws.OwnMore
import Derived.RangeFuncNested
import Derived.RangeFuncBound
import Derived.RangeFuncCalls
import Derived.RangeFuncLeaves
set_option linter.unusedVariables false
set_option linter.unusedSimpArgs false
/- Data in memory as lists, and how they are kept when a call makes memory of its own. No condition. -/
namespace Go.My
open Go Go.RowKit

/-- w' is w with new blocks. -/
abbrev Ext (w w' : World) : Prop := Below w.heap.size w w'

theorem Ext.refl (w : World) : Ext w w := Below.refl _ _
theorem Ext.trans {a b c : World} (h : Ext a b) (k : Ext b c) : Ext a c := Below.trans h (k.mono h.size)
theorem Ext.alloc {a w : World} (h : Ext a w) (o : Obj) : Ext a (w.alloc o) := Below.alloc h h.size o
theorem Ext.drew {a w : World} (h : Ext a w) : Ext a w.drew := Below.drew h

theorem Ext.below {a b c : World} {B : Nat} (h : Ext a b) (k : Below B b c) (hB : a.heap.size ≤ B) : Ext a c := Below.trans h (k.mono hB)

/-- The cells of a slice of numbers. -/
def IntsAt (w : World) (oa : Option Addr) (l : List Int) : Prop :=
  ∀ (i : Nat) (x : Int), l[i]? = some x → ∃ b off, oa = some ⟨b, off, none⟩ ∧ b < w.heap.size ∧ w.cell? ⟨b, off + i, none⟩ = some (.int .i64 x)

/-- v is a slice of these numbers. -/
def IsInts (w : World) (v : Value) (l : List Int) : Prop :=
  ∃ oa cap, v = .slice oa l.length cap ∧ l.length ≤ cap ∧ cap ≤ maxLen ∧ (oa = none → cap = 0) ∧ IntsAt w oa l

/-- The cells of a slice of slices. -/
def RowsAt (w : World) (oa : Option Addr) (ls : List (List Int)) : Prop :=
  ∀ (i : Nat) (l : List Int), ls[i]? = some l → ∃ b off u, oa = some ⟨b, off, none⟩ ∧ b < w.heap.size ∧ w.cell? ⟨b, off + i, none⟩ = some u ∧ IsInts w u l

def IsRows (w : World) (v : Value) (ls : List (List Int)) : Prop :=
  ∃ oa cap, v = .slice oa ls.length cap ∧ ls.length ≤ cap ∧ cap ≤ maxLen ∧ (oa = none → cap = 0) ∧ RowsAt w oa ls

theorem IntsAt.ext {w w' : World} {oa : Option Addr} {l : List Int} (h : IntsAt w oa l) (hb : Ext w w') : IntsAt w' oa l := by
  intro i x hx
  obtain ⟨b, off, ho, hlt, hc⟩ := h i x hx
  exact ⟨b, off, ho, Nat.lt_of_lt_of_le hlt hb.size, (hb.cell (p := ⟨b, off + i, none⟩) hlt).trans hc⟩

theorem IsInts.ext {w w' : World} {v : Value} {l : List Int} (h : IsInts w v l) (hb : Ext w w') : IsInts w' v l := by
  obtain ⟨oa, cap, h1, h2, h3, h4, h5⟩ := h
  exact ⟨oa, cap, h1, h2, h3, h4, h5.ext hb⟩

theorem RowsAt.ext {w w' : World} {oa : Option Addr} {ls : List (List Int)} (h : RowsAt w oa ls) (hb : Ext w w') : RowsAt w' oa ls := by
  intro i l hl
  obtain ⟨b, off, u, ho, hlt, hc, hu⟩ := h i l hl
  exact ⟨b, off, u, ho, Nat.lt_of_lt_of_le hlt hb.size, (hb.cell (p := ⟨b, off + i, none⟩) hlt).trans hc, hu.ext hb⟩

theorem IsRows.ext {w w' : World} {v : Value} {ls : List (List Int)} (h : IsRows w v ls) (hb : Ext w w') : IsRows w' v ls := by
  obtain ⟨oa, cap, h1, h2, h3, h4, h5⟩ := h
  exact ⟨oa, cap, h1, h2, h3, h4, h5.ext hb⟩

theorem bcell {W w1 : World} (hb : Ext W w1) : (∀ b o, b < W.heap.size → w1.cell? ⟨b, o, none⟩ = W.cell? ⟨b, o, none⟩) ∧ (∀ b o, b < W.heap.size → w1.frozen? ⟨b, o, none⟩ = W.frozen? ⟨b, o, none⟩) :=
  ⟨fun b o h => hb.cell (p := ⟨b, o, none⟩) h, fun b o h => hb.frozen (p := ⟨b, o, none⟩) h⟩

theorem cell_ext {w w' : World} {p : Addr} {v : Value} (hE : Ext w w') (h : w.cell? p = some v) : w'.cell? p = some v :=
  (hE.cell (World.block_lt_of_cell? w p h)).trans h

theorem IntsAt.at {w : World} {oa : Option Addr} {l : List Int} (h : IntsAt w oa l) {k : Nat} (hk : k < l.length) :
    ∃ b off, oa = some ⟨b, off, none⟩ ∧ b < w.heap.size ∧ w.cell? ⟨b, off + k, none⟩ = some (.int .i64 l[k]) :=
  h k l[k] (by simp [hk])

theorem IntsAt.take {w : World} {oa : Option Addr} {l : List Int} (h : IntsAt w oa l) (k : Nat) : IntsAt w oa (l.take k) := by
  intro i x hx
  rw [List.getElem?_take] at hx
  split at hx
  · exact h i x hx
  · cases hx

theorem RowsAt.at {w : World} {oa : Option Addr} {ls : List (List Int)} (h : RowsAt w oa ls) {k : Nat} (hk : k < ls.length) :
    ∃ b off oa' cap', oa = some ⟨b, off, none⟩ ∧ b < w.heap.size ∧ w.cell? ⟨b, off + k, none⟩ = some (.slice oa' ls[k].length cap') ∧ ls[k].length ≤ cap' ∧ cap' ≤ maxLen ∧ (oa' = none → cap' = 0) ∧ IntsAt w oa' ls[k] := by
  obtain ⟨b, off, u, h1, h2, h3, oa', cap', rfl, h4, h5, h6, h7⟩ := h k ls[k] (by simp [hk])
  exact ⟨b, off, oa', cap', h1, h2, h3, h4, h5, h6, h7⟩

/-- An owned row of numbers is a slice of these numbers. -/
theorem isInts_of_own {w : World} {B : Nat} {e : TypeId} {v : Value} {l : List Int} (h : w.ownsRow B e 1 v l.length (l.map (Value.int .i64))) : IsInts w v l := by
  obtain ⟨h1, h2⟩ := h
  rcases h2 with ⟨rfl, h2⟩ | ⟨g, cap, cur, rfl, hb, hg, hn, hc, hs, ht⟩
  · have : l = [] := List.eq_nil_of_length_eq_zero h2
    subst this
    exact ⟨none, 0, rfl, Nat.le_refl _, by simp [maxLen], fun _ => rfl, fun i x hx => by simp at hx⟩
  · refine ⟨_, _, rfl, hn, hc, (fun h => by cases h), fun i x hx => ⟨g, 0, rfl, (Array.getElem?_eq_some_iff.1 hg).1, ?_⟩⟩
    have hx' : (l.map (Value.int .i64))[i]? = some (.int .i64 x) := by simp [hx]
    rw [← ht, List.getElem?_take] at hx'
    split at hx'
    · rw [cell_of_row w g (0 + i) cur e (0, 0) hg]; simpa using hx'
    · cases hx'

theorem isRows_of_own {w : World} {B : Nat} {e : TypeId} {v : Value} {ls : List (List Int)} {xs : List Value} (h : w.ownsRow B e 1 v ls.length xs)
    (hx : ∀ (i : Nat) (l : List Int), ls[i]? = some l → ∃ u, xs[i]? = some u ∧ IsInts w u l) : IsRows w v ls := by
  obtain ⟨h1, h2⟩ := h
  rcases h2 with ⟨rfl, h2⟩ | ⟨g, cap, cur, rfl, hb, hg, hn, hc, hs, ht⟩
  · have : ls = [] := List.eq_nil_of_length_eq_zero h2
    subst this
    exact ⟨none, 0, rfl, Nat.le_refl _, by simp [maxLen], fun _ => rfl, fun i x hx => by simp at hx⟩
  · refine ⟨_, _, rfl, hn, hc, (fun h => by cases h), fun i l hl => ?_⟩
    obtain ⟨u, hu, hul⟩ := hx i l hl
    refine ⟨g, 0, u, rfl, (Array.getElem?_eq_some_iff.1 hg).1, ?_, hul⟩
    rw [← ht, List.getElem?_take] at hu
    split at hu
    · rw [cell_of_row w g (0 + i) cur e (0, 0) hg]; simpa using hu
    · cases hu

/-- A slice of the call's own (its block from base on), of elements of one cell. -/
def Own (w : World) (base : Nat) (e : TypeId) (v : Value) (xs : List Value) : Prop := w.ownsRow base e 1 v xs.length xs

theorem Own.nil (w : World) (base : Nat) (e : TypeId) : Own w base e (.slice none 0 0) [] := World.ownsRow_nil _ _ _ _
theorem Own.ext {w w' : World} {base : Nat} {e : TypeId} {v : Value} {xs : List Value} (h : Own w base e v xs) (hE : Ext w w') : Own w' base e v xs := by
  refine ⟨h.1, ?_⟩
  rcases h.2 with h2 | ⟨g, cap, cur, hv, hb, hg, r⟩
  · exact .inl h2
  · exact .inr ⟨g, cap, cur, hv, hb, (hE.block g (Array.getElem?_eq_some_iff.1 hg).1).trans hg, r⟩
theorem Own.ints {w : World} {B : Nat} {e : TypeId} {v : Value} {l : List Int} (h : Own w B e v (l.map (Value.int .i64))) : IsInts w v l :=
  isInts_of_own (B := B) (e := e) (by unfold Own at h; rwa [List.length_map] at h)
theorem Own.slice {w : World} {B : Nat} {e : TypeId} {v : Value} {xs : List Value} (h : Own w B e v xs) : ∃ oa cap, v = .slice oa xs.length cap ∧ xs.length ≤ cap ∧ cap ≤ maxLen ∧ (oa = none → cap = 0) ∧
    ∀ (i : Nat) (u : Value), xs[i]? = some u → ∃ b, oa = some ⟨b, 0, none⟩ ∧ B ≤ b ∧ w.cell? ⟨b, i, none⟩ = some u := by
  rcases h.2 with ⟨rfl, h2⟩ | ⟨g, cap, cur, rfl, hb, hg, hn, hc, hs, ht⟩
  · have : xs = [] := List.eq_nil_of_length_eq_zero h2
    subst this
    exact ⟨none, 0, rfl, Nat.le_refl _, by simp [maxLen], fun _ => rfl, fun i u hu => by simp at hu⟩
  · refine ⟨_, _, rfl, hn, hc, (fun h => by cases h), fun i u hu => ⟨g, rfl, hb, ?_⟩⟩
    rw [← ht, List.getElem?_take] at hu
    split at hu
    · rw [cell_of_row w g i cur e (0, 0) hg]; simpa using hu
    · cases hu

/-- append of one element of one cell, to a slice of the call's own. -/
theorem wpList_app1 {P : Program} (w : World) {ops : Array Oper} {rest : List Oper} {o : Oper} {a : Act} {Q : Exit → Act → World → Prop} (hgd : o.guard = none) (s x : Operand) (t : TypeId)
    (ho : o.op = .call { callee := .builtin .append, args := #[s, x], argTypes := #[t, t] }) (e : TypeId) (ht : P.underlying t = some (.slice e)) (z : Value) (bytes : Nat)
    (hi : (P.info? e).map (fun i => (i.zero, i.size, i.bytes)) = some (some z, 1, bytes)) (hz : z.cells.size = 1) (hby : bytes ≤ 64) (base : Nat) (v : Value) (xs : List Value) (hs : a.eval s = v)
    (hown : Own w base e v xs) (b : Nat) (u : Value) (hx : a.eval x = .slice (some ⟨b, 0, none⟩) 1 1) (hc : w.cell? ⟨b, 0, none⟩ = some u) (hu : u.oneCell' = true)
    (hl : xs.length < 1000000000) (hbase : base ≤ w.heap.size)
    (h : ∀ v' w', Own w' base e v' (xs ++ [u]) → Below base w w' → w.grownBy w' v.ownBlock → wpList P ops Q rest (a.put o.dst v') w') : wpList P ops Q (o :: rest) a w := by
  obtain ⟨i, hi1, hi2, hi3, hi4⟩ := info_parts hi
  refine wpList_append_own w hgd s x t ho base e i z 1 bytes ht hi1 hi2 hi3 hi4 hz (by decide) v xs.length xs hs hown ⟨b, 0, none⟩ 1 1 [u] hx rfl ?_ ?_ ?_ ?_ hbase ?_
  · intro j u' hj
    cases j with
    | zero => simp at hj; subst hj; simpa [Addr.add] using hc
    | succ j => simp at hj
  · intro u' hu'; simp at hu'; subst hu'; exact hu
  · unfold maxLen; omega
  · have : (xs.length + 1) * bytes ≤ 1000000000 * 64 := Nat.mul_le_mul (by omega) hby
    omega
  · intro v' w' h1 h2 _
    refine h v' w' (by unfold Own; rw [List.length_append]; exact h1) ((Below.refl base w).grown h2 hbase fun k hk => (hown.lt k hk).1) h2

theorem cell_below {w w' : World} {B : Nat} {p : Addr} {v : Value} (hB : Below B w w') (hp : p.block < B) (h : w.cell? p = some v) : w'.cell? p = some v := (hB.cell hp).trans h

theorem ret_int {k : IntKind} {a b : Int} (h : a = b) : Ending.returned (.int k a) = .returned (.int k b) := by rw [h]
theorem ret_bool {a b : Bool} (h : a = b) : Ending.returned (.bool a) = .returned (.bool b) := by rw [h]

end Go.My
/- A region that draws its order, walked by a plan: what only reads is taken first; where one operation alone may come up, it is walked. No condition. -/
namespace Go.My
open Go Go.RowKit

/-- A plan: 'take i': operation i yields a value in every world at hand, and is taken first; 'only i': operation i is the only one that may come up; 'two i j', 'three i j k': one of these comes up. -/
inductive Plan where
  | done
  | take (i : Nat) (p : Plan)
  | only (i : Nat) (p : Plan)
  | two (i j : Nat) (p q : Plan)
  | three (i j k : Nat) (p q r : Plan)

def Plan.size : Plan → Nat
  | .done => 0
  | .take _ p | .only _ p => p.size + 1
  | .two _ _ p q => max p.size q.size + 1
  | .three _ _ _ p q r => max p.size (max q.size r.size) + 1

def planOk (ops : Array Oper) : Plan → Array Bool → Bool
  | .done, listed => (Region.ready .any ops listed).isEmpty
  | .take i rest, listed => Region.free .any ops listed i && (Region.ready .any ops listed).contains i && planOk ops rest (listed.setIfInBounds i true)
  | .only i rest, listed => Region.ready .any ops listed == [i] && planOk ops rest (listed.setIfInBounds i true)
  | .two i j p q, listed => Region.ready .any ops listed == [i, j] && planOk ops p (listed.setIfInBounds i true) && planOk ops q (listed.setIfInBounds j true)
  | .three i j k p q r, listed => Region.ready .any ops listed == [i, j, k] && planOk ops p (listed.setIfInBounds i true) && planOk ops q (listed.setIfInBounds j true) && planOk ops r (listed.setIfInBounds k true)

def nthOp : List Oper → Nat → Option Oper
  | o :: _, 0 => some o
  | _ :: l, i + 1 => nthOp l i
  | [], _ => none

theorem nthOp_eq (l : List Oper) (i : Nat) : nthOp l i = l[i]? := by
  induction l generalizing i with
  | nil => cases i <;> rfl
  | cons o l ih => cases i with
    | zero => rfl
    | succ i => simp [nthOp, ih]

theorem nthOp_arr {ops : Array Oper} {i : Nat} {o : Oper} (h : nthOp ops.toList i = some o) : ops[i]? = some o := by
  rw [nthOp_eq] at h; simpa using h

theorem puts : (∀ (a : Act) (d : Tmp) (v : Value), a.put (some d) v = { a with tmps := a.tmps.setIfInBounds d v }) ∧ (∀ (a : Act) (v : Value), a.put none v = a) ∧ (∀ (l : List Value) (i : Nat) (v : Value), l.toArray.setIfInBounds i v = (l.set i v).toArray) ∧
    (∀ (x : Value) (l : List Value) (v : Value), (x :: l).set 0 v = v :: l) ∧ (∀ (x : Value) (l : List Value) (i : Nat) (v : Value), (x :: l).set (i + 1) v = x :: l.set i v) :=
  ⟨fun _ _ _ => rfl, fun _ _ => rfl, fun _ _ _ => by simp, fun _ _ _ => rfl, fun _ _ _ _ => rfl⟩

def planWalk (P : Program) (ops : Array Oper) (Q : Exit → Act → World → Prop) (S : World → Prop) : Plan → Act → World → Prop
  | .done, a, w => Q .normal a w
  | .take i rest, a, w => ∃ o v, nthOp ops.toList i = some o ∧ YieldsIf P ops S o v a ∧ planWalk P ops Q S rest (a.put o.dst v) w
  | .only i rest, a, w => ∃ o, nthOp ops.toList i = some o ∧ wpList P ops (Exit.then (fun a' w' => S w' ∧ planWalk P ops Q S rest a' w') Q) [o] a w
  | .two i j p q, a, w => (∃ o, nthOp ops.toList i = some o ∧ wpList P ops (Exit.then (fun a' w' => S w' ∧ planWalk P ops Q S p a' w') Q) [o] a w) ∧
      (∃ o, nthOp ops.toList j = some o ∧ wpList P ops (Exit.then (fun a' w' => S w' ∧ planWalk P ops Q S q a' w') Q) [o] a w)
  | .three i j k p q r, a, w => (∃ o, nthOp ops.toList i = some o ∧ wpList P ops (Exit.then (fun a' w' => S w' ∧ planWalk P ops Q S p a' w') Q) [o] a w) ∧
      (∃ o, nthOp ops.toList j = some o ∧ wpList P ops (Exit.then (fun a' w' => S w' ∧ planWalk P ops Q S q a' w') Q) [o] a w) ∧
      (∃ o, nthOp ops.toList k = some o ∧ wpList P ops (Exit.then (fun a' w' => S w' ∧ planWalk P ops Q S r a' w') Q) [o] a w)

theorem wp_posts {P : Program} {o : Oper} {a : Act} {w : World} {K : Act → World → Prop} {Q Q' : Exit → Act → World → Prop} (h1 : ∀ c a w, Q' (.panic c) a w → Q (.panic c) a w)
    (h2 : LetsOut Q' → LetsOut Q) (hh : o.wp P a w K Q') : o.wp P a w K Q := by
  unfold Oper.wp at *
  generalize (execOp a.eval o).run P w = r at *
  cases r with
  | ok n w' =>
    cases n <;> simp only [Oper.upon] at hh ⊢ <;>
      first
        | exact hh
        | exact Calls.mono hh (fun e w'' he => by cases e <;> first | exact he | exact h1 _ _ _ he | exact h2 he)
  | halt x w' => cases x <;> simp only [Oper.upon] at hh ⊢ <;> exact h1 _ _ _ hh

theorem wpOp_of_list {P : Program} {ops : Array Oper} {Q : Exit → Act → World → Prop} {K : Act → World → Prop} {a : Act} {w : World} {i : Nat} {o : Oper} (ho : ops[i]? = some o)
    (hw : wpList P ops (Exit.then K Q) [o] a w) : wpOp P ops Q i K a w := by
  unfold wpOp
  simp only [ho]
  simp only [wpList] at hw
  split
  · rename_i hwt
    rw [if_pos hwt] at hw
    rcases hw with hw | hw
    · exact .inl (Oper.wp_mono (fun a' w' h => h) (wp_posts (fun _ _ _ h => h) (fun h => h) hw))
    · exact .inr ⟨hw.1, by obtain ⟨a0, w0, hq⟩ := hw.2; exact ⟨a0, w0, hq⟩⟩
  · rename_i hwt
    rw [if_neg hwt] at hw
    exact hw

theorem planWalk_sound {P : Program} {ops : Array Oper} {Q : Exit → Act → World → Prop} {S : World → Prop} (hs : Region.noSelect ops = true)
    (hQ : ∀ c a d v w, Q (.panic c) (Act.put a d v) w → Q (.panic c) a w) : ∀ (p : Plan) (listed : Array Bool) (a : Act) (w : World) (fuel : Nat),
    planOk ops p listed = true → p.size ≤ fuel → S w → planWalk P ops Q S p a w → wpAnyH P .any ops Q S fuel listed a w := by
  intro p
  induction p with
  | done =>
    intro listed a w fuel hok _ _ h
    exact wpAnyH_done (by simpa [planOk, List.isEmpty_iff] using hok) h fuel
  | take i rest ih =>
    intro listed a w fuel hok hf hS h
    cases fuel with
    | zero => simp [Plan.size] at hf
    | succ fuel =>
      simp only [planOk, Bool.and_eq_true] at hok
      obtain ⟨⟨h1, h2⟩, h3⟩ := hok
      obtain ⟨o, v, ho, hy, hr⟩ := h
      exact wpAnyH_take (nthOp_arr ho) hs h1 h2 (fun c a w => hQ c a _ _ w) hy hS (ih _ _ _ _ h3 (by simpa [Plan.size] using hf) hS hr)
  | only i rest ih =>
    intro listed a w fuel hok hf hS h
    cases fuel with
    | zero => simp [Plan.size] at hf
    | succ fuel =>
      simp only [planOk, Bool.and_eq_true, beq_iff_eq] at hok
      obtain ⟨h1, h3⟩ := hok
      obtain ⟨o, ho, hw⟩ := h
      refine wpAnyH_all h1 (by simp) ?_
      intro j hj
      simp at hj
      subst hj
      exact wpOp_mono (fun a' w' ⟨hS', h'⟩ => ⟨hS', ih _ _ _ _ h3 (by simpa [Plan.size] using hf) hS' h'⟩) (wpOp_of_list (nthOp_arr ho) hw)
  | two i j p q ihp ihq =>
    intro listed a w fuel hok hf hS h
    cases fuel with
    | zero => simp [Plan.size] at hf
    | succ fuel =>
      simp only [planOk, Bool.and_eq_true, beq_iff_eq] at hok
      obtain ⟨⟨h1, h2⟩, h3⟩ := hok
      obtain ⟨⟨o, ho, hw⟩, ⟨o', ho', hw'⟩⟩ := h
      simp only [Plan.size] at hf
      refine wpAnyH_all h1 (by simp) ?_
      intro k hk
      simp at hk
      rcases hk with rfl | rfl
      · exact wpOp_mono (fun a' w' ⟨hS', h'⟩ => ⟨hS', ihp _ _ _ _ h2 (by omega) hS' h'⟩) (wpOp_of_list (nthOp_arr ho) hw)
      · exact wpOp_mono (fun a' w' ⟨hS', h'⟩ => ⟨hS', ihq _ _ _ _ h3 (by omega) hS' h'⟩) (wpOp_of_list (nthOp_arr ho') hw')
  | three i j k p q r ihp ihq ihr =>
    intro listed a w fuel hok hf hS h
    cases fuel with
    | zero => simp [Plan.size] at hf
    | succ fuel =>
      simp only [planOk, Bool.and_eq_true, beq_iff_eq] at hok
      obtain ⟨⟨⟨h1, h2⟩, h3⟩, h4⟩ := hok
      obtain ⟨⟨o, ho, hw⟩, ⟨o', ho', hw'⟩, ⟨o'', ho'', hw''⟩⟩ := h
      simp only [Plan.size] at hf
      refine wpAnyH_all h1 (by simp) ?_
      intro n hn
      simp at hn
      rcases hn with rfl | rfl | rfl
      · exact wpOp_mono (fun a' w' ⟨hS', h'⟩ => ⟨hS', ihp _ _ _ _ h2 (by omega) hS' h'⟩) (wpOp_of_list (nthOp_arr ho) hw)
      · exact wpOp_mono (fun a' w' ⟨hS', h'⟩ => ⟨hS', ihq _ _ _ _ h3 (by omega) hS' h'⟩) (wpOp_of_list (nthOp_arr ho') hw')
      · exact wpOp_mono (fun a' w' ⟨hS', h'⟩ => ⟨hS', ihr _ _ _ _ h4 (by omega) hS' h'⟩) (wpOp_of_list (nthOp_arr ho'') hw'')

/-- The beginning. -/
theorem wp_region_plan {P : Program} {ops : Array Oper} {Q : Exit → Act → World → Prop} {id : Nat} {a : Act} {w : World} (p : Plan) (S : World → Prop) (hm : P.follows .mixedOrders = true)
    (hs : Region.noSelect ops = true) (hp : planOk ops p (Array.replicate ops.size false) = true) (hl : p.size = ops.size)
    (hQ : ∀ c a d v w, Q (.panic c) (Act.put a d v) w → Q (.panic c) a w) (hS : S w.drew) (h : planWalk P ops Q S p a w.drew) : (Code.region id ops true).wp P Q a w :=
  wp_region_held (S := S) hm (planWalk_sound hs hQ p _ a _ _ hp (by omega) hS h)

section
variable {P : Program} {ops : Array Oper} {Q : Exit → Act → World → Prop} {S : World → Prop} {rest : Plan} {a : Act} {w : World}
theorem plan_take {i : Nat} {o : Oper} {v : Value} (ho : nthOp ops.toList i = some o) (hw : Region.wanted o (yielded ops a.tmps) = true) (hr : ∀ w, S w → (execOp a.eval o).run P w = .ok (.value v) w)
    (h : planWalk P ops Q S rest (a.put o.dst v) w) : planWalk P ops Q S (.take i rest) a w := ⟨o, v, ho, .inl ⟨hw, hr⟩, h⟩
theorem plan_skip {i : Nat} {o : Oper} (ho : nthOp ops.toList i = some o) (hw : Region.wanted o (yielded ops a.tmps) = false)
    (h : planWalk P ops Q S rest (a.put o.dst undef) w) : planWalk P ops Q S (.take i rest) a w := ⟨o, undef, ho, .inr ⟨hw, rfl⟩, h⟩
theorem plan_walk {i : Nat} {o : Oper} (ho : nthOp ops.toList i = some o) (h : ∀ K : Act → World → Prop, (∀ a' w', S w' → planWalk P ops Q S rest a' w' → K a' w') → wpList P ops (Exit.then K Q) [o] a w) :
    planWalk P ops Q S (.only i rest) a w := ⟨o, ho, h _ fun _ _ h1 h2 => ⟨h1, h2⟩⟩
theorem plan_two {i j : Nat} {p q : Plan} {o o' : Oper} (ho : nthOp ops.toList i = some o) (ho' : nthOp ops.toList j = some o')
    (h : ∀ K : Act → World → Prop, (∀ a' w', S w' → planWalk P ops Q S p a' w' → K a' w') → wpList P ops (Exit.then K Q) [o] a w)
    (h' : ∀ K : Act → World → Prop, (∀ a' w', S w' → planWalk P ops Q S q a' w' → K a' w') → wpList P ops (Exit.then K Q) [o'] a w) :
    planWalk P ops Q S (.two i j p q) a w := ⟨⟨o, ho, h _ fun _ _ h1 h2 => ⟨h1, h2⟩⟩, ⟨o', ho', h' _ fun _ _ h1 h2 => ⟨h1, h2⟩⟩⟩
theorem plan_three {i j k : Nat} {p q r : Plan} {o o' o'' : Oper} (ho : nthOp ops.toList i = some o) (ho' : nthOp ops.toList j = some o') (ho'' : nthOp ops.toList k = some o'')
    (h : ∀ K : Act → World → Prop, (∀ a' w', S w' → planWalk P ops Q S p a' w' → K a' w') → wpList P ops (Exit.then K Q) [o] a w)
    (h' : ∀ K : Act → World → Prop, (∀ a' w', S w' → planWalk P ops Q S q a' w' → K a' w') → wpList P ops (Exit.then K Q) [o'] a w)
    (h'' : ∀ K : Act → World → Prop, (∀ a' w', S w' → planWalk P ops Q S r a' w' → K a' w') → wpList P ops (Exit.then K Q) [o''] a w) :
    planWalk P ops Q S (.three i j k p q r) a w := ⟨⟨o, ho, h _ fun _ _ h1 h2 => ⟨h1, h2⟩⟩, ⟨o', ho', h' _ fun _ _ h1 h2 => ⟨h1, h2⟩⟩, ⟨o'', ho'', h'' _ fun _ _ h1 h2 => ⟨h1, h2⟩⟩⟩
theorem plan_done (h : Q .normal a w) : planWalk P ops Q S .done a w := h
end
end Go.My
/- A plan whose branches meet again: what holds behind all of them is said once. No condition. -/
namespace Go.My
open Go Go.RowKit

section
variable {P : Program} {ops : Array Oper} {Q : Exit → Act → World → Prop} {S : World → Prop}
theorem then_then (K R Q : Act → World → Prop) (Q0 : Exit → Act → World → Prop) : Exit.then K (Exit.then R Q0) = Exit.then K (Exit.then Q Q0) := by
  funext e a w; cases e <;> rfl
theorem wpList_one_mono {K K' : Act → World → Prop} {o : Oper} {a : Act} {w : World} (hk : ∀ a w, K a w → K' a w) (hw : wpList P ops (Exit.then K Q) [o] a w) : wpList P ops (Exit.then K' Q) [o] a w := by
  simp only [wpList] at hw ⊢
  split
  · rename_i hwt
    rw [if_pos hwt] at hw
    rcases hw with hw | hw
    · exact .inl (Oper.wp_mono hk (wp_posts (fun _ _ _ h => h) (fun h => h) hw))
    · exact .inr ⟨hw.1, by obtain ⟨a0, w0, hq⟩ := hw.2; exact ⟨a0, w0, hq⟩⟩
  · rename_i hwt
    rw [if_neg hwt] at hw
    exact hk _ _ hw
theorem plan_meet {R next : Act → World → Prop} {Q0 : Exit → Act → World → Prop} (h2 : ∀ a' w', R a' w' → next a' w') : ∀ (p : Plan) (a : Act) (w : World), planWalk P ops (Exit.then R Q0) S p a w → planWalk P ops (Exit.then next Q0) S p a w := by
  intro p
  induction p with
  | done => intro a w h; exact h2 _ _ h
  | take i rest ih =>
    intro a w h
    obtain ⟨o, v, ho, hy, hr⟩ := h
    exact ⟨o, v, ho, hy, ih _ _ hr⟩
  | only i rest ih =>
    intro a w h
    obtain ⟨o, ho, hw⟩ := h
    refine ⟨o, ho, ?_⟩
    rw [then_then _ next R Q0]
    exact wpList_one_mono (fun a' w' k => ⟨k.1, ih _ _ k.2⟩) hw
  | two i j p q ihp ihq =>
    intro a w h
    obtain ⟨⟨o, ho, hw⟩, ⟨o', ho', hw'⟩⟩ := h
    refine ⟨⟨o, ho, ?_⟩, ⟨o', ho', ?_⟩⟩
    · rw [then_then _ next R Q0]; exact wpList_one_mono (fun a' w' k => ⟨k.1, ihp _ _ k.2⟩) hw
    · rw [then_then _ next R Q0]; exact wpList_one_mono (fun a' w' k => ⟨k.1, ihq _ _ k.2⟩) hw'
  | three i j k p q r ihp ihq ihr =>
    intro a w h
    obtain ⟨⟨o, ho, hw⟩, ⟨o', ho', hw'⟩, ⟨o'', ho'', hw''⟩⟩ := h
    refine ⟨⟨o, ho, ?_⟩, ⟨o', ho', ?_⟩, ⟨o'', ho'', ?_⟩⟩
    · rw [then_then _ next R Q0]; exact wpList_one_mono (fun a' w' k => ⟨k.1, ihp _ _ k.2⟩) hw
    · rw [then_then _ next R Q0]; exact wpList_one_mono (fun a' w' k => ⟨k.1, ihq _ _ k.2⟩) hw'
    · rw [then_then _ next R Q0]; exact wpList_one_mono (fun a' w' k => ⟨k.1, ihr _ _ k.2⟩) hw''
theorem plan_share {Q0 : Exit → Act → World → Prop} {next : Act → World → Prop} {p : Plan} {a : Act} {w : World} (R : Act → Act → World → Prop) (h1 : planWalk P ops (Exit.then (R a) Q0) S p a w) (h2 : ∀ a' w', R a a' w' → next a' w') : planWalk P ops (Exit.then next Q0) S p a w :=
  plan_meet h2 p a w h1
theorem plan_met {Q0 : Exit → Act → World → Prop} {R : Act → World → Prop} {a : Act} {w : World} (h : R a w) : planWalk P ops (Exit.then R Q0) S .done a w := h
end
end Go.My
/- A region that draws its order and calls into a round, walked by a plan. No condition. -/
namespace Go.My
open Go Go.RowKit

section
variable {n : Nat} {P : Program} {ops : Array Oper} {Q : Exit → Act → World → Prop} {S : World → Prop}

/-- In every world with S the operation gives v, and no more. -/
structure Gives (P : Program) (ops : Array Oper) (S : World → Prop) (o : Oper) (v : Value) (a : Act) : Prop where
  or : (Region.wanted o (yielded ops a.tmps) = true ∧ ∀ w, S w → (execOp a.eval o).run P w = .ok (.value v) w) ∨ (Region.wanted o (yielded ops a.tmps) = false ∧ v = undef)
theorem Gives.move {o : Oper} {v u : Value} {a : Act} {d : Option Tmp} (h : Gives P ops S o v a) (hs : ∀ cs b, o.op ≠ .select cs b) (hd : ∀ t, d = some t → t ∉ o.looksAt ops) : Gives P ops S o v (a.put d u) :=
  ⟨h.or.imp (fun k => ⟨(wanted_put o a d u hd).trans k.1, fun w hw => by rw [execOp_put o hs a d u hd]; exact k.2 w hw⟩) (fun k => ⟨(wanted_put o a d u hd).trans k.1, k.2⟩)⟩
theorem Gives.op {i : Nat} {o : Oper} {v : Value} {a : Act} {K : Act → World → Prop} {w : World} (h : Gives P ops S o v a) (hi : ops[i]? = some o) (hS : S w) (hK : K (a.put o.dst v) w) : wpOpIn Fence.wide n P ops Q i K a w := by
  unfold wpOpIn
  rcases h.or with ⟨h1, h2⟩ | ⟨h1, rfl⟩
  · simp only [hi, h1, if_true]
    refine ⟨fun _ _ => trivial, ?_⟩
    rw [show Fence.wide.round = none from rfl, Oper.semAt_none, h2 w hS]
    exact hK
  · simp only [hi, h1]
    exact ⟨fun _ _ => trivial, hK⟩

/-- What has no part in operation i may be done behind it. -/
theorem op_behind {j : Nat} {x y : Oper} {v : Value} {K : Act → World → Prop} {a : Act} {w : World} (hy : ops[j]? = some y) (hap : x.apart ops y = true) (hsx : ∀ cs b, x.op ≠ .select cs b) (hsy : ∀ cs b, y.op ≠ .select cs b)
    (hQ : ∀ c a w, Q (.panic c) (a.put x.dst v) w → Q (.panic c) a w) (hg : Gives P ops S x v a) (h : wpOpIn Fence.wide n P ops Q j K (a.put x.dst v) w) :
    wpOpIn Fence.wide n P ops Q j (fun a' w' => Gives P ops S x v a' ∧ K (a'.put x.dst v) w') a w := by
  obtain ⟨p1, p2, p3⟩ := Oper.apart_spec hap
  have sw : ∀ (u : Value) (w' : World), K ((a.put x.dst v).put y.dst u) w' → Gives P ops S x v (a.put y.dst u) ∧ K ((a.put y.dst u).put x.dst v) w' := fun u w' hk =>
    ⟨hg.move hsx p3, by rw [← Act.put_comm a v u p2]; exact hk⟩
  unfold wpOpIn at *
  simp only [hy] at *
  rw [wanted_put y a x.dst v p1] at h
  by_cases hw : Region.wanted y (yielded ops a.tmps) = true
  · rw [if_pos hw] at h ⊢
    refine ⟨fun _ _ => trivial, ?_⟩
    have h2 := h.2
    rw [show Fence.wide.round = none from rfl, Oper.semAt_none, execOp_put y hsy a x.dst v p1] at h2
    rw [show Fence.wide.round = none from rfl, Oper.semAt_none]
    cases hr : (execOp a.eval y).run P w with
    | halt s w' =>
      rw [hr] at h2
      cases s <;> first | exact h2 | exact hQ _ _ _ h2
    | ok nx w' =>
      rw [hr] at h2
      cases nx with
      | value u => exact sw u w' h2
      | skip => exact sw undef w' h2
      | defer d =>
        have hg' : Gives P ops S x v { a with defers := d :: a.defers } := ⟨hg.or⟩
        refine ⟨hg'.move hsx p3, ?_⟩
        simp only [Oper.uponIn] at h2
        rw [Act.put_defers] at h2
        rw [← Act.put_comm _ v undef p2]
        exact h2
      | enter f args =>
        refine ⟨h2.1, CallsIn.mono h2.2 fun e w'' he => ?_⟩
        cases e with
        | returned u => exact sw u w'' he
        | panicked c => exact hQ _ _ _ he
        | outgrown => exact he
      | row r args => exact ⟨h2.1, RowsIn.mono h2.2 fun u w'' he => sw u w'' he⟩
      | round l f tmps assign body =>
        refine ⟨h2.1, RoundIn.mono h2.2 fun e w'' he => ?_⟩
        cases e with
        | returned u => exact sw u w'' he
        | panicked c => exact hQ _ _ _ he
        | outgrown => exact he
      | _ => exact h2
  · rw [if_neg hw] at h ⊢
    exact ⟨fun _ _ => trivial, sw undef w h.2⟩

/-- Whatever comes up next, S holds behind it. -/
def anyW (n : Nat) (P : Program) (ops : Array Oper) (Q : Exit → Act → World → Prop) (S : World → Prop) : Nat → Array Bool → Act → World → Prop
  | 0, l, a, w => Region.ready .any ops l = [] ∧ Q .normal a w
  | f + 1, l, a, w => (Region.ready .any ops l = [] → Q .normal a w) ∧ ∀ i ∈ Region.ready .any ops l, wpOpIn Fence.wide n P ops Q i (fun a' w' => S w' ∧ anyW n P ops Q S f (l.setIfInBounds i true) a' w') a w
theorem anyW_plain : ∀ (f : Nat) (l : Array Bool) (a : Act) (w : World), anyW n P ops Q S f l a w → wpAnyIn Fence.wide n P .any ops Q f l a w
  | 0, _, _, _, h => h
  | f + 1, _, _, _, h => ⟨h.1, fun i hi => wpOpIn_mono (fun a' w' k => anyW_plain f _ a' w' k.2) (h.2 i hi)⟩
theorem anyW_lead {i : Nat} {x : Oper} {v : Value} (hi : ops[i]? = some x) (hs : Region.noSelect ops = true) (hQ : ∀ c a w, Q (.panic c) (a.put x.dst v) w → Q (.panic c) a w) :
    ∀ (f : Nat) (l : Array Bool) (a : Act) (w : World), (∀ j y, ops[j]? = some y → j ≠ i → l.getD j true = false → (∀ e ∈ y.after, Region.binds .any e = true → e.on ≠ i) → x.apart ops y = true) →
      i ∈ Region.ready .any ops l → Gives P ops S x v a → S w → anyW n P ops Q S f (l.setIfInBounds i true) (a.put x.dst v) w → anyW n P ops Q S (f + 1) l a w := by
  intro f
  induction f with
  | zero =>
    intro l a w _ hr hg hS h
    refine ⟨fun h0 => by rw [h0] at hr; (cases hr), fun j hj => ?_⟩
    rcases Nat.decEq j i with hne | rfl
    · have := ready_mono hj hne
      rw [h.1] at this; (cases this)
    · exact hg.op hi hS ⟨hS, h⟩
  | succ f ih =>
    intro l a w hfree hr hg hS h
    refine ⟨fun h0 => by rw [h0] at hr; (cases hr), fun j hj => ?_⟩
    rcases Nat.decEq j i with hne | rfl
    · obtain ⟨hun, y, hy, hall⟩ := mem_ready.1 hj
      have hoff : ∀ e ∈ y.after, Region.binds .any e = true → e.on ≠ i := fun e he hb heq => by
        have g1 := hall e he hb
        have g0 := (mem_ready.1 hr).1
        rw [heq] at g1
        simp only [Array.getD_eq_getD_getElem?] at g0 g1
        cases hh : l[i]? with
        | none => rw [hh] at g1; simp at g1
        | some b => rw [hh] at g0 g1; simp at g0 g1; rw [g0] at g1; cases g1
      refine wpOpIn_mono (fun a' w' k => ⟨k.2.1, ih (l.setIfInBounds j true) a' w' (fun q z hz hqi hqu hqn => ?_) (ready_mono hr (Ne.symm hne)) k.1 k.2.1 ?_⟩)
        (op_behind hy (hfree j y hy hne hun hoff) (fun cs b => Region.noSelect_spec hs i x cs b hi) (fun cs b => Region.noSelect_spec hs j y cs b hy) hQ hg (h.2 j (ready_mono hj hne)))
      · rcases Nat.decEq j q with hjq | rfl
        · exact hfree q z hz hqi (by rwa [getD_set_ne true hjq] at hqu) hqn
        · exact hfree _ z hz hqi hun hqn
      · rw [Array.setIfInBounds_comm _ _ hne]; exact k.2.2
    · exact hg.op hi hS ⟨hS, h⟩

def planWalkIn (n : Nat) (P : Program) (ops : Array Oper) (Q : Exit → Act → World → Prop) (S : World → Prop) : Plan → Act → World → Prop
  | .done, a, w => Q .normal a w
  | .take i rest, a, w => ∃ o v, nthOp ops.toList i = some o ∧ Gives P ops S o v a ∧ planWalkIn n P ops Q S rest (a.put o.dst v) w
  | .only i rest, a, w => ∃ o, nthOp ops.toList i = some o ∧ wpListIn Fence.wide n P ops (Exit.then (fun a' w' => S w' ∧ planWalkIn n P ops Q S rest a' w') Q) [o] a w
  | .two i j p q, a, w => (∃ o, nthOp ops.toList i = some o ∧ wpListIn Fence.wide n P ops (Exit.then (fun a' w' => S w' ∧ planWalkIn n P ops Q S p a' w') Q) [o] a w) ∧
      (∃ o, nthOp ops.toList j = some o ∧ wpListIn Fence.wide n P ops (Exit.then (fun a' w' => S w' ∧ planWalkIn n P ops Q S q a' w') Q) [o] a w)
  | .three _ _ _ _ _ _, _, _ => False

theorem wpIn_post {o : Oper} {a : Act} {w : World} {K : Act → World → Prop} (h : o.wpIn Fence.wide n P a w K (Exit.then K Q)) (hl : LetsOut (Exit.then K Q) → LetsOut Q) : o.wpIn Fence.wide n P a w K Q := by
  refine ⟨h.1, ?_⟩
  have h2 := h.2
  cases hr : (o.semAt Fence.wide.round a.eval).run P w with
  | halt s w' => rw [hr] at h2; cases s <;> exact h2
  | ok nx w' =>
    rw [hr] at h2
    cases nx with
    | enter f args => exact ⟨h2.1, CallsIn.mono h2.2 fun e w'' he => by cases e <;> first | exact he | exact hl he⟩
    | round l f tmps assign body => exact ⟨h2.1, RoundIn.mono h2.2 fun e w'' he => by cases e <;> first | exact he | exact hl he⟩
    | _ => exact h2
theorem op_of_list {i : Nat} {o : Oper} {K : Act → World → Prop} {a : Act} {w : World} (ho : ops[i]? = some o) (hl : LetsOut (Exit.then K Q) → LetsOut Q) (h : wpListIn Fence.wide n P ops (Exit.then K Q) [o] a w) : wpOpIn Fence.wide n P ops Q i K a w := by
  unfold wpOpIn
  simp only [ho]
  simp only [wpListIn] at h
  by_cases hw : Region.wanted o (yielded ops a.tmps) = true
  · rw [if_pos hw] at h ⊢
    exact wpIn_post h hl
  · rw [if_neg hw] at h ⊢
    exact h
theorem planWalkIn_sound (hs : Region.noSelect ops = true) (hQ : ∀ c a d v w, Q (.panic c) (Act.put a d v) w → Q (.panic c) a w) (hl : ∀ K, LetsOut (Exit.then K Q) → LetsOut Q) : ∀ (p : Plan) (l : Array Bool) (a : Act) (w : World) (f : Nat),
    planOk ops p l = true → p.size ≤ f → S w → planWalkIn n P ops Q S p a w → anyW n P ops Q S f l a w := by
  intro p
  induction p with
  | done =>
    intro l a w f hok _ _ h
    have he : Region.ready .any ops l = [] := by simpa [planOk, List.isEmpty_iff] using hok
    cases f with
    | zero => exact ⟨he, h⟩
    | succ f => exact ⟨fun _ => h, by rw [he]; intro i hi; cases hi⟩
  | take i rest ih =>
    intro l a w f hok hf hS h
    cases f with
    | zero => simp [Plan.size] at hf
    | succ f =>
      simp only [planOk, Bool.and_eq_true] at hok
      obtain ⟨⟨q1, q2⟩, q3⟩ := hok
      obtain ⟨o, v, ho, hg, hr⟩ := h
      exact anyW_lead (nthOp_arr ho) hs (fun c a w => hQ c a _ _ w) f l a w (Region.free_spec (nthOp_arr ho) q1) (by simpa using q2) hg hS (ih _ _ _ _ q3 (by simpa [Plan.size] using hf) hS hr)
  | only i rest ih =>
    intro l a w f hok hf hS h
    cases f with
    | zero => simp [Plan.size] at hf
    | succ f =>
      simp only [planOk, Bool.and_eq_true, beq_iff_eq] at hok
      obtain ⟨q1, q3⟩ := hok
      obtain ⟨o, ho, hw⟩ := h
      refine ⟨fun h0 => by rw [h0] at q1; (cases q1), fun j hj => ?_⟩
      rw [q1] at hj
      obtain rfl : j = i := by simpa using hj
      exact wpOpIn_mono (fun a' w' k => ⟨k.1, ih _ _ _ _ q3 (by simpa [Plan.size] using hf) k.1 k.2⟩) (op_of_list (nthOp_arr ho) (hl _) hw)
  | two i j p q ihp ihq =>
    intro l a w f hok hf hS h
    cases f with
    | zero => simp [Plan.size] at hf
    | succ f =>
      simp only [planOk, Bool.and_eq_true, beq_iff_eq] at hok
      obtain ⟨⟨q1, q2⟩, q3⟩ := hok
      obtain ⟨⟨o, ho, hw⟩, ⟨o', ho', hw'⟩⟩ := h
      simp only [Plan.size] at hf
      refine ⟨fun h0 => by rw [h0] at q1; (cases q1), fun k hk => ?_⟩
      rw [q1] at hk
      rcases (by simpa using hk : k = i ∨ k = j) with rfl | rfl
      · exact wpOpIn_mono (fun a' w' k => ⟨k.1, ihp _ _ _ _ q2 (by omega) k.1 k.2⟩) (op_of_list (nthOp_arr ho) (hl _) hw)
      · exact wpOpIn_mono (fun a' w' k => ⟨k.1, ihq _ _ _ _ q3 (by omega) k.1 k.2⟩) (op_of_list (nthOp_arr ho') (hl _) hw')
  | three i j k p q r ihp ihq ihr =>
    intro l a w f hok hf hS h
    exact h.elim

/-- The beginning. -/
theorem wpIn_region_plan {id : Nat} {a : Act} {w : World} (p : Plan) (S : World → Prop) (hm : P.follows .mixedOrders = true) (hs : Region.noSelect ops = true) (hp : planOk ops p (Array.replicate ops.size false) = true) (hz : p.size = ops.size)
    (hQ : ∀ c a d v w, Q (.panic c) (Act.put a d v) w → Q (.panic c) a w) (hl : ∀ K, LetsOut (Exit.then K Q) → LetsOut Q) (hS : S w.drew) (h : planWalkIn n P ops Q S p a w.drew) : (Code.region id ops true).wpIn Fence.wide n P Q a w :=
  wpIn_region_any hm (anyW_plain _ _ _ _ (planWalkIn_sound hs hQ hl p _ a _ _ hp (by omega) hS h))
end

section
variable {n : Nat} {P : Program} {ops : Array Oper} {Q : Exit → Act → World → Prop} {S : World → Prop} {rest : Plan} {a : Act} {w : World}
theorem planIn_take {i : Nat} {o : Oper} {v : Value} (ho : nthOp ops.toList i = some o) (hw : Region.wanted o (yielded ops a.tmps) = true) (hr : ∀ w, S w → (execOp a.eval o).run P w = .ok (.value v) w)
    (h : planWalkIn n P ops Q S rest (a.put o.dst v) w) : planWalkIn n P ops Q S (.take i rest) a w := ⟨o, v, ho, ⟨.inl ⟨hw, hr⟩⟩, h⟩
theorem planIn_skip {i : Nat} {o : Oper} (ho : nthOp ops.toList i = some o) (hw : Region.wanted o (yielded ops a.tmps) = false) (h : planWalkIn n P ops Q S rest (a.put o.dst undef) w) : planWalkIn n P ops Q S (.take i rest) a w := ⟨o, undef, ho, ⟨.inr ⟨hw, rfl⟩⟩, h⟩
theorem planIn_walk {i : Nat} {o : Oper} (ho : nthOp ops.toList i = some o) (h : ∀ K : Act → World → Prop, (∀ a' w', S w' → planWalkIn n P ops Q S rest a' w' → K a' w') → wpListIn Fence.wide n P ops (Exit.then K Q) [o] a w) :
    planWalkIn n P ops Q S (.only i rest) a w := ⟨o, ho, h _ fun _ _ h1 h2 => ⟨h1, h2⟩⟩
theorem planIn_two {i j : Nat} {p q : Plan} {o o' : Oper} (ho : nthOp ops.toList i = some o) (ho' : nthOp ops.toList j = some o')
    (h : ∀ K : Act → World → Prop, (∀ a' w', S w' → planWalkIn n P ops Q S p a' w' → K a' w') → wpListIn Fence.wide n P ops (Exit.then K Q) [o] a w)
    (h' : ∀ K : Act → World → Prop, (∀ a' w', S w' → planWalkIn n P ops Q S q a' w' → K a' w') → wpListIn Fence.wide n P ops (Exit.then K Q) [o'] a w) :
    planWalkIn n P ops Q S (.two i j p q) a w := ⟨⟨o, ho, h _ fun _ _ h1 h2 => ⟨h1, h2⟩⟩, ⟨o', ho', h' _ fun _ _ h1 h2 => ⟨h1, h2⟩⟩⟩
theorem planIn_done (h : Q .normal a w) : planWalkIn n P ops Q S .done a w := h
end
end Go.My
/- A region that draws its order in a round's body, walked by a plan as outside of a round. No condition. -/
namespace Go.My
open Go Go.RowKit

section
variable {n ro : Nat} {P : Program} {ops : Array Oper} {Q : Exit → Act → World → Prop} {S : World → Prop}
def noDefer (ops : Array Oper) : Bool := ops.all fun o => match o.op with | .defer _ => false | _ => true
theorem noDefer_spec (h : noDefer ops = true) (j : Nat) (o : Oper) (ho : ops[j]? = some o) : ∀ c, o.op ≠ .defer c := by
  intro c heq
  have := Array.all_eq_true_iff_forall_mem.1 h o (Array.mem_of_getElem? ho)
  rw [heq] at this
  cases this
theorem wpOpIn_round (hd : noDefer ops = true) {i : Nat} {K : Act → World → Prop} {a : Act} {w : World} (h : wpOpIn Fence.wide n P ops Q i K a w) : wpOpIn (Fence.wide.inRound ro) n P ops Q i K a w := by
  unfold wpOpIn at *
  cases ho : ops[i]? with
  | none => rw [ho] at h; exact h
  | some o =>
    rw [ho] at h
    simp only at h ⊢
    have hn := noDefer_spec hd i o ho
    split
    · rename_i hw
      rw [if_pos hw] at h
      refine ⟨h.1, ?_⟩
      have h2 := h.2
      rw [Oper.semAt_eq _ _ _ hn] at h2 ⊢
      exact h2
    · rename_i hw
      rw [if_neg hw] at h
      exact h
theorem anyW_round (hd : noDefer ops = true) : ∀ (f : Nat) (l : Array Bool) (a : Act) (w : World), anyW n P ops Q S f l a w → wpAnyIn (Fence.wide.inRound ro) n P .any ops Q f l a w
  | 0, _, _, _, h => h
  | f + 1, _, _, _, h => ⟨h.1, fun i hi => wpOpIn_round hd (wpOpIn_mono (fun a' w' k => anyW_round hd f _ a' w' k.2) (h.2 i hi))⟩
/-- The beginning. -/
theorem wpIn_region_planR {id : Nat} {a : Act} {w : World} (p : Plan) (S : World → Prop) (hm : P.follows .mixedOrders = true) (hs : Region.noSelect ops = true) (hp : planOk ops p (Array.replicate ops.size false) = true) (hz : p.size = ops.size)
    (hQ : ∀ c a d v w, Q (.panic c) (Act.put a d v) w → Q (.panic c) a w) (hl : ∀ K, LetsOut (Exit.then K Q) → LetsOut Q) (hS : S w.drew) (hd : noDefer ops = true) (h : planWalkIn n P ops Q S p a w.drew) : (Code.region id ops true).wpIn (Fence.wide.inRound ro) n P Q a w :=
  wpIn_region_any hm (anyW_round hd _ _ _ _ (planWalkIn_sound hs hQ hl p _ a _ _ hp (by omega) hS h))
/-- A piece of code that does not give up. -/
theorem wp_calm {c : Code} {K : Act → World → Prop} {a : Act} {w : World} (h : c.wp P (Exit.then K (fun _ _ _ => False)) a w) : c.wp P (Exit.then K Q) a w :=
  Code.wp_mono (fun e a w h => by cases e <;> first | exact h | exact h.elim) h
end
end Go.My
/- append of one element: the row is the old one, or new. No condition. -/
namespace Go.My
open Go Go.RowKit

theorem run_app1 {P : Program} (w : World) (base : Nat) (t ty e : TypeId) (i : TypeInfo) (z : Value) (bytes : Nat) (ht : P.underlying t = some (.slice e)) (hi : P.info? e = some i) (hz : i.zero = some z) (hs : i.size = 1) (hb : i.bytes = bytes) (hzs : z.cells.size = 1)
    (v : Value) (xs : List Value) (hown : Own w base e v xs) (ad : Addr) (c : Nat) (u : Value) (hc : ∀ j x, [u][j]? = some x → w.cell? (ad.add j) = some x) (hu : ∀ x ∈ [u], x.oneCell' = true) (hm : xs.length + 1 ≤ maxLen) (hby : (xs.length + 1) * bytes ≤ 140737488355328) (hbase : base ≤ w.heap.size) :
    ∃ v' w', (Builtin.append_ #[t, t] ty #[v, .slice (some ad) 1 c]).run P w = .ok v' w' ∧ Own w' base e v' (xs ++ [u]) ∧ w.grownBy w' v.ownBlock ∧ (v'.ownBlock = v.ownBlock ∨ ∀ b, v'.ownBlock = some b → w.heap.size ≤ b) := by
  have hx1 : (xs ++ [u]).length = xs.length + 1 := by simp
  obtain ⟨v', w', h1, h2, h3, _⟩ := run_append_own (P := P) w base t ty e i z 1 bytes ht hi hz hs hb hzs (by decide) v xs.length xs hown ad 1 c [u] rfl hc hu hm hby hbase
  refine ⟨v', w', h1, by unfold Own; rw [hx1]; exact h2, h3, ?_⟩
  rcases hown.2 with ⟨rfl, h0⟩ | ⟨g, cap, cur, rfl, hg, hh, hn, hcm, hcs, htk⟩
  · have hx0 : xs = [] := List.eq_nil_of_length_eq_zero h0
    subst hx0
    obtain ⟨v2, w2, k1, k2, _, _⟩ := run_append_own (P := P) w w.heap.size t ty e i z 1 bytes ht hi hz hs hb hzs (by decide) (.slice none 0 0) 0 [] (World.ownsRow_nil _ _ _ _) ad 1 c [u] rfl hc hu (by simpa using hm) (by simpa using hby) (Nat.le_refl _)
    rw [k1] at h1
    cases h1
    exact .inr fun b hb => (k2.lt b hb).1
  · by_cases hr : xs.length + 1 ≤ cap
    · obtain ⟨w2, k1, _, _⟩ := run_append_fits (P := P) w base t ty e i 1 ht hi hs g xs.length cap xs hown ad 1 c [u] rfl hc hu hr
      rw [k1] at h1
      cases h1
      exact .inl rfl
    · obtain ⟨v2, w2, k1, k2, _⟩ := run_append_arg_grows (P := P) w t ty e i z 1 bytes ht hi hz hs hb hzs (by decide) ⟨g, 0, none⟩ xs.length cap xs (by rw [Nat.mul_one]) (hown.cells (g := g) rfl) ad 1 c [u] rfl hc (by omega) hm hby
      rw [k1] at h1
      cases h1
      exact .inr fun b hb => (k2.lt b hb).1

theorem wpList_app1n {P : Program} (w : World) {ops : Array Oper} {rest : List Oper} {o : Oper} {a : Act} {Q : Exit → Act → World → Prop} (hgd : o.guard = none) (s x : Operand) (t : TypeId)
    (ho : o.op = .call { callee := .builtin .append, args := #[s, x], argTypes := #[t, t] }) (e : TypeId) (ht : P.underlying t = some (.slice e)) (z : Value) (bytes : Nat)
    (hi : (P.info? e).map (fun i => (i.zero, i.size, i.bytes)) = some (some z, 1, bytes)) (hz : z.cells.size = 1) (hby : bytes ≤ 64) (base : Nat) (v : Value) (xs : List Value) (hs : a.eval s = v)
    (hown : Own w base e v xs) (b : Nat) (u : Value) (hx : a.eval x = .slice (some ⟨b, 0, none⟩) 1 1) (hc : w.cell? ⟨b, 0, none⟩ = some u) (hu : u.oneCell' = true)
    (hl : xs.length < 1000000000) (hbase : base ≤ w.heap.size)
    (h : ∀ v' w', Own w' base e v' (xs ++ [u]) → Below base w w' → w.grownBy w' v.ownBlock → (v'.ownBlock = v.ownBlock ∨ ∀ b, v'.ownBlock = some b → w.heap.size ≤ b) → wpList P ops Q rest (a.put o.dst v') w') : wpList P ops Q (o :: rest) a w := by
  obtain ⟨i, hi1, hi2, hi3, hi4⟩ := info_parts hi
  have hb : (xs.length + 1) * bytes ≤ 1000000000 * 64 := Nat.mul_le_mul (by omega) hby
  obtain ⟨v', w', hr, h1, h2, h3⟩ := run_app1 (P := P) w base t o.type e i z bytes ht hi1 hi2 hi3 hi4 hz v xs hown ⟨b, 0, none⟩ 1 u (fun j x hj => by
      cases j with
      | zero => simp at hj; subst hj; simpa [Addr.add] using hc
      | succ j => simp at hj) (fun x hx => by simp at hx; subst hx; exact hu) (by unfold maxLen; omega) (by omega) hbase
  refine wpList_plain hgd fun K hK => ?_
  unfold Oper.wp execOp
  simp only [ho, resolve, invoke, builtin, Sem.run_bind, Sem.run_pure, Result.andThen_ok, List.map_toArray, List.map_cons, List.map_nil, hs, hx, hr]
  exact hK _ _ (h v' w' h1 ((Below.refl base w).grown h2 hbase fun k hk => (hown.lt k hk).1) h2 h3)

end Go.My
/- Boxes that are written: what else stays. Results laid in cells. No condition. -/
namespace Go.Proofs.Ytdmegfbeibbmfaa
open Go.RowKit Go.My

abbrev Turned (b : Nat) (w w' : World) : Prop := w.grownBy w' (some b)
theorem Turned.refl (b : Nat) (w : World) : Turned b w w := ⟨rfl, rfl, rfl, Nat.le_refl _, fun _ _ _ => rfl⟩
theorem Turned.trans {b : Nat} {w w1 w2 : World} (h : Turned b w w1) (k : Turned b w1 w2) : Turned b w w2 :=
  ⟨k.os.trans h.os, k.tape.trans h.tape, k.output.trans h.output, Nat.le_trans h.size k.size, fun i hi hne => (k.block i (Nat.lt_of_lt_of_le hi h.size) hne).trans (h.block i hi hne)⟩
theorem Turned.of_ext {b : Nat} {w w' : World} (h : Ext w w') : Turned b w w' := ⟨h.os, h.tape, h.output, h.size, fun i hi _ => h.block i hi⟩
theorem Turned.keep {b i : Nat} {w w' : World} {o : Obj} (h : Turned b w w') (hb : w.heap[i]? = some o) (hne : i ≠ b) : w'.heap[i]? = some o :=
  (h.block i (Array.getElem?_eq_some_iff.1 hb).1 (by simpa using hne)).trans hb
/-- One's own new block is altered: nothing old is. -/
theorem Turned.own {b i : Nat} {w w1 w2 : World} (h : Turned b w w1) (k : w1.grownBy w2 (some i)) (hi : w.heap.size ≤ i) : Turned b w w2 :=
  ⟨k.os.trans h.os, k.tape.trans h.tape, k.output.trans h.output, Nat.le_trans h.size k.size, fun j hj hne => (k.block j (Nat.lt_of_lt_of_le hj h.size) (by simp; omega)).trans (h.block j hj hne)⟩
theorem Turned.below {b B : Nat} {w w1 w2 : World} (h : Turned b w w1) (k : Below B w1 w2) (hB : w.heap.size ≤ B) : Turned b w w2 :=
  ⟨k.os.trans h.os, k.tape.trans h.tape, k.output.trans h.output, Nat.le_trans h.size k.size, fun j hj hne => (k.block j (by omega)).trans (h.block j hj hne)⟩
theorem _root_.Go.My.Own.turned {w w' : World} {base b : Nat} {e : TypeId} {v : Value} {xs : List Value} (h : My.Own w base e v xs) (hT : Turned b w w') (hb : b < base) : My.Own w' base e v xs := by
  refine ⟨h.1, ?_⟩
  rcases h.2 with h2 | ⟨g, cap, cur, hv, hg0, hg, r⟩
  · exact .inl h2
  · exact .inr ⟨g, cap, cur, hv, hg0, hT.keep hg (by omega), r⟩
theorem Turned.cell {b : Nat} {w w' : World} {p : Addr} {v : Value} (h : Turned b w w') (hne : p.block ≠ b) (hc : w.cell? p = some v) : w'.cell? p = some v := by
  have hl := World.block_lt_of_cell? _ _ hc
  exact (World.cell?_of_block (h.block p.block hl (by simpa using hne))).trans hc
theorem Turned.frozen {b : Nat} {w w' : World} {p : Addr} (h : Turned b w w') (hne : p.block ≠ b) (hl : p.block < w.heap.size) : w'.frozen? p = w.frozen? p := by
  unfold World.frozen?
  rw [h.block p.block hl (by simpa using hne)]
theorem Turned.set {b : Nat} {w w' : World} (h : Turned b w w') (o : Nat) (v : Value) : Turned b w (w'.setCell ⟨b, o, none⟩ v) :=
  h.trans ⟨rfl, rfl, rfl, by simp [World.setCell], fun k hk hne => Below.heap_setCell _ _ _ _ (fun e => hne (by simp at e; rw [e]))⟩
theorem ext_own {w w1 w2 : World} {b : Nat} (h1 : Ext w w1) (h2 : Turned b w1 w2) (hb : w.heap.size ≤ b) : Ext w w2 :=
  h1.below (B := w.heap.size) ((Below.refl _ _).grown h2 h1.size (fun k e => by simp at e; omega)) (Nat.le_refl _)
theorem frozen_ext {w w' : World} {p : Addr} (h : Ext w w') (hl : p.block < w.heap.size) : w'.frozen? p = w.frozen? p := h.frozen hl
theorem below_own {B b : Nat} {w W W' : World} (h : Below B w W) (hT : Turned b W W') (hb : B ≤ b) (hsz : B ≤ W.heap.size) : Below B w W' :=
  Below.trans h ((Below.refl _ _).grown hT hsz (fun k e => by simp at e; omega))
theorem Turned.keep' {b i : Nat} {w w' : World} (h : Turned b w w') (hne : i ≠ b) {o : Obj} (hi : w.heap[i]? = some o) : w'.heap[i]? = some o :=
  (h.block i (Array.getElem?_eq_some_iff.1 hi).1 (by simpa using hne)).trans hi

theorem add_none (b o j : Nat) : (⟨b, o, none⟩ : Addr).add j = ⟨b, o + j, none⟩ := by simp [Addr.add]
theorem results_cells {fn : Func} {p : Tmp} {t n : Nat} (h : fn.results = #[.cell p t]) {w : World} (hagg : (isAgg t).run Try.prog w = .ok true w) (hsz : (sizeOf t).run Try.prog w = .ok n w) (tmps : Array Value) (b : Nat) (xs : List Value) (hn : xs.length = n)
    (hp : tmps.getD p undef = .pointer (some ⟨b, 0, none⟩)) (hc : ∀ (j : Nat) (v : Value), xs[j]? = some v → w.cell? ⟨b, j, none⟩ = some v) : (results fn tmps).run Try.prog w = .ok (.agg xs.toArray) w := by
  have hp' : tmps[p]?.getD undef = .pointer (some ⟨b, 0, none⟩) := by simpa using hp
  have hl : (loadCells ⟨b, 0, none⟩ n).run Try.prog w = .ok xs.toArray w := by
    rw [← hn]
    exact run_loadCells_list (P := Try.prog) w ⟨b, 0, none⟩ xs (fun j v hv => by
      rw [add_none, Nat.zero_add]; exact hc j v hv)
  simp [results, h, hp', asAddr, loadVar, Sem.run_bind, hagg, hsz, hl]
theorem results_cellst {fn : Func} {p q : Tmp} {t n : Nat} (h : fn.results = #[.cell p t, .tmp q]) {w : World} (hagg : (isAgg t).run Try.prog w = .ok true w) (hsz : (sizeOf t).run Try.prog w = .ok n w) (tmps : Array Value) (b : Nat) (xs : List Value) (z : Value) (hn : xs.length = n)
    (hp : tmps.getD p undef = .pointer (some ⟨b, 0, none⟩)) (hq : tmps.getD q undef = z) (hc : ∀ (j : Nat) (v : Value), xs[j]? = some v → w.cell? ⟨b, j, none⟩ = some v) : (results fn tmps).run Try.prog w = .ok (.tuple #[.agg xs.toArray, z]) w := by
  have hp' : tmps[p]?.getD undef = .pointer (some ⟨b, 0, none⟩) := by simpa using hp
  have hq' : tmps[q]?.getD undef = z := by simpa using hq
  have hl : (loadCells ⟨b, 0, none⟩ n).run Try.prog w = .ok xs.toArray w := by
    rw [← hn]
    exact run_loadCells_list (P := Try.prog) w ⟨b, 0, none⟩ xs (fun j v hv => by
      rw [add_none, Nat.zero_add]; exact hc j v hv)
  simp [results, h, hp', hq', asAddr, loadVar, Sem.run_bind, hagg, hsz, hl]

end Go.Proofs.Ytdmegfbeibbmfaa
/- The cells of one's own box: laws. No condition. -/
namespace Go.Proofs.Ytdmegfbeibbmfaa
open Go.RowKit Go.My

/-- The cells of one's own box. -/
structure CB (W : World) (b : Nat) (vs : List Value) : Prop where
  c : ∀ (i : Nat) (v : Value), vs[i]? = some v → W.cell? ⟨b, i, none⟩ = some v
  f : ∀ i, i < vs.length → W.frozen? ⟨b, i, none⟩ = false
section
variable {W W' : World} {b q : Nat} {vs : List Value}
theorem CB.new (w : World) (vs : List Value) (t : TypeId) : CB (w.alloc (.cells vs.toArray t)) w.heap.size vs :=
  ⟨fun i v hv => by rw [cell_of_row _ _ i _ _ _ (heap_alloc_new w _)]; simpa using hv, fun i _ => frozen_of_row _ _ i _ _ (heap_alloc_new w _)⟩
theorem CB.lt (h : CB W b vs) (hl : 0 < vs.length) : b < W.heap.size := World.block_lt_of_cell? _ _ (h.c 0 vs[0] (by simp [hl]))
theorem CB.ext (h : CB W b vs) (hE : Ext W W') : CB W' b vs :=
  ⟨fun i v hv => cell_ext hE (h.c i v hv), fun i hi => (frozen_ext (p := ⟨b, i, none⟩) hE (World.block_lt_of_cell? _ _ (h.c i vs[i] (by simp [hi])))).trans (h.f i hi)⟩
theorem CB.below {B : Nat} (h : CB W b vs) (hB : Below B W W') (hb : b < B) : CB W' b vs :=
  ⟨fun i v hv => cell_below hB hb (h.c i v hv), fun i hi => (hB.frozen (p := ⟨b, i, none⟩) hb).trans (h.f i hi)⟩
theorem CB.other (h : CB W b vs) (i : Nat) (v : Value) (hne : b ≠ q) : CB (W.setCell ⟨q, i, none⟩ v) b vs :=
  ⟨fun j u hu => by rw [World.cell?_setCell_other _ _ _ _ (fun e => hne (by injection e with e1 _ _; exact e1.symm))]; exact h.c j u hu, fun j hj => by simp only [World.frozen?_setCell]; exact h.f j hj⟩
theorem CB.set (h : CB W b vs) {i : Nat} (hi : i < vs.length) (v : Value) : CB (W.setCell ⟨b, i, none⟩ v) b (vs.set i v) :=
  ⟨fun j u hu => by
    rw [List.getElem?_set] at hu
    by_cases e : i = j
    · subst e
      rw [if_pos rfl, if_pos hi] at hu
      cases hu
      exact World.cell?_setCell_same _ _ _ (h.c i vs[i] (by simp [hi]))
    · rw [if_neg e] at hu
      rw [World.cell?_setCell_other _ _ _ _ (fun h => e (by injection h))]
      exact h.c j u hu, fun j hj => by
    rw [List.length_set] at hj
    simp only [World.frozen?_setCell]; exact h.f j hj⟩
end

end Go.Proofs.Ytdmegfbeibbmfaa
/- A range over a function whose body is run for one value after another. No condition. -/
namespace Go.My
open Go Go.RowKit

/-- b is a, but for some blocks, and with new ones. -/
structure Mv (I : Nat → Prop) (a b : World) : Prop where
  os : b.os = a.os
  tape : b.tape = a.tape
  output : b.output = a.output
  size : a.heap.size ≤ b.heap.size
  block : ∀ i, i < a.heap.size → ¬ I i → b.heap[i]? = a.heap[i]?
theorem Mv.refl (I : Nat → Prop) (w : World) : Mv I w w := ⟨rfl, rfl, rfl, Nat.le_refl _, fun _ _ _ => rfl⟩
theorem Mv.trans {I : Nat → Prop} {a b c : World} (h : Mv I a b) (k : Mv I b c) : Mv I a c :=
  ⟨k.os.trans h.os, k.tape.trans h.tape, k.output.trans h.output, Nat.le_trans h.size k.size, fun i hi hn => (k.block i (Nat.lt_of_lt_of_le hi h.size) hn).trans (h.block i hi hn)⟩
theorem Mv.mono {I I' : Nat → Prop} {a b : World} (h : Mv I a b) (hI : ∀ i, i < a.heap.size → I i → I' i) : Mv I' a b :=
  ⟨h.os, h.tape, h.output, h.size, fun i hi hn => h.block i hi fun k => hn (hI i hi k)⟩
theorem Mv.of_ext {I : Nat → Prop} {a b : World} (h : Ext a b) : Mv I a b := ⟨h.os, h.tape, h.output, h.size, fun i hi _ => h.block i hi⟩
theorem Mv.of_grown {I : Nat → Prop} {a b : World} {o : Option Nat} (h : a.grownBy b o) (hI : ∀ i, o = some i → I i) : Mv I a b :=
  ⟨h.os, h.tape, h.output, h.size, fun i hi hn => h.block i hi fun e => hn (hI i e.symm)⟩
theorem Mv.of_below {I : Nat → Prop} {B : Nat} {a b : World} (h : Below B a b) (hI : ∀ i, i < a.heap.size → B ≤ i → I i) : Mv I a b :=
  ⟨h.os, h.tape, h.output, h.size, fun i hi hn => h.block i (Classical.byContradiction fun hc => hn (hI i hi (by omega)))⟩
theorem Mv.ext {I : Nat → Prop} {w a b : World} (hE : Ext w a) (h : Mv I a b) (hI : ∀ i, I i → w.heap.size ≤ i) : Ext w b :=
  ⟨h.os.trans hE.os, h.tape.trans hE.tape, h.output.trans hE.output, Nat.le_trans hE.size h.size, fun i hi => (h.block i (Nat.lt_of_lt_of_le hi hE.size) fun k => by have := hI i k; omega).trans (hE.block i hi)⟩
theorem Mv.heap {I : Nat → Prop} {a b : World} (h : Mv I a b) {i : Nat} {o : Obj} (hi : ¬ I i) (ho : a.heap[i]? = some o) : b.heap[i]? = some o := (h.block i (Array.getElem?_eq_some_iff.1 ho).1 hi).trans ho
theorem Mv.cell {I : Nat → Prop} {a b : World} {p : Addr} {v : Value} (h : Mv I a b) (hp : ¬ I p.block) (hc : a.cell? p = some v) : b.cell? p = some v :=
  (World.cell?_of_block (h.block _ (World.block_lt_of_cell? _ _ hc) hp)).trans hc
theorem Mv.frozen {I : Nat → Prop} {a b : World} {p : Addr} (h : Mv I a b) (hp : ¬ I p.block) (hl : p.block < a.heap.size) : b.frozen? p = a.frozen? p := World.frozen?_of_block (h.block _ hl hp)

/-- How a round may be left: it goes on, or stops. -/
def eachPost (Kp G : World → Prop) (Ix : Code → World → Prop) (W : World) : Exit → Act → World → Prop
  | .normal, _, W' => KeepsOthers W W' ∧ Kp W' ∧ G W'
  | .ret, _, W' => KeepsOthers W W' ∧ Kp W' ∧ Ix .ret W'
  | .exit id, _, W' => KeepsOthers W W' ∧ Kp W' ∧ Ix (.exit id) W'
  | .goto t, _, W' => KeepsOthers W W' ∧ Kp W' ∧ Ix (.goto t) W'
  | _, _, _ => False
/-- What a body must keep: the iterator's blocks, and those ahead of n but for its own. -/
abbrev Kept (I Bd : Nat → Prop) (n : Nat) (W W' : World) : Prop := Mv (fun i => ¬ (I i ∨ (i < n ∧ ¬ Bd i))) W W'
/-- What holds of a world holds when the iterator has gone on. -/
def Steady (J : Nat → (Nat → Prop) → World → Prop) : Prop :=
  ∀ (k : Nat) (I I' : Nat → Prop) (W W' : World), J k I W → Mv I W W' → (∀ i, I' i → (I i ∨ W.heap.size ≤ i) ∧ i < W'.heap.size) → J k I' W'
/-- The contract of an iterator that hands out N values. -/
def Iter (P : Program) (gf : Nat) (lb : Array Value) (N : Nat) (Bd : Nat → Prop) (n : Nat) (P1 : Nat → (Nat → Prop) → Value → World → Prop) (w : World) : Prop :=
  ∀ (l : Nat) (W : World) (R : Nat → (Nat → Prop) → World → Prop) (Fin : World → Prop), Ext w W → Steady R → R 0 (fun _ => False) W →
    (∀ (m k : Nat) (I : Nat → Prop) (x : Value) (W1 : World), k < N → R k I W1 → P1 k I x W1 → (∀ i, I i → W.heap.size ≤ i ∧ i < W1.heap.size) →
      YieldAt Fence.wide m P l #[x] W1 fun e W' => ∃ b, e = .returned (.bool b) ∧ Kept I Bd n W1 W' ∧ (b = true → R (k + 1) I W') ∧ (b = false → Fin W')) →
    Calls P gf (#[.func (.yield l) #[] #[]] ++ lb) W fun e W' => (∃ v, e = .returned v) ∧ ((∃ I, R N I W' ∧ ∀ i, I i → W.heap.size ≤ i ∧ i < W'.heap.size) ∨ Fin W')

theorem wp_rangeFunc_each {P : Program} {g : Operand} {p : Tmp} {assign body : Code} {Q : Exit → Act → World → Prop} {a : Act} {w : World}
    {gf : Nat} {lb : Array Value} (hg : a.eval g = .func (.func gf) #[] lb) (eg : ∀ args w, (callFunc gf args).run P w = .ok (.enter gf args) w)
    (N : Nat) (Bd : Nat → Prop) (P1 : Nat → (Nat → Prop) → Value → World → Prop)
    (J : Nat → (Nat → Prop) → World → Prop) (hJ : Steady J) (hJp : ∀ k I W l o o', J k I W → w.heap.size ≤ l → W.heap[l]? = some o → o.isCells = false → J k I (W.putObj l o'))
    (Ix : Code → World → Prop) (hIp : ∀ c W l o o', Ix c W → w.heap.size ≤ l → W.heap[l]? = some o → o.isCells = false → Ix c (W.putObj l o'))
    (h0 : J 0 (fun _ => False) w) (hseq : Iter P gf lb N Bd w.heap.size P1 w)
    (Pa : Nat → (Nat → Prop) → Value → Act → World → Prop) (hPa : ∀ k I x a W l o o', Pa k I x a W → W.heap[l]? = some o → o.isCells = false → Pa k I x a (W.putObj l o'))
    (hassign : ∀ (l m k : Nat) (I : Nat → Prop) (x : Value) (W : World), k < N → J k I W → P1 k I x W → (∀ i, I i → w.heap.size ≤ i ∧ i < W.heap.size) →
      ∀ K : Act → World → Prop, (∀ a' Wa, KeepsOthers W Wa → Kept I Bd w.heap.size W Wa → J k I Wa → Pa k I x a' Wa → K a' Wa) →
      assign.wpIn (Fence.wide.inRound l) m P (Exit.then K (fun _ _ _ => False)) { tmps := (#[p].zip #[x]).foldl (fun t (p, v) => t.setIfInBounds p v) a.tmps, defers := [] } W)
    (hbody : ∀ (l m k : Nat) (I : Nat → Prop) (x : Value) (a' : Act) (W : World), k < N → J k I W → Pa k I x a' W → (∀ i, I i → w.heap.size ≤ i ∧ i < W.heap.size) →
      body.wpIn (Fence.wide.inRound l) m P (eachPost (Kept I Bd w.heap.size W) (fun W' => J (k + 1) I W') Ix W) a' W)
    (hnorm : ∀ (D : Nat) (I : Nat → Prop) (W : World), J N I W → w.heap.size ≤ D → W.heap[D]? = some (.deferred (some [])) → Q .normal { a with defers := { target := .collected D, args := #[] } :: a.defers } W)
    (hstop : ∀ (D : Nat) (c : Code) (W : World), Ix c W → w.heap.size ≤ D → W.heap[D]? = some (.deferred (some [])) → c.wp P Q { a with defers := { target := .collected D, args := #[] } :: a.defers } W) :
    (Code.rangeFunc g #[p] assign body).wp P Q a w := by
  refine (wpIn_wide (n := 3)).1 (wpIn_rangeFunc ?_)
  intro fn hfn
  have hro : Fence.wide.round = none := rfl
  rw [hro]
  obtain ⟨rec, hrec⟩ : ∃ rec : LoopState → Option Code → Loop, rec = fun st pe => { state := st, pending := pe, fn, tmps := a.tmps, params := #[p], assign, body, defers := w.heap.size } := ⟨_, rfl⟩
  obtain ⟨W1, hW1⟩ : ∃ W1, (w.alloc (.deferred (some []))).alloc (.loop (rec .ready none)) = W1 := ⟨_, rfl⟩
  have hL1 : W1.heap[w.heap.size + 1]? = some (.loop (rec .ready none)) := by
    rw [← hW1]; have := World.alloc_heap_new (w.alloc (.deferred (some []))) (.loop (rec .ready none)); rwa [World.size_alloc] at this
  have hK1 : W1.heap[w.heap.size]? = some (.deferred (some [])) := by
    rw [← hW1]; exact (Below.heap_alloc _ _ _ (by simp)).trans (World.alloc_heap_new w _)
  have hE1 : Ext w W1 := by rw [← hW1]; exact ((Ext.refl w).alloc _).alloc _
  have hS1 : W1.heap.size = w.heap.size + 2 := by rw [← hW1]; simp
  refine ⟨w.heap.size + 1, [{ target := .collected w.heap.size, args := #[] }], W1, { target := .fn (.func gf) lb, args := #[.func (.yield (w.heap.size + 1)) #[] #[]] }, W1, gf,
    #[.func (.yield (w.heap.size + 1)) #[] #[]] ++ lb, W1, ?_, ?_, ?_, ?_, fun _ => by omega, ?_⟩
  · rw [← hW1, hrec]; exact run_enterLoop_outer _ _ _ _ _
  · simp only [resolve, hg]
    simp [go_sem]
  · intro f' _; trivial
  · simp [invoke, go_sem, eg]
  · obtain ⟨R, hR⟩ : ∃ R : Nat → (Nat → Prop) → World → Prop, R = fun k I W => J k I W ∧ W.heap[w.heap.size + 1]? = some (.loop (rec .ready none)) ∧ W.heap[w.heap.size]? = some (.deferred (some [])) ∧ (∀ i, I i → W1.heap.size ≤ i) ∧ W1.heap.size ≤ W.heap.size := ⟨_, rfl⟩
    have hsteady : Steady R := by
      rw [hR]
      rintro k I I' W W' ⟨hj, hl, hk, hI, hs⟩ hm hI'
      have n1 : ¬ I (w.heap.size + 1) := fun h => by have := hI _ h; omega
      have n2 : ¬ I w.heap.size := fun h => by have := hI _ h; omega
      exact ⟨hJ k I I' W W' hj hm hI', hm.heap n1 hl, hm.heap n2 hk, fun i hi => by
        rcases (hI' i hi).1 with h | h
        · exact hI i h
        · omega, Nat.le_trans hs hm.size⟩
    have hR0 : R 0 (fun _ => False) W1 := by
      rw [hR]
      exact ⟨hJ 0 _ _ w W1 h0 (Mv.of_ext hE1) (fun i hi => hi.elim), hL1, hK1, fun i hi => hi.elim, Nat.le_refl _⟩
    refine (callsIn_wide.2 (hseq (w.heap.size + 1) W1 R (fun W => ∃ c, Ix c W ∧ W.heap[w.heap.size + 1]? = some (.loop (rec .done (some c))) ∧ W.heap[w.heap.size]? = some (.deferred (some []))) hE1 hsteady hR0 ?_)).mono ?_
    · intro m k I x W0 hk hRk hP1 hIb0
      rw [hR] at hRk
      obtain ⟨hj0, hl0, hkd0, hI, hs0⟩ := hRk
      have hy := run_yield (P := P) (args := #[x]) hl0 (by rw [hrec]; rfl)
      rw [hrec] at hy
      refine ⟨fn, _, assign, body, hy, roundIn_of_wpIn hfn (hassign _ _ k I x W0 hk hj0 hP1 (fun i hi => ⟨by have := hI i hi; omega, (hIb0 i hi).2⟩) _ fun a' W hka hkp hj hpa => ?_)⟩
      have hl := hka.same _ _ hl0 rfl
      have hkd := hka.same _ _ hkd0 rfl
      have hs := Nat.le_trans hs0 hkp.size
      have hIb : ∀ i, I i → W1.heap.size ≤ i ∧ i < W.heap.size := fun i hi => ⟨(hIb0 i hi).1, Nat.lt_of_lt_of_le (hIb0 i hi).2 hkp.size⟩
      have hlt : w.heap.size + 1 < W.heap.size := (Array.getElem?_eq_some_iff.1 hl).1
      refine ⟨_, run_beginRound hl (by rw [hrec]), ?_⟩
      have hl2 : (W.putObj (w.heap.size + 1) (.loop { rec .ready none with state := .busy })).heap[w.heap.size + 1]? = some (.loop { rec .ready none with state := .busy }) := World.putObj_heap_same hlt
      have hk2 : (W.putObj (w.heap.size + 1) (.loop { rec .ready none with state := .busy })).heap[w.heap.size]? = some (.deferred (some [])) := (World.putObj_heap_other (by omega)).trans hkd
      have hg2 := grownBy_putObj' W (w.heap.size + 1) (.loop { rec .ready none with state := .busy })
      have hnk : ∀ i, some (w.heap.size + 1) = some i → ¬ (I i ∨ (i < w.heap.size ∧ ¬ Bd i)) := fun i e => by
        cases e
        rintro (h | h)
        · have := hI _ h; omega
        · omega
      refine wpIn_mono (hbody _ _ k I x a' _ hk (hJp _ _ _ _ _ _ hj (by omega) hl rfl) (hPa _ _ _ _ _ _ _ _ hpa hl rfl) (fun i hi => ⟨by have := hI i hi; omega, Nat.lt_of_lt_of_le (hIb i hi).2 hg2.size⟩)) ?_
      have fin : ∀ (c : Code) (W3 : World), KeepsOthers (W.putObj (w.heap.size + 1) (.loop { rec .ready none with state := .busy })) W3 → Kept I Bd w.heap.size (W.putObj (w.heap.size + 1) (.loop { rec .ready none with state := .busy })) W3 → Ix c W3 →
          ∃ v w', (Instr.endRound (w.heap.size + 1) (some c)).run P W3 = .ok v w' ∧ ∃ b, Ending.returned v = .returned (.bool b) ∧ Kept I Bd w.heap.size W0 w' ∧ (b = true → R (k + 1) I w') ∧
            (b = false → ∃ c, Ix c w' ∧ w'.heap[w.heap.size + 1]? = some (.loop (rec .done (some c))) ∧ w'.heap[w.heap.size]? = some (.deferred (some []))) := fun c W3 hk3 hkp3 hi => by
        have hl3 := hk3.same _ _ hl2 rfl
        have hrun := run_endRound (P := P) (some c) hl3
        have hg3 := grownBy_putObj' W3 (w.heap.size + 1) (.loop (rec .done (some c)))
        rw [hrec] at hrun hl3
        refine ⟨_, W3.putObj (w.heap.size + 1) (.loop (rec .done (some c))), by rw [hrun, hrec]; rfl, false, rfl, ((hkp.trans (Mv.of_grown hg2 hnk)).trans hkp3).trans (Mv.of_grown hg3 hnk), nofun, fun _ => ⟨c, hIp _ _ _ _ _ hi (by omega) hl3 rfl, ?_, (World.putObj_heap_other (by omega)).trans (hk3.same _ _ hk2 rfl)⟩⟩
        exact World.putObj_heap_same (Array.getElem?_eq_some_iff.1 hl3).1
      rintro e a3 W3 hp
      cases e with
      | ret => exact fin _ _ hp.1 hp.2.1 hp.2.2
      | exit id => exact fin _ _ hp.1 hp.2.1 hp.2.2
      | goto t => exact fin _ _ hp.1 hp.2.1 hp.2.2
      | panic ch => exact hp.elim
      | outgrown => exact hp.elim
      | normal =>
        obtain ⟨hk3, hkept, hj3⟩ := hp
        have hl3 := hk3.same _ _ hl2 rfl
        have hrun := run_endRound (P := P) none hl3
        have hg3 := grownBy_putObj' W3 (w.heap.size + 1) (.loop (rec .ready none))
        have hsz : W1.heap.size ≤ W3.heap.size := Nat.le_trans hs (Nat.le_trans hg2.size hkept.size)
        refine ⟨.bool true, W3.putObj (w.heap.size + 1) (.loop (rec .ready none)), ?_, true, rfl, ((hkp.trans (Mv.of_grown hg2 hnk)).trans hkept).trans (Mv.of_grown hg3 hnk), fun _ => ?_, nofun⟩
        · rw [hrun, hrec]; rfl
        · rw [hR]
          exact ⟨hJp _ _ _ _ _ _ hj3 (by omega) hl3 rfl, World.putObj_heap_same (Array.getElem?_eq_some_iff.1 hl3).1, (World.putObj_heap_other (by omega)).trans (hk3.same _ _ hk2 rfl), hI, Nat.le_trans hsz hg3.size⟩
    · rintro e W2 ⟨⟨v, rfl⟩, ⟨I, hRN, hIN⟩ | ⟨c, hi, hl, hk⟩⟩
      · rw [hR] at hRN
        obtain ⟨hj, hl, hk, hI, hs⟩ := hRN
        have hrun := run_endLoop (P := P) hl (by rw [hrec]; simp)
        rw [hrec] at hrun hl
        exact ⟨none, _, hrun, hnorm _ I _ (hJp _ _ _ _ _ _ hj (by omega) hl rfl) (Nat.le_refl _) ((World.putObj_heap_other (by omega)).trans hk)⟩
      · have hrun := run_endLoop (P := P) hl (by rw [hrec]; simp)
        rw [hrec] at hrun hl
        exact ⟨some c, _, hrun, wpIn_wide.2 (hstop _ c _ (hIp _ _ _ _ _ hi (by omega) hl rfl) (Nat.le_refl _) ((World.putObj_heap_other (by omega)).trans hk))⟩

end Go.My
/- Contract: slices.Clone. Numbers of one's own. No condition. -/
namespace Go.Proofs.Ytdmegfbeibbmfaa
open Go.RowKit Go.My

theorem i3 : (Try.prog.info? 3).map (fun i => (i.zero, i.size, i.bytes)) = some (some (.int .i64 0), 1, 8) := by kernel_rfl
theorem eq29n (w : World) : (binOp BinOp.eql 33 (.slice none 0 0) (.slice none 0 0)).run Try.prog w = .ok (.bool true) w := by kernel_rfl
theorem eq29s (ad : Addr) (n c : Nat) (w : World) : (binOp BinOp.eql 33 (.slice (some ad) n c) (.slice none 0 0)).run Try.prog w = .ok (.bool false) w := by kernel_rfl

set_option maxRecDepth 100000 in
set_option maxHeartbeats 1000000 in
theorem clone_any (xs : List Value) (oa : Option Addr) (cap : Nat) (w : World) (hx : ∀ (ad : Addr) (i : Nat) (u : Value), oa = some ad → xs[i]? = some u → w.cell? (ad.add i) = some u) (h1 : ∀ u ∈ xs, u.oneCell' = true) (hl : xs.length ≤ 1000)
    (hn : oa = none → xs = [] ∧ cap = 0) : Calls Try.prog 55 #[.slice oa xs.length cap] w fun e w' => ∃ v, e = .returned v ∧ My.Own w' w.heap.size 3 v xs ∧ Ext w w' := by
  cases oa with
  | none =>
    obtain ⟨rfl, rfl⟩ := hn rfl
    clear hx h1 hn hl
    have e0 := eq29n
    have e1 := eq29s
    go_enter Try.func55, Try.ntmps55
    go_wp2
    go_ret
    exact ⟨_, rfl, My.Own.nil _ _ _, Ext.refl _⟩
  | some ad =>
    have hx' := Lib.hid (fun i u h => hx ad i u rfl h); clear hx
    have H1 := Lib.hid h1; clear h1
    have hE := (Ext.refl w).alloc (.cells #[] 3)
    have hown : My.Own (w.alloc (.cells #[] 3)) w.heap.size 3 (.slice (some ⟨w.heap.size, 0, none⟩) 0 0) [] := ⟨rfl, .inr ⟨w.heap.size, 0, #[], rfl, Nat.le_refl _, heap_alloc_new _ _, Nat.le_refl _, by decide, rfl, rfl⟩⟩
    have Hown := Lib.hid hown; clear hown
    obtain ⟨ii, hi1, hi2, hi3, hi4⟩ := info_parts i3
    have e0 := eq29n
    have e1 := eq29s
    go_enter Try.func55, Try.ntmps55
    go_wp2_with (first | (at_builtin; refine wpList_append_own _ rfl _ _ 33 rfl w.heap.size 3 ii (.int .i64 0) 1 8 Try.underlying33 hi1 hi2 hi3 hi4 rfl (by decide) _ 0 [] rfl Hown.out ad xs.length cap xs rfl (by simp) (fun j u hj => cell_ext hE (hx'.out j u hj)) H1.out (by unfold maxLen; omega) (by omega) hE.size ?_; intro v' w2 ho hg _))
    go_ret
    rw [Nat.zero_add] at ho
    exact ⟨_, rfl, by simpa [My.Own] using ho, ext_own hE hg (Nat.le_refl _)⟩

theorem oneInts (l : List Int) : ∀ u ∈ l.map (Value.int .i64), u.oneCell' = true := fun u hu => by
  obtain ⟨x, _, rfl⟩ := List.mem_map.1 hu; rfl
theorem clone_ints {l : List Int} {oa : Option Addr} {cap : Nat} {w : World} (h : IntsAt w oa l) (hl : l.length ≤ 1000) (hn : oa = none → cap = 0) (hc : l.length ≤ cap) :
    Calls Try.prog 55 #[.slice oa l.length cap] w fun e w' => ∃ v, e = .returned v ∧ My.Own w' w.heap.size 3 v (l.map (Value.int .i64)) ∧ Ext w w' := by
  have := clone_any (l.map (Value.int .i64)) oa cap w (fun ad i u ha hu => by
    rw [List.getElem?_map] at hu
    cases hx : l[i]? with
    | none => rw [hx] at hu; cases hu
    | some x =>
      rw [hx] at hu
      simp only [Option.map_some, Option.some.injEq] at hu
      subst hu
      obtain ⟨b, off, h1, _, h2⟩ := h i x hx
      rw [ha, Option.some.injEq] at h1
      subst h1
      rw [add_none]; exact h2) (oneInts l) (by rw [List.length_map]; exact hl) (fun h0 => by
        have := hn h0
        exact ⟨by rw [List.map_eq_nil_iff]; exact List.eq_nil_of_length_eq_zero (by omega), this⟩)
  rwa [List.length_map] at this

/-! one's own numbers -/
theorem _root_.Go.My.Own.mv {I : Nat → Prop} {w w' : World} {B : Nat} {e : TypeId} {v : Value} {xs : List Value} (h : My.Own w B e v xs) (hM : Mv I w w') (hI : ∀ b, v.ownBlock = some b → ¬ I b) : My.Own w' B e v xs := by
  refine ⟨h.1, ?_⟩
  rcases h.2 with h2 | ⟨g, cap, cur, hv, hb, hg, r⟩
  · exact .inl h2
  · exact .inr ⟨g, cap, cur, hv, hb, hM.heap (hI g (by rw [hv]; rfl)) hg, r⟩
theorem _root_.Go.My.Own.lt {w : World} {B : Nat} {e : TypeId} {v : Value} {xs : List Value} (h : My.Own w B e v xs) : ∀ b, v.ownBlock = some b → B ≤ b ∧ b < w.heap.size := World.ownsRow.lt h
theorem _root_.Go.My.Own.low {w : World} {b b' : Nat} {e : TypeId} {v : Value} {xs : List Value} (h : My.Own w b e v xs) (hb : b' ≤ b) : My.Own w b' e v xs := by
  refine ⟨h.1, ?_⟩
  rcases h.2 with h2 | ⟨g, cap, cur, hv, hg, r⟩
  · exact .inl h2
  · exact .inr ⟨g, cap, cur, hv, Nat.le_trans hb hg, r⟩
theorem own_put {W : World} {B l : Nat} {e : TypeId} {x : Value} {xs : List Value} {o o' : Obj} (h : My.Own W B e x xs) (hl : W.heap[l]? = some o) (ho : o.isCells = false) : My.Own (W.putObj l o') B e x xs := by
  refine ⟨h.1, ?_⟩
  rcases h.2 with h2 | ⟨g, cap, cur, hv, hb, hg, r⟩
  · exact .inl h2
  · refine .inr ⟨g, cap, cur, hv, hb, (World.putObj_heap_other ?_).trans hg, r⟩
    rintro rfl
    rw [hl] at hg
    cases hg
    simp [Obj.isCells] at ho
theorem _root_.Go.My.Own.cut {w : World} {B : Nat} {e : TypeId} {oa : Option Addr} {n cap : Nat} {xs : List Value} {x : Value} (h : My.Own w B e (.slice oa (n + 1) cap) (xs ++ [x])) (hn : xs.length = n) : My.Own w B e (.slice oa n cap) xs := by
  refine ⟨by simp, ?_⟩
  rcases h.2 with ⟨h2, _⟩ | ⟨g, cap', cur, hv, hb, hg, h1, h2, h3, h4⟩
  · cases h2
  · simp only [Value.slice.injEq] at hv
    obtain ⟨rfl, _, rfl⟩ := hv
    rw [List.length_append, List.length_singleton] at h1 h4
    refine .inr ⟨g, cap, cur, by rw [hn], hb, hg, by omega, h2, h3, ?_⟩
    have h5 := congrArg (List.take xs.length) h4
    rw [List.take_take, Nat.min_eq_left (by omega), List.take_append_of_le_length (Nat.le_refl _), List.take_length] at h5
    rw [Nat.mul_one]; exact h5

end Go.Proofs.Ytdmegfbeibbmfaa
