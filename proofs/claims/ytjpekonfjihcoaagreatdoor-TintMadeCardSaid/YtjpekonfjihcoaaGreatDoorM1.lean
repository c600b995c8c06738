/- Contracts and mathematics, joined: Base. Conditions stand with each. -/
import Derived.Below
import Derived.BigQuiet
import Derived.Deep.DeepCutAuto
import Derived.Deep.DeepFit
import Derived.Deep.LoopGhost
import Derived.Deep.QuietTactic
import Derived.Deep.RegionHeld3
import Derived.Deep.RegionWith
import Derived.Lib.Hide
import Derived.Test.YtjpekonfjihcoaaGreatDoorProg
import Derived.WalkKit
import Derived.WalkLawsBesides
import Derived.WalkSpells
namespace Go.TintM
end Go.TintM
set_option maxRecDepth 100000
set_option maxHeartbeats 64000000
set_option linter.unusedVariables false
set_option linter.unusedSimpArgs false
/- Data in memory as lists, and how they are kept when a call makes memory of its own. No condition. -/
namespace Go.My
open Go Go.RowKit

/-- w' is w with new blocks. -/
abbrev Ext (w w' : World) : Prop := Below w.heap.size w w'

theorem Ext.refl (w : World) : Ext w w := Below.refl _ _
theorem Ext.trans {a b c : World} (h : Ext a b) (k : Ext b c) : Ext a c := Below.trans h (k.mono h.size)
theorem Ext.alloc {a w : World} (h : Ext a w) (o : Obj) : Ext a (w.alloc o) := Below.alloc h h.size o
theorem Ext.drew {a w : World} (h : Ext a w) : Ext a w.drew := Below.drew h

theorem Ext.below {a b c : World} {B : Nat} (h : Ext a b) (k : Below B b c) (hB : a.heap.size ≤ B) : Ext a c := Below.trans h (k.mono hB)

/-- The cells of a slice of numbers. -/
def IntsAt (w : World) (oa : Option Addr) (l : List Int) : Prop :=
 ∀ (i : Nat) (x : Int), l[i]? = some x → ∃ b off, oa = some ⟨b, off, none⟩ ∧ b < w.heap.size ∧ w.cell? ⟨b, off + i, none⟩ = some (.int .i64 x)

/-- v is a slice of these numbers. -/
def IsInts (w : World) (v : Value) (l : List Int) : Prop :=
 ∃ oa cap, v = .slice oa l.length cap ∧ l.length ≤ cap ∧ cap ≤ maxLen ∧ (oa = none → cap = 0) ∧ IntsAt w oa l

/-- The cells of a slice of slices. -/
def RowsAt (w : World) (oa : Option Addr) (ls : List (List Int)) : Prop :=
 ∀ (i : Nat) (l : List Int), ls[i]? = some l → ∃ b off u, oa = some ⟨b, off, none⟩ ∧ b < w.heap.size ∧ w.cell? ⟨b, off + i, none⟩ = some u ∧ IsInts w u l

def IsRows (w : World) (v : Value) (ls : List (List Int)) : Prop :=
 ∃ oa cap, v = .slice oa ls.length cap ∧ ls.length ≤ cap ∧ cap ≤ maxLen ∧ (oa = none → cap = 0) ∧ RowsAt w oa ls

theorem IntsAt.ext {w w' : World} {oa : Option Addr} {l : List Int} (h : IntsAt w oa l) (hb : Ext w w') : IntsAt w' oa l := by
 intro i x hx
 obtain ⟨b, off, ho, hlt, hc⟩ := h i x hx
 exact ⟨b, off, ho, Nat.lt_of_lt_of_le hlt hb.size, (hb.cell (p := ⟨b, off + i, none⟩) hlt).trans hc⟩

theorem IsInts.ext {w w' : World} {v : Value} {l : List Int} (h : IsInts w v l) (hb : Ext w w') : IsInts w' v l := by
 obtain ⟨oa, cap, h1, h2, h3, h4, h5⟩ := h
 exact ⟨oa, cap, h1, h2, h3, h4, h5.ext hb⟩

theorem RowsAt.ext {w w' : World} {oa : Option Addr} {ls : List (List Int)} (h : RowsAt w oa ls) (hb : Ext w w') : RowsAt w' oa ls := by
 intro i l hl
 obtain ⟨b, off, u, ho, hlt, hc, hu⟩ := h i l hl
 exact ⟨b, off, u, ho, Nat.lt_of_lt_of_le hlt hb.size, (hb.cell (p := ⟨b, off + i, none⟩) hlt).trans hc, hu.ext hb⟩

theorem IsRows.ext {w w' : World} {v : Value} {ls : List (List Int)} (h : IsRows w v ls) (hb : Ext w w') : IsRows w' v ls := by
 obtain ⟨oa, cap, h1, h2, h3, h4, h5⟩ := h
 exact ⟨oa, cap, h1, h2, h3, h4, h5.ext hb⟩

theorem bcell {W w1 : World} (hb : Ext W w1) : (∀ b o, b < W.heap.size → w1.cell? ⟨b, o, none⟩ = W.cell? ⟨b, o, none⟩) ∧ (∀ b o, b < W.heap.size → w1.frozen? ⟨b, o, none⟩ = W.frozen? ⟨b, o, none⟩) :=
 ⟨fun b o h => hb.cell (p := ⟨b, o, none⟩) h, fun b o h => hb.frozen (p := ⟨b, o, none⟩) h⟩

theorem cell_ext {w w' : World} {p : Addr} {v : Value} (hE : Ext w w') (h : w.cell? p = some v) : w'.cell? p = some v :=
 (hE.cell (World.block_lt_of_cell? w p h)).trans h

theorem IntsAt.at {w : World} {oa : Option Addr} {l : List Int} (h : IntsAt w oa l) {k : Nat} (hk : k < l.length) :
  ∃ b off, oa = some ⟨b, off, none⟩ ∧ b < w.heap.size ∧ w.cell? ⟨b, off + k, none⟩ = some (.int .i64 l[k]) :=
 h k l[k] (by simp [hk])

theorem IntsAt.take {w : World} {oa : Option Addr} {l : List Int} (h : IntsAt w oa l) (k : Nat) : IntsAt w oa (l.take k) := by
 intro i x hx
 rw [List.getElem?_take] at hx
 split at hx
 ·exact h i x hx
 ·cases hx

theorem RowsAt.at {w : World} {oa : Option Addr} {ls : List (List Int)} (h : RowsAt w oa ls) {k : Nat} (hk : k < ls.length) :
  ∃ b off oa' cap', oa = some ⟨b, off, none⟩ ∧ b < w.heap.size ∧ w.cell? ⟨b, off + k, none⟩ = some (.slice oa' ls[k].length cap') ∧ ls[k].length ≤ cap' ∧ cap' ≤ maxLen ∧ (oa' = none → cap' = 0) ∧ IntsAt w oa' ls[k] := by
 obtain ⟨b, off, u, h1, h2, h3, oa', cap', rfl, h4, h5, h6, h7⟩ := h k ls[k] (by simp [hk])
 exact ⟨b, off, oa', cap', h1, h2, h3, h4, h5, h6, h7⟩

/-- An owned row of numbers is a slice of these numbers. -/
theorem isInts_of_own {w : World} {B : Nat} {e : TypeId} {v : Value} {l : List Int} (h : w.ownsRow B e 1 v l.length (l.map (Value.int .i64))) : IsInts w v l := by
 obtain ⟨h1, h2⟩ := h
 rcases h2 with ⟨rfl, h2⟩ | ⟨g, cap, cur, rfl, hb, hg, hn, hc, hs, ht⟩
 ·have : l = [] := List.eq_nil_of_length_eq_zero h2
  subst this
  exact ⟨none, 0, rfl, Nat.le_refl _, by simp [maxLen], fun _ => rfl, fun i x hx => by simp at hx⟩
 ·refine ⟨_, _, rfl, hn, hc, (fun h => by cases h), fun i x hx => ⟨g, 0, rfl, (Array.getElem?_eq_some_iff.1 hg).1, ?_⟩⟩
  have hx' : (l.map (Value.int .i64))[i]? = some (.int .i64 x) := by simp [hx]
  rw [← ht, List.getElem?_take] at hx'
  split at hx'
  ·rw [cell_of_row w g (0 + i) cur e (0, 0) hg]; simpa using hx'
  ·cases hx'

theorem isRows_of_own {w : World} {B : Nat} {e : TypeId} {v : Value} {ls : List (List Int)} {xs : List Value} (h : w.ownsRow B e 1 v ls.length xs)
  (hx : ∀ (i : Nat) (l : List Int), ls[i]? = some l → ∃ u, xs[i]? = some u ∧ IsInts w u l) : IsRows w v ls := by
 obtain ⟨h1, h2⟩ := h
 rcases h2 with ⟨rfl, h2⟩ | ⟨g, cap, cur, rfl, hb, hg, hn, hc, hs, ht⟩
 ·have : ls = [] := List.eq_nil_of_length_eq_zero h2
  subst this
  exact ⟨none, 0, rfl, Nat.le_refl _, by simp [maxLen], fun _ => rfl, fun i x hx => by simp at hx⟩
 ·refine ⟨_, _, rfl, hn, hc, (fun h => by cases h), fun i l hl => ?_⟩
  obtain ⟨u, hu, hul⟩ := hx i l hl
  refine ⟨g, 0, u, rfl, (Array.getElem?_eq_some_iff.1 hg).1, ?_, hul⟩
  rw [← ht, List.getElem?_take] at hu
  split at hu
  ·rw [cell_of_row w g (0 + i) cur e (0, 0) hg]; simpa using hu
  ·cases hu

/-- A slice of the call's own (its block from base on), of elements of one cell. -/
def Own (w : World) (base : Nat) (e : TypeId) (v : Value) (xs : List Value) : Prop := w.ownsRow base e 1 v xs.length xs

theorem Own.nil (w : World) (base : Nat) (e : TypeId) : Own w base e (.slice none 0 0) [] := World.ownsRow_nil _ _ _ _
theorem Own.ext {w w' : World} {base : Nat} {e : TypeId} {v : Value} {xs : List Value} (h : Own w base e v xs) (hE : Ext w w') : Own w' base e v xs := by
 refine ⟨h.1, ?_⟩
 rcases h.2 with h2 | ⟨g, cap, cur, hv, hb, hg, r⟩
 ·exact .inl h2
 ·exact .inr ⟨g, cap, cur, hv, hb, (hE.block g (Array.getElem?_eq_some_iff.1 hg).1).trans hg, r⟩
theorem Own.ints {w : World} {B : Nat} {e : TypeId} {v : Value} {l : List Int} (h : Own w B e v (l.map (Value.int .i64))) : IsInts w v l :=
 isInts_of_own (B := B) (e := e) (by unfold Own at h; rwa [List.length_map] at h)
theorem Own.slice {w : World} {B : Nat} {e : TypeId} {v : Value} {xs : List Value} (h : Own w B e v xs) : ∃ oa cap, v = .slice oa xs.length cap ∧ xs.length ≤ cap ∧ cap ≤ maxLen ∧ (oa = none → cap = 0) ∧
  ∀ (i : Nat) (u : Value), xs[i]? = some u → ∃ b, oa = some ⟨b, 0, none⟩ ∧ B ≤ b ∧ w.cell? ⟨b, i, none⟩ = some u := by
 rcases h.2 with ⟨rfl, h2⟩ | ⟨g, cap, cur, rfl, hb, hg, hn, hc, hs, ht⟩
 ·have : xs = [] := List.eq_nil_of_length_eq_zero h2
  subst this
  exact ⟨none, 0, rfl, Nat.le_refl _, by simp [maxLen], fun _ => rfl, fun i u hu => by simp at hu⟩
 ·refine ⟨_, _, rfl, hn, hc, (fun h => by cases h), fun i u hu => ⟨g, rfl, hb, ?_⟩⟩
  rw [← ht, List.getElem?_take] at hu
  split at hu
  ·rw [cell_of_row w g i cur e (0, 0) hg]; simpa using hu
  ·cases hu

/-- append of one element of one cell, to a slice of the call's own. -/
theorem wpList_app1 {P : Program} (w : World) {ops : Array Oper} {rest : List Oper} {o : Oper} {a : Act} {Q : Exit → Act → World → Prop} (hgd : o.guard = none) (s x : Operand) (t : TypeId)
  (ho : o.op = .call { callee := .builtin .append, args := #[s, x], argTypes := #[t, t] }) (e : TypeId) (ht : P.underlying t = some (.slice e)) (z : Value) (bytes : Nat)
  (hi : (P.info? e).map (fun i => (i.zero, i.size, i.bytes)) = some (some z, 1, bytes)) (hz : z.cells.size = 1) (hby : bytes ≤ 64) (base : Nat) (v : Value) (xs : List Value) (hs : a.eval s = v)
  (hown : Own w base e v xs) (b : Nat) (u : Value) (hx : a.eval x = .slice (some ⟨b, 0, none⟩) 1 1) (hc : w.cell? ⟨b, 0, none⟩ = some u) (hu : u.oneCell' = true)
  (hl : xs.length < 1000000000) (hbase : base ≤ w.heap.size)
  (h : ∀ v' w', Own w' base e v' (xs ++ [u]) → Below base w w' → w.grownBy w' v.ownBlock → wpList P ops Q rest (a.put o.dst v') w') : wpList P ops Q (o :: rest) a w := by
 obtain ⟨i, hi1, hi2, hi3, hi4⟩ := info_parts hi
 refine wpList_append_own w hgd s x t ho base e i z 1 bytes ht hi1 hi2 hi3 hi4 hz (by decide) v xs.length xs hs hown ⟨b, 0, none⟩ 1 1 [u] hx rfl ?_ ?_ ?_ ?_ hbase ?_
 ·intro j u' hj
  cases j with
  | zero => simp at hj; subst hj; simpa [Addr.add] using hc
  | succ j => simp at hj
 ·intro u' hu'; simp at hu'; subst hu'; exact hu
 ·unfold maxLen; omega
 ·have : (xs.length + 1) * bytes ≤ 1000000000 * 64 := Nat.mul_le_mul (by omega) hby
  omega
 ·intro v' w' h1 h2 _
  refine h v' w' (by unfold Own; rw [List.length_append]; exact h1) ((Below.refl base w).grown h2 hbase fun k hk => (hown.lt k hk).1) h2

theorem cell_below {w w' : World} {B : Nat} {p : Addr} {v : Value} (hB : Below B w w') (hp : p.block < B) (h : w.cell? p = some v) : w'.cell? p = some v := (hB.cell hp).trans h

theorem ret_int {k : IntKind} {a b : Int} (h : a = b) : Ending.returned (.int k a) = .returned (.int k b) := by rw [h]
theorem ret_bool {a b : Bool} (h : a = b) : Ending.returned (.bool a) = .returned (.bool b) := by rw [h]

end Go.My
