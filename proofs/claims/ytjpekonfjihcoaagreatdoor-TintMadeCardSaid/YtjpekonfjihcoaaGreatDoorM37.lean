/- Contracts and mathematics, joined: RowL, R6, R7. Conditions stand with each. -/
import Derived.ArgAppend
import Derived.Below
import Derived.BigQuiet
import Derived.Deep.DeepCutAuto
import Derived.Deep.DeepFit
import Derived.Deep.LoopGhost
import Derived.Deep.QuietTactic
import Derived.Deep.RegionHeld
import Derived.Deep.RegionHeld3
import Derived.Deep.RegionWith
import Derived.Deep.Upon
import Derived.Defers
import Derived.Laws.EntriesVeiled
import Derived.Laws.OwnMore
import Derived.Lib.Hide
import Derived.Lib.IndexBytes
import Derived.Lib.ItoaNum
import Derived.Lib.SplitLaws
import Derived.LoopIn
import Derived.LoopNIn
import Derived.Maps.AppendAt
import Derived.Maps.Keyed
import Derived.Maps.OwnIn
import Derived.OrdersHeld
import Derived.OwnWalkIn
import Derived.RangeFuncBound
import Derived.RangeFuncCalls
import Derived.RangeFuncLeaves
import Derived.RangeFuncNested
import Derived.Recover
import Derived.RegionIn
import Derived.Shelf.Abstract
import Derived.TacticsIn
import Derived.TacticsInMore
import Derived.Test.YtjpekonfjihcoaaGreatDoorProg
import Derived.WalkKit
import Derived.WalkLawsBesides
import Derived.WalkSpells
import Derived.Test.YtjpekonfjihcoaaGreatDoorM2
import Derived.Test.YtjpekonfjihcoaaGreatDoorM4
import Derived.Test.YtjpekonfjihcoaaGreatDoorM24
import Derived.Test.YtjpekonfjihcoaaGreatDoorM11
import Derived.Test.YtjpekonfjihcoaaGreatDoorM1
import Derived.Test.YtjpekonfjihcoaaGreatDoorM16
import Derived.Test.YtjpekonfjihcoaaGreatDoorM3
import Derived.Test.YtjpekonfjihcoaaGreatDoorM8
import Derived.Test.YtjpekonfjihcoaaGreatDoorM17
namespace Go.TintM
end Go.TintM
set_option maxRecDepth 100000
set_option maxHeartbeats 64000000
set_option linter.unusedVariables false
set_option linter.unusedSimpArgs false
/- Rows of rows of one's own, and append to them. No condition. -/
namespace Go.Proofs.YtjpekonfjihcoaaGreatDoor
open Go.RowKit Go.My Go.TintM

abbrev uppL (ss : List (List Nat)) : List (List Int) := ss.map upL
theorem uppL_length (ss : List (List Nat)) : (uppL ss).length = ss.length := by simp [uppL]
theorem isInts_one {w : World} {u : Value} {l : List Int} (h : IsInts w u l) : u.oneCell' = true := by
 obtain ⟨oa, cap, rfl, _⟩ := h; rfl
theorem rows_of_own {w : World} {B : Nat} {e : TypeId} {v : Value} {ls : List (List Int)} {xs : List Value} (h : My.Own w B e v xs) (hl : xs.length = ls.length)
  (hx : ∀ (i : Nat) (l : List Int), ls[i]? = some l → ∃ u, xs[i]? = some u ∧ IsInts w u l) : IsRows w v ls :=
 isRows_of_own (B := B) (e := e) (by unfold My.Own at h; rwa [hl] at h) hx
/-- A row of numbers that no slice of the call's own (from base on) shares a block with. -/
def RowE (w : World) (base : Nat) (u : Value) (l : List Int) : Prop :=
 ∃ oa cap, u = .slice oa l.length cap ∧ l.length ≤ cap ∧ cap ≤ maxLen ∧ (oa = none → cap = 0) ∧
  ∀ (i : Nat) (x : Int), l[i]? = some x → ∃ b off, oa = some ⟨b, off, none⟩ ∧ (b < base ∨ ∃ arr fr, w.heap[b]? = some (.cells arr 3 fr)) ∧ b < w.heap.size ∧ w.cell? ⟨b, off + i, none⟩ = some (.int .i64 x)

theorem RowE.ints {w : World} {base : Nat} {u : Value} {l : List Int} (h : RowE w base u l) : IsInts w u l := by
 obtain ⟨oa, cap, h1, h2, h3, h4, h5⟩ := h
 exact ⟨oa, cap, h1, h2, h3, h4, fun i x hx => by obtain ⟨b, off, k1, _, k2, k3⟩ := h5 i x hx; exact ⟨b, off, k1, k2, k3⟩⟩
theorem RowE.one {w : World} {base : Nat} {u : Value} {l : List Int} (h : RowE w base u l) : u.oneCell' = true := isInts_one h.ints
theorem RowE.ext {w w' : World} {base : Nat} {u : Value} {l : List Int} (h : RowE w base u l) (hE : Ext w w') : RowE w' base u l := by
 obtain ⟨oa, cap, h1, h2, h3, h4, h5⟩ := h
 refine ⟨oa, cap, h1, h2, h3, h4, fun i x hx => ?_⟩
 obtain ⟨b, off, k1, k2, k3, k4⟩ := h5 i x hx
 exact ⟨b, off, k1, k2.imp id (fun ⟨arr, fr, k⟩ => ⟨arr, fr, (hE.block b k3).trans k⟩), Nat.lt_of_lt_of_le k3 hE.size, cell_ext hE k4⟩
theorem RowE.of_below {w W : World} {base : Nat} {u : Value} {l : List Int} (h : IsInts w u l) (hE : Ext w W) (hb : w.heap.size ≤ base) : RowE W base u l := by
 obtain ⟨oa, cap, h1, h2, h3, h4, h5⟩ := h
 refine ⟨oa, cap, h1, h2, h3, h4, fun i x hx => ?_⟩
 obtain ⟨b, off, k1, k2, k3⟩ := h5 i x hx
 exact ⟨b, off, k1, .inl (Nat.lt_of_lt_of_le k2 hb), Nat.lt_of_lt_of_le k2 hE.size, cell_ext hE k3⟩
theorem RowE.of_own {w : World} {B base : Nat} {v : Value} {l : List Int} (h : My.Own w B 3 v (l.map (Value.int .i64))) : RowE w base v l := by
 obtain ⟨h1, h2⟩ := h
 rcases h2 with ⟨rfl, h2⟩ | ⟨g, cap, cur, rfl, hb, hg, hn, hc, hs, ht⟩
 ·have : l = [] := by simpa using h2
  subst this
  exact ⟨none, 0, rfl, Nat.le_refl _, by simp [maxLen], fun _ => rfl, fun i x hx => by simp at hx⟩
 ·rw [List.length_map] at hn
  refine ⟨_, cap, by rw [List.length_map], hn, hc, (fun h => by cases h), fun i x hx => ⟨g, 0, rfl, .inr ⟨cur, _, hg⟩, (Array.getElem?_eq_some_iff.1 hg).1, ?_⟩⟩
  have hx' : (l.map (Value.int .i64))[i]? = some (.int .i64 x) := by simp [hx]
  rw [← ht, List.getElem?_take] at hx'
  split at hx'
  ·rw [cell_of_row w g (0 + i) cur 3 (0, 0) hg]; simpa using hx'
  ·cases hx'
theorem RowE.grown {w w' : World} {B base : Nat} {u v : Value} {l : List Int} {xs : List Value} (h : RowE w B u l) (hB : B ≤ base) (ho : My.Own w base 29 v xs) (hg : w.grownBy w' v.ownBlock) : RowE w' B u l := by
 obtain ⟨oa, cap, h1, h2, h3, h4, h5⟩ := h
 refine ⟨oa, cap, h1, h2, h3, h4, fun i x hx => ?_⟩
 obtain ⟨b, off, k1, k2, k3, k4⟩ := h5 i x hx
 have hne : some b ≠ v.ownBlock := by
  rcases ho.2 with ⟨rfl, _⟩ | ⟨g, cap, cur, rfl, hb, hgg, _⟩
  ·simp [Value.ownBlock]
  ·simp only [Value.ownBlock, ne_eq, Option.some.injEq]
   intro e
   subst e
   rcases k2 with k2 | ⟨arr, fr, k2⟩
   ·omega
   ·rw [hgg] at k2; simp at k2
 have hblk := hg.block b k3 hne
 exact ⟨b, off, k1, k2.imp id (fun ⟨arr, fr, k⟩ => ⟨arr, fr, hblk.trans k⟩), Nat.lt_of_lt_of_le k3 hg.size, (World.cell?_of_block hblk).trans k4⟩

/-- A slice of the call's own (from base on) whose elements are these rows (below B, or rows of numbers). -/
def OwnR (w : World) (B base : Nat) (v : Value) (ss : List (List Nat)) : Prop :=
 B ≤ base ∧ ∃ xs, My.Own w base 29 v xs ∧ xs.length = ss.length ∧ ∀ (i : Nat) (s : List Nat), ss[i]? = some s → ∃ u, xs[i]? = some u ∧ RowE w B u (upL s)
theorem OwnR.nil (w : World) {B base : Nat} (h : B ≤ base) : OwnR w B base (.slice none 0 0) [] := ⟨h, [], My.Own.nil _ _ _, rfl, fun i s h => by simp at h⟩
theorem OwnR.ext {w w' : World} {B base : Nat} {v : Value} {ss : List (List Nat)} (h : OwnR w B base v ss) (hE : Ext w w') : OwnR w' B base v ss := by
 obtain ⟨h0, xs, h1, h2, h3⟩ := h
 exact ⟨h0, xs, h1.ext hE, h2, fun i s hs => by obtain ⟨u, k1, k2⟩ := h3 i s hs; exact ⟨u, k1, k2.ext hE⟩⟩
theorem OwnR.rows {w : World} {B base : Nat} {v : Value} {ss : List (List Nat)} (h : OwnR w B base v ss) : IsRows w v (uppL ss) := by
 obtain ⟨_, xs, h1, h2, h3⟩ := h
 refine rows_of_own h1 (by rw [uppL_length, h2]) fun i l hl => ?_
 simp only [uppL, List.getElem?_map, Option.map_eq_some_iff] at hl
 obtain ⟨s, hs, rfl⟩ := hl
 obtain ⟨u, k1, k2⟩ := h3 i s hs
 exact ⟨u, k1, k2.ints⟩
theorem OwnR.slice {w : World} {B base : Nat} {v : Value} {ss : List (List Nat)} (h : OwnR w B base v ss) : ∃ oa cap, v = .slice oa ss.length cap ∧ ss.length ≤ cap ∧ cap ≤ maxLen ∧ (oa = none → cap = 0) ∧ RowsAt w oa (uppL ss) := by
 obtain ⟨oa, cap, h1, h2, h3, h4, h5⟩ := h.rows
 rw [uppL_length] at h1 h2
 exact ⟨oa, cap, h1, h2, h3, h4, h5⟩
theorem RowE.turned {w w' : World} {B i : Nat} {u : Value} {l : List Int} (h : RowE w B u l) (hT : Turned i w w') (hi : B ≤ i) (ht : ∀ arr fr, w.heap[i]? ≠ some (.cells arr 3 fr)) : RowE w' B u l := by
 obtain ⟨oa, cap, h1, h2, h3, h4, h5⟩ := h
 refine ⟨oa, cap, h1, h2, h3, h4, fun j x hx => ?_⟩
 obtain ⟨b, off, k1, k2, k3, k4⟩ := h5 j x hx
 have hne : b ≠ i := by
  intro e
  subst e
  rcases k2 with k2 | ⟨arr, fr, k2⟩
  ·omega
  ·exact ht _ _ k2
 have hblk := hT.block b k3 (by simpa using hne)
 exact ⟨b, off, k1, k2.imp id (fun ⟨arr, fr, k⟩ => ⟨arr, fr, hblk.trans k⟩), Nat.lt_of_lt_of_le k3 hT.size, (World.cell?_of_block hblk).trans k4⟩
theorem OwnR.turned {w w' : World} {B base i : Nat} {v : Value} {ss : List (List Nat)} (h : OwnR w B base v ss) (hT : Turned i w w') (hi : B ≤ i) (hb : i < base) (ht : ∀ arr fr, w.heap[i]? ≠ some (.cells arr 3 fr)) : OwnR w' B base v ss := by
 obtain ⟨h0, xs, h1, h2, h3⟩ := h
 exact ⟨h0, xs, h1.turned hT hb, h2, fun j s hs => by obtain ⟨u, k1, k2⟩ := h3 j s hs; exact ⟨u, k1, k2.turned hT hi ht⟩⟩
/-- One's own box is written: what its block is made of stays. -/
theorem tag_set {w : World} {i : Nat} {t : TypeId} (h : ∃ c, w.heap[i]? = some (.cells c t (0, 0))) (hne : t ≠ 3) : ∀ arr fr, w.heap[i]? ≠ some (.cells arr 3 fr) := by
 obtain ⟨c, h⟩ := h
 intro arr fr' e
 rw [h] at e
 simp at e
 exact hne e.2.1
theorem tag_cell {w : World} {i j : Nat} {t : TypeId} (o : Nat) (v : Value) (h : ∃ c, w.heap[i]? = some (.cells c t (0, 0))) : ∃ c, (w.setCell ⟨j, o, none⟩ v).heap[i]? = some (.cells c t (0, 0)) := by
 obtain ⟨c, h⟩ := h
 by_cases e : i = j
 ·subst e
  exact ⟨_, heap_setCell_same _ _ _ _ _ _ h⟩
 ·exact ⟨c, (heap_setCell_other _ _ _ _ e).trans h⟩


/-- append of one row. -/
theorem wpList_appR (w : World) {ops : Array Oper} {rest : List Oper} {o : Oper} {a : Act} {Q : Exit → Act → World → Prop} (hgd : o.guard = none) (s x : Operand)
  (ho : o.op = .call { callee := .builtin .append, args := #[s, x], argTypes := #[119, 119] }) (B base : Nat) (v : Value) (ss : List (List Nat)) (hs : a.eval s = v)
  (hown : OwnR w B base v ss) (b : Nat) (u : Value) (l : List Nat) (hx : a.eval x = .slice (some ⟨b, 0, none⟩) 1 1) (hc : w.cell? ⟨b, 0, none⟩ = some u) (hu : RowE w B u (upL l))
  (hl : ss.length < 1000000000) (hbase : base ≤ w.heap.size)
  (h : ∀ v' w', OwnR w' B base v' (ss ++ [l]) → Below base w w' → wpList Tryz.prog ops Q rest (a.put o.dst v') w') : wpList Tryz.prog ops Q (o :: rest) a w := by
 obtain ⟨hB, xs, h1, h2, h3⟩ := hown
 refine wpList_app1 w hgd s x 119 ho 29 Tryz.underlying119 (.slice none 0 0) 24 i29 rfl (by decide) base v xs hs h1 b u hx hc hu.one (by omega) hbase ?_
 intro v' w' k1 k2 k3
 refine h v' w' ⟨hB, xs ++ [u], k1, by simp [h2], fun i s' hs' => ?_⟩ k2
 by_cases hi : i < ss.length
 ·rw [List.getElem?_append_left hi] at hs'
  obtain ⟨u', e1, e2⟩ := h3 i s' hs'
  exact ⟨u', by rw [List.getElem?_append_left (by omega)]; exact e1, e2.grown hB h1 k3⟩
 ·rw [List.getElem?_append_right (by omega)] at hs'
  have h0 : i - ss.length = 0 := by
   have := (List.getElem?_eq_some_iff.1 hs').1
   simp at this; omega
  rw [h0] at hs'
  simp at hs'
  subst hs'
  exact ⟨u, by rw [List.getElem?_append_right (by omega), h2, h0]; rfl, hu.grown hB h1 k3⟩


theorem wpList_appNone (w : World) {ops : Array Oper} {rest : List Oper} {o : Oper} {a : Act} {Q : Exit → Act → World → Prop} (hgd : o.guard = none) (s x : Operand) (t e : TypeId) (i : TypeInfo)
  (ho : o.op = .call { callee := .builtin .append, args := #[s, x], argTypes := #[t, t] }) (ht : Tryz.prog.underlying t = some (.slice e)) (hi : Tryz.prog.info? e = some i)
  (hs : a.eval s = .slice none 0 0) (hx : a.eval x = .slice none 0 0) (h : wpList Tryz.prog ops Q rest (a.put o.dst (.slice none 0 0)) w) : wpList Tryz.prog ops Q (o :: rest) a w := by
 refine wpList_plain hgd fun K hK' => ?_
 have hrun := run_append_nothing (P := Tryz.prog) w t t o.type e i ht hi none 0 0 (Nat.le_refl _) (.slice none 0 0) (Src.ofNil w ht 0)
 unfold Oper.wp
 simp [execOp, ho, resolve, invoke, builtin, hs, hx, hrun, Result.andThen]
 exact hK' _ _ h

/-- append([]int(nil), now...). -/
theorem wpList_appNow (w : World) {ops : Array Oper} {rest : List Oper} {o : Oper} {a : Act} {Q : Exit → Act → World → Prop} (hgd : o.guard = none) (s x : Operand)
  (ho : o.op = .call { callee := .builtin .append, args := #[s, x], argTypes := #[29, 29] }) (l : List Nat) (ob : Option Addr) (cb : Nat) (hs : a.eval s = .slice none 0 0) (hx : a.eval x = .slice ob l.length cb) (hi : IntsAt w ob (upL l)) (hnb : ob = none → cb = 0) (hcb : l.length ≤ cb)
  (hl : l.length ≤ 1000000) (h : ∀ v' w', My.Own w' w.heap.size 3 v' ((upL l).map (Value.int .i64)) → Ext w w' → wpList Tryz.prog ops Q rest (a.put o.dst v') w') : wpList Tryz.prog ops Q (o :: rest) a w := by
 obtain ⟨i, hi1, hi2, hi3, hi4⟩ := info_parts i3
 cases ob with
 | none =>
  have h0 := hnb rfl
  have hl0 : l = [] := List.eq_nil_of_length_eq_zero (by omega)
  subst hl0
  subst h0
  exact wpList_appNone w hgd s x 29 3 i ho Tryz.underlying29 hi1 hs hx (h _ _ (My.Own.nil _ _ _) (Ext.refl _))
 | some ad =>
  have hcells : ∀ (j : Nat) (u : Value), ((upL l).map (Value.int .i64))[j]? = some u → w.cell? (ad.add j) = some u := by
   intro j u hj
   rw [List.getElem?_map, Option.map_eq_some_iff] at hj
   obtain ⟨y, hy, rfl⟩ := hj
   obtain ⟨b, off, he, _, hc⟩ := hi j y hy
   cases he
   rw [add_none]
   exact hc
  refine wpList_append_own w hgd s x 29 ho w.heap.size 3 i (.int .i64 0) 1 8 Tryz.underlying29 hi1 hi2 hi3 hi4 rfl (by decide) (.slice none 0 0) 0 [] hs (My.Own.nil w w.heap.size 3) ad l.length cb ((upL l).map (Value.int .i64)) hx (by simp [upL]) hcells ?_ ?_ ?_ (Nat.le_refl _) ?_
  ·intro u hu
   obtain ⟨y, _, rfl⟩ := List.mem_map.1 hu
   rfl
  ·unfold maxLen; omega
  ·omega
  ·intro v' w' ho' hg _
   refine h v' w' (by unfold My.Own; simpa [upL] using ho') ((Below.refl w.heap.size w).grown hg (Nat.le_refl _) fun k hk => ?_)
   simp [Value.ownBlock] at hk

/-- A slice of rows that no slice of slices of the call's own shares a block with. -/
def OutR (w : World) (B : Nat) (v : Value) (ss : List (List Nat)) : Prop :=
 ∃ (oa : Option Addr) (cap : Nat) (xs : List Value), v = .slice oa ss.length cap ∧ ss.length ≤ cap ∧ cap ≤ maxLen ∧ (oa = none → cap = 0) ∧ xs.length = ss.length ∧
  (∀ ad, oa = some ad → ∀ (i : Nat) (u : Value), xs[i]? = some u → w.cell? (ad.add i) = some u) ∧ ∀ (i : Nat) (s : List Nat), ss[i]? = some s → ∃ u, xs[i]? = some u ∧ RowE w B u (upL s)
theorem OwnR.out {w : World} {B base : Nat} {v : Value} {ss : List (List Nat)} (h : OwnR w B base v ss) : OutR w B v ss := by
 obtain ⟨_, xs, h1, h2, h3⟩ := h
 obtain ⟨oa, cap, e1, e2, e3, e4, e5⟩ := h1.slice
 rw [h2] at e1 e2
 refine ⟨oa, cap, xs, e1, e2, e3, e4, h2, fun ad he i u hu => ?_, h3⟩
 obtain ⟨b, k1, _, k3⟩ := e5 i u hu
 rw [he] at k1
 cases k1
 rw [add_none, Nat.zero_add]
 exact k3
theorem OutR.ext {w w' : World} {B : Nat} {v : Value} {ss : List (List Nat)} (h : OutR w B v ss) (hE : Ext w w') : OutR w' B v ss := by
 obtain ⟨oa, cap, xs, h1, h2, h3, h4, h5, h6, h7⟩ := h
 exact ⟨oa, cap, xs, h1, h2, h3, h4, h5, fun ad he i u hu => cell_ext hE (h6 ad he i u hu), fun i s hs => by obtain ⟨u, k1, k2⟩ := h7 i s hs; exact ⟨u, k1, k2.ext hE⟩⟩

/-- append of some rows. -/
theorem wpList_appRs (w : World) {ops : Array Oper} {rest : List Oper} {o : Oper} {a : Act} {Q : Exit → Act → World → Prop} (hgd : o.guard = none) (s x : Operand)
  (ho : o.op = .call { callee := .builtin .append, args := #[s, x], argTypes := #[119, 119] }) (B base : Nat) (v v2 : Value) (ss ms : List (List Nat)) (hs : a.eval s = v)
  (hown : OwnR w B base v ss) (hx : a.eval x = v2) (hms : OutR w B v2 ms) (hne : ms ≠ [])
  (hl : ss.length + ms.length < 1000000000) (hbase : base ≤ w.heap.size)
  (h : ∀ v' w', OwnR w' B base v' (ss ++ ms) → Below base w w' → wpList Tryz.prog ops Q rest (a.put o.dst v') w') : wpList Tryz.prog ops Q (o :: rest) a w := by
 obtain ⟨hB, xs, h1, h2, h3⟩ := hown
 obtain ⟨oa, cap, ys, rfl, k1, k2, k3, k4, k5, k6⟩ := hms
 cases oa with
 | none =>
  have := k3 rfl
  exact absurd (List.eq_nil_of_length_eq_zero (by omega)) hne
 | some ad =>
  obtain ⟨i, hi1, hi2, hi3, hi4⟩ := info_parts i29
  refine wpList_append_own w hgd s x 119 ho base 29 i (.slice none 0 0) 1 24 Tryz.underlying119 hi1 hi2 hi3 hi4 rfl (by decide) v xs.length xs hs h1 ad ms.length cap ys hx (by rw [Nat.mul_one]; exact k4) (fun j u hj => k5 ad rfl j u hj) ?_ ?_ ?_ hbase ?_
  ·intro u hu
   obtain ⟨j, hj⟩ := List.mem_iff_getElem?.1 hu
   have hjl : j < ms.length := by rw [← k4]; exact (List.getElem?_eq_some_iff.1 hj).1
   obtain ⟨u', e1, e2⟩ := k6 j ms[j] (by simp [hjl])
   rw [hj] at e1
   cases e1
   exact e2.one
  ·unfold maxLen; omega
  ·have : (xs.length + ms.length) * 24 ≤ 1000000000 * 24 := Nat.mul_le_mul (by omega) (Nat.le_refl _)
   omega
  ·intro v' w' ho' hg _
   refine h v' w' ⟨hB, xs ++ ys, ?_, by simp [h2, k4], fun j s' hs' => ?_⟩ ((Below.refl base w).grown hg hbase fun k hk => (h1.lt k hk).1)
   ·unfold My.Own; rw [List.length_append, k4]; exact ho'
   ·by_cases hj : j < ss.length
    ·rw [List.getElem?_append_left hj] at hs'
     obtain ⟨u', e1, e2⟩ := h3 j s' hs'
     exact ⟨u', by rw [List.getElem?_append_left (by omega)]; exact e1, e2.grown hB h1 hg⟩
    ·rw [List.getElem?_append_right (by omega)] at hs'
     obtain ⟨u', e1, e2⟩ := k6 _ s' hs'
     exact ⟨u', by rw [List.getElem?_append_right (by omega), h2]; exact e1, e2.grown hB h1 hg⟩


/-- append of some rows, or of none. -/
theorem wpList_appRs0 (w : World) {ops : Array Oper} {rest : List Oper} {o : Oper} {a : Act} {Q : Exit → Act → World → Prop} (hgd : o.guard = none) (s x : Operand)
  (ho : o.op = .call { callee := .builtin .append, args := #[s, x], argTypes := #[119, 119] }) (B base : Nat) (v v2 : Value) (ss ms : List (List Nat)) (hs : a.eval s = v)
  (hown : OwnR w B base v ss) (hx : a.eval x = v2) (hms : OutR w B v2 ms)
  (hl : ss.length + ms.length < 1000000000) (hbase : base ≤ w.heap.size)
  (h : ∀ v' w', OwnR w' B base v' (ss ++ ms) → Below base w w' → wpList Tryz.prog ops Q rest (a.put o.dst v') w') : wpList Tryz.prog ops Q (o :: rest) a w := by
 by_cases hne : ms = []
 ·subst hne
  obtain ⟨i, hi1, _⟩ := info_parts i29
  obtain ⟨oa, cap, xs, rfl, k1, k2, k3, k4, _, _⟩ := hms
  obtain ⟨ov, cv, rfl, l1, _⟩ := hown.slice
  refine wpList_plain hgd fun K hK' => ?_
  have hsrc : Src Tryz.prog i.size 119 (.slice oa 0 cap) 0 [] w := by
   cases oa with
   | none => exact Src.ofNil w Tryz.underlying119 cap
   | some ad => exact Src.ofSlice w Tryz.underlying119 ad 0 cap [] (by simp) (fun j u hj => by simp at hj) (fun u hu => by cases hu)
  have hrun := run_append_nothing (P := Tryz.prog) w 119 119 o.type 29 i Tryz.underlying119 hi1 ov ss.length cv l1 (.slice oa 0 cap) hsrc
  unfold Oper.wp
  have hx' : a.eval x = .slice oa 0 cap := hx
  simp [execOp, ho, resolve, invoke, builtin, hs, hx', hrun, Result.andThen]
  exact hK' _ _ (h _ _ (by rw [List.append_nil]; exact hown) (Below.refl _ _))
 ·exact wpList_appRs w hgd s x ho B base v v2 ss ms hs hown hx hms hne hl hbase h


end Go.Proofs.YtjpekonfjihcoaaGreatDoor
/- Contracts: the reference's mixes and All. No condition. -/
namespace Go.Proofs.YtjpekonfjihcoaaGreatDoor
open Go.RowKit Go.My Go.TintM

def mixTo (k : Nat) (now : List Nat) (l n : Nat) : List (List Nat) := (List.range n).flatMap fun x => mixFrom k (now ++ [x]) (l - x)
theorem mixTo_succ (k : Nat) (now : List Nat) (l n : Nat) : mixTo k now l (n + 1) = mixTo k now l n ++ mixFrom k (now ++ [n]) (l - n) := by
 simp [mixTo, List.range_succ]
theorem mixTo_end (k : Nat) (now : List Nat) (l : Nat) : mixTo k now l (l + 1) = mixFrom (k + 1) now l := rfl
theorem mix_len : ∀ (k : Nat) (now : List Nat) (l : Nat), l ≤ 8 → (mixFrom k now l).length ≤ 9 ^ k ∧ ∀ n, n ≤ l + 1 → (mixTo k now l n).length ≤ n * 9 ^ k := by
 intro k
 induction k with
 | zero =>
  intro now l hl
  refine ⟨by simp [mixFrom], fun n hn => ?_⟩
  induction n with
  | zero => simp [mixTo]
  | succ n ih =>
   rw [mixTo_succ, List.length_append]
   have := ih (by omega)
   simp [mixFrom] at this ⊢
   omega
 | succ k ih =>
  intro now l hl
  have key : ∀ n, n ≤ l + 1 → (mixTo k now l n).length ≤ n * 9 ^ k := fun n hn => (ih now l hl).2 n hn
  have h1 : ∀ now l, l ≤ 8 → (mixFrom (k + 1) now l).length ≤ 9 ^ (k + 1) := fun now l hl => by
   rw [← mixTo_end]
   have h2 := (ih now l hl).2 (l + 1) (Nat.le_refl _)
   have h3 : (l + 1) * 9 ^ k ≤ 9 * 9 ^ k := Nat.mul_le_mul (by omega) (Nat.le_refl _)
   have h4 : 9 ^ (k + 1) = 9 * 9 ^ k := by rw [Nat.pow_succ, Nat.mul_comm]
   omega
  refine ⟨h1 now l hl, fun n hn => ?_⟩
  induction n with
  | zero => simp [mixTo]
  | succ n ihn =>
   rw [mixTo_succ, List.length_append, Nat.succ_mul]
   have h5 := ihn (by omega)
   have h6 := h1 (now ++ [n]) (l - n) (by omega)
   omega
theorem own_one {w : World} {base b : Nat} {e : TypeId} {u : Value} (hb : base ≤ b) (h : w.heap[b]? = some (.cells #[u] e (0, 0))) : My.Own w base e (.slice (some ⟨b, 0, none⟩) 1 1) [u] :=
 ⟨rfl, .inr ⟨b, 1, #[u], rfl, hb, h, Nat.le_refl _, by simp [maxLen], rfl, rfl⟩⟩

theorem OwnR.low {w : World} {b b' : Nat} {v : Value} {ss : List (List Nat)} (h : OwnR w 0 b v ss) (hb : b' ≤ b) : OwnR w 0 b' v ss := by
 obtain ⟨_, xs, h1, h2, h3⟩ := h
 exact ⟨Nat.zero_le _, xs, h1.low hb, h2, h3⟩
theorem now_all {now : List Nat} {t : Nat} (h : now.sum ≤ t) (ht : t ≤ 8) : (upL now).all in8 = true := by
 rw [List.all_eq_true]
 intro x hx
 obtain ⟨n, hn, rfl⟩ := List.mem_map.1 hx
 have := mem_le_sum hn
 simp [in8, inB]; omega

abbrev MixSays (S : SI) (ot : Option Addr) (cap k : Nat) : Prop := ∀ (now : List Nat) (on : Option Addr) (cn t : Nat) (w : World), now.length + k + 1 = S.tins.length → now.sum ≤ t → t ≤ 8 → IntsAt w on (upL now) → (on = none → cn = 0) → now.length ≤ cn →
 Calls Tryz.prog 126 #[sheetV S ot cap, .slice on now.length cn, .int .i64 (t : Nat)] w fun e w' => (∃ v, e = .returned v ∧ OwnR w' 0 w.heap.size v (mixFrom k now (t - now.sum))) ∧ Ext w w'

theorem mixes_zero (S : SI) (ot : Option Addr) (cap : Nat) (hT : S.tins.length ≤ 4) : MixSays S ot cap 0 := by
 intro now on cn t w hk hs ht hi hnb hcn
 have hl4 : now.length ≤ 4 := by omega
 have R59 := Lib.hid (fun W (hW : Ext w W) => parts_any (upL now) on cn W (hi.ext hW) (by rw [upL_length]; omega) (now_all hs ht))
 rw [upL_length, sum_up] at R59
 have Hi := Lib.hid hi
 have Hnb := Lib.hid hnb
 have e1 : IntKind.i64.wrap ((t : Int) - (now.sum : Int)) = ((t - now.sum : Nat) : Int) := by rw [IntWalk.i64_in _ (by omega)]; omega
 have hlen : ((now.length : Int) == (S.tins.length : Int) - 1) = true := by rw [beq_iff_eq]; omega
 have ew : IntKind.i64.wrap ((S.tins.length : Int) - 1) = (S.tins.length : Int) - 1 := by rw [IntWalk.i64_in _ (by omega)]
 clear hi hnb
 obtain ⟨Z, hZ⟩ : ∃ Z, Z = t - now.sum := ⟨_, rfl⟩
 rw [← hZ] at e1 ⊢
 have HZ := Lib.hid hZ
 clear hZ
 go_enter Tryz.func126, Tryz.ntmps126
 go_wp2_with (first | (go_at_call 59; refine (R59.out _ ((Ext.refl w).alloc _)).mono ?_; rintro e w1 ⟨rfl, rfl⟩) | (at_builtin; refine wpList_appNow _ rfl _ _ rfl now on cn rfl rfl (Hi.out.ext ((Ext.refl w).alloc _)) Hnb.out hcn (by omega) ?_))
 intro v1 w1 ho1 hE1
 have HE1 := Lib.hid (((Ext.refl w).alloc _).trans hE1)
 have Ho1 := Lib.hid ho1
 have hs1 := HE1.out.size
 have hsz := hE1.size
 simp only [World.size_alloc] at hsz
 clear ho1 hE1
 go_wp2_with (first | (at_builtin; refine wpList_app1 _ rfl _ _ 29 rfl 3 Tryz.underlying29 (.int .i64 0) 8 i3 rfl (by decide) (w.heap.size + 1) _ _ rfl (Ho1.out.ext ((Ext.refl _).alloc _)) w1.heap.size (.int .i64 (Z : Nat)) rfl (by go_simp) rfl (by rw [List.length_map, upL_length]; omega) (by simp; omega) ?_))
 intro v2 w2 ho2 hB2 _
 have HE2 := Lib.hid (show Ext w w2 from (HE1.out.alloc _).below hB2 (by omega))
 have ho3 : My.Own w2 (w.heap.size + 1) 3 v2 ((upL (now ++ [Z])).map (Value.int .i64)) := by rw [upL_snoc, List.map_append]; exact ho2
 obtain ⟨o2, c2, hv2, _⟩ := ho3.slice
 generalize (List.map (Value.int .i64) (upL (now ++ [Z]))).length = LQ at hv2
 subst hv2
 have Ho3 := Lib.hid ho3
 clear ho2 hB2 ho3
 go_wp2
 go_ret
 refine ⟨⟨_, rfl, Nat.zero_le _, [_], own_one HE2.out.size (heap_alloc_new _ _), rfl, fun i s hs => ?_⟩, HE2.out.alloc _⟩
 cases i with
 | zero =>
  simp [mixFrom] at hs
  subst hs
  exact ⟨_, rfl, RowE.of_own (Ho3.out.ext ((Ext.refl _).alloc _))⟩
 | succ i => simp [mixFrom] at hs

theorem mixes_succ (S : SI) (ot : Option Addr) (cap k : Nat) (hT : S.tins.length ≤ 4) (ih : MixSays S ot cap k) : MixSays S ot cap (k + 1) := by
 intro now on cn t w hk hs ht hi hnb hcn
 have hl4 : now.length ≤ 4 := by omega
 have hk3 : k ≤ 3 := by omega
 have R59 := Lib.hid (fun W (hW : Ext w W) => parts_any (upL now) on cn W (hi.ext hW) (by rw [upL_length]; omega) (now_all hs ht))
 rw [upL_length, sum_up] at R59
 have Hi := Lib.hid hi
 have Hnb := Lib.hid hnb
 have e1 : IntKind.i64.wrap ((t : Int) - (now.sum : Int)) = ((t - now.sum : Nat) : Int) := by rw [IntWalk.i64_in _ (by omega)]; omega
 have hlen : ((now.length : Int) == (S.tins.length : Int) - 1) = false := by rw [beq_eq_false_iff_ne]; omega
 have ew : IntKind.i64.wrap ((S.tins.length : Int) - 1) = (S.tins.length : Int) - 1 := by rw [IntWalk.i64_in _ (by omega)]
 obtain ⟨Z, hZ⟩ : ∃ Z, Z = t - now.sum := ⟨_, rfl⟩
 have HIH := Lib.hid (fun n (hn : n ≤ Z) o2 c2 W (h1 : IntsAt W o2 (upL (now ++ [n]))) (h2 : o2 = none → c2 = 0) (h3 : (now ++ [n]).length ≤ c2) => (show Calls Tryz.prog 126 #[sheetV S ot cap, .slice o2 (now ++ [n]).length c2, .int .i64 (t : Nat)] W fun e w' => (∃ v, e = .returned v ∧ OwnR w' 0 W.heap.size v (mixFrom k (now ++ [n]) (Z - n))) ∧ Ext W w' from by
  have h4 := ih (now ++ [n]) o2 c2 t W (by rw [List.length_append, List.length_singleton]; omega) (by rw [List.sum_append, List.sum_singleton]; omega) ht h1 h2 h3
  rw [List.sum_append, List.sum_singleton, show t - (now.sum + n) = Z - n by omega] at h4
  exact h4))
 rw [← hZ] at e1 ⊢
 have hZ8 : Z ≤ 8 := by omega
 have hp9 : 9 ^ k ≤ 9 ^ 3 := Nat.pow_le_pow_right (by omega) hk3
 have Hml := Lib.hid (fun n (hn : n ≤ Z + 1) => (show (mixTo k now Z n).length ≤ 6561 by
  have h1 := (mix_len k now Z hZ8).2 n hn
  have h2 : n * 9 ^ k ≤ 9 * 9 ^ 3 := Nat.mul_le_mul (by omega) hp9
  omega))
 have Hml2 := Lib.hid (fun n (hn : n ≤ Z) => (show (mixFrom k (now ++ [n]) (Z - n)).length ≤ 729 by
  have h1 := (mix_len k (now ++ [n]) (Z - n) (by omega)).1
  omega))
 clear hi hnb hZ ih hp9 hs hk hk3
 go_enter Tryz.func126, Tryz.ntmps126
 go_wp2_with (first | (go_at_call 59; refine (R59.out _ ((Ext.refl w).alloc _)).mono ?_; rintro e w1 ⟨rfl, rfl⟩))
 obtain ⟨w0, hw0⟩ : ∃ W, W = w.alloc (.cells (sheetC S ot cap) 28) := ⟨_, rfl⟩
 have HE0 := Lib.hid (show Ext w w0 by rw [hw0]; exact (Ext.refl w).alloc _)
 have HP := Lib.hid (show SheetBox w0 w.heap.size S ot cap by rw [hw0]; exact SheetBox.new _ _ _ _)
 have hs0 : w0.heap.size = w.heap.size + 1 := by rw [hw0]; simp
 have hs0' : w.heap.size + 1 ≤ w0.heap.size := by omega
 have hs0'' : w0.heap.size ≤ w.heap.size + 1 := by omega
 rw [← hw0]
 clear hw0 hs0
 go_loopg [8, 9] (Z + 1) (fun g v i wr => ∃ n : Nat, n + g = Z + 1 ∧ i = .int .i64 n ∧ Ext w0 wr ∧ OwnR wr 0 (w.heap.size + 1) v (mixTo k now Z n))
 case atStart => exact ⟨0, by omega, rfl, Ext.refl _, OwnR.nil _ (Nat.zero_le _)⟩
 case round =>
  obtain ⟨n, hn, rfl, hE, hv⟩ := hrel
  have HE := Lib.hid hE
  have hsE := hE.size
  have HV := Lib.hid hv
  have HPr := Lib.hid (HP.out.ext hE)
  clear hE hv
  by_cases hnZ : n ≤ Z
  ·have hnI : (n : Int) ≤ (Z : Int) := by omega
   have c0 := HPr.out 0 _ rfl
   have c1 := HPr.out 1 _ rfl
   have c2 := HPr.out 2 _ rfl
   have c3 := HPr.out 3 _ rfl
   have c4 := HPr.out 4 _ rfl
   have c5 := HPr.out 5 _ rfl
   have c6 := HPr.out 6 _ rfl
   have c7 := HPr.out 7 _ rfl
   have c8 := HPr.out 8 _ rfl
   have c9 := HPr.out 9 _ rfl
   have c10 := HPr.out 10 _ rfl
   have c11 := HPr.out 11 _ rfl
   have c12 := HPr.out 12 _ rfl
   go_wp2_with fail
   refine wp_region_plan (.take 0 <| .take 1 <| .take 2 <| .take 4 <| .take 7 <| .two 3 5 (.only 5 <| .only 6 <| .only 8 <| .only 9 <| .take 10 <| .done) (.only 3 <| .only 6 <| .only 8 <| .only 9 <| .take 10 <| .done)) (fun W => SheetBox W w.heap.size S ot cap) mixed (by kernel_rfl) (by kernel_rfl) rfl (fun _ _ d _ _ h => by cases d <;> exact h) (HPr.out.ext (Ext.refl wr).drew) ?_
   repeat ((first | (refine plan_take (v := ?_) rfl rfl (fun W hW => ?_) ?_; rotate_left; (focus (have d0 := hW 0 _ rfl; have d1 := hW 1 _ rfl; have d2 := hW 2 _ rfl; have d3 := hW 3 _ rfl; have d4 := hW 4 _ rfl; have d5 := hW 5 _ rfl; have d6 := hW 6 _ rfl; have d7 := hW 7 _ rfl; have d8 := hW 8 _ rfl; have d9 := hW 9 _ rfl; have d10 := hW 10 _ rfl; have d11 := hW 11 _ rfl; have d12 := hW 12 _ rfl; go_simp; first | exact rfl | (split <;> first | exact rfl | (exfalso; omega)) | done))) | refine plan_skip rfl rfl ?_); simp only [puts])
   clear c0 c1 c2 c3 c4 c5 c6 c7 c8 c9 c10 c11 c12
   obtain ⟨wd, hwd⟩ : ∃ wd, wd = wr.drew := ⟨_, rfl⟩
   have ED := Lib.hid (show Ext wr wd by rw [hwd]; exact (Ext.refl wr).drew)
   have hsd := ED.out.size
   rw [← hwd]
   clear hwd
   refine plan_two rfl rfl ?_ ?_
   ·intro K hK
    go_wp2_with (first | (at_builtin; refine wpList_appNow _ rfl _ _ rfl now on cn rfl rfl (Hi.out.ext (HE0.out.trans (HE.out.trans ED.out))) Hnb.out hcn (by omega) ?_))
    intro v1 w1 ho1 hE1
    have hs1 := hE1.size
    have X1 := Lib.hid (ED.out.trans hE1)
    have Ho1 := Lib.hid ho1
    clear ho1 hE1
    go_wp2
    refine hK _ _ (HPr.out.ext X1.out) ?_
    refine plan_walk rfl ?_; intro K hK
    go_wp2
    obtain ⟨wq, hwq⟩ : ∃ W, W = w1.alloc (.cells #[.int .i64 (n : Nat)] 3) := ⟨_, rfl⟩
    have X := Lib.hid (show Ext wr wq by rw [hwq]; exact X1.out.alloc _)
    have HO := Lib.hid (show My.Own wq wd.heap.size 3 v1 ((upL now).map (Value.int .i64)) by rw [hwq]; exact Ho1.out.ext ((Ext.refl _).alloc _))
    have HB := Lib.hid (show wq.cell? ⟨w1.heap.size, 0, none⟩ = some (.int .i64 (n : Nat)) by rw [hwq]; go_simp)
    have hsq : wr.heap.size ≤ wq.heap.size := X.out.size
    have hsq2 : w1.heap.size ≤ wq.heap.size := by rw [hwq]; simp
    rw [← hwq]
    clear hwq Ho1 X1
    refine hK _ _ (HPr.out.ext X.out) ?_
    refine plan_walk rfl ?_; intro K hK
    go_wp2_with (first | (at_builtin; refine wpList_app1 _ rfl _ _ 29 rfl 3 Tryz.underlying29 (.int .i64 0) 8 i3 rfl (by decide) (wd.heap.size) _ _ rfl HO.out (w1.heap.size) (.int .i64 (n : Nat)) rfl HB.out rfl (by rw [List.length_map, upL_length]; omega) (by omega) ?_))
    intro v2 w2 ho2 hB2 _
    have hX2 : Ext wr w2 := X.out.below hB2 (by omega)
    have hO2 : My.Own w2 (wd.heap.size) 3 v2 ((upL (now ++ [n])).map (Value.int .i64)) := by rw [upL_snoc, List.map_append]; exact ho2
    obtain ⟨o2, c2, hv2, n1, n2, n3, n4⟩ := hO2.slice
    rw [List.length_map, upL_length] at hv2 n1
    subst hv2
    have hi2 := (FreshAt.of_own hO2).ints
    have r126 := HIH.out n hnZ o2 c2 w2 hi2 n3 n1
    generalize (now ++ [n]).length = LQ at r126 ⊢
    have R126 := Lib.hid r126
    clear r126
    have X2 := Lib.hid hX2
    clear ho2 hB2 hX2 hO2 n1 n2 n3 n4 hi2 HO HB
    go_wp2
    refine hK _ _ (HPr.out.ext X2.out) ?_
    refine plan_walk rfl ?_; intro K hK
    go_wp2_with (first | (go_at_call 126; refine R126.out.mono ?_; rintro e w3 ⟨⟨v3, rfl, ho3⟩, hE3⟩))
    have X3 := Lib.hid (X2.out.trans hE3)
    have Ho3 := Lib.hid ho3
    clear ho3 hE3
    refine hK _ _ (HPr.out.ext X3.out) ?_
    have hs3 := X3.out.size
    refine plan_walk rfl ?_; intro K hK
    go_wp2_with (first | (at_builtin; refine wpList_appRs0 _ rfl _ _ rfl 0 (w.heap.size + 1) _ _ (mixTo k now Z n) _ rfl (HV.out.ext X3.out) rfl Ho3.out.out (by have := Hml.out n (by omega); have := Hml2.out n hnZ; omega) (by omega) ?_))
    intro v4 w4 h4 hB4
    have HN := Lib.hid (show OwnR w4 0 (w.heap.size + 1) v4 (mixTo k now Z (n + 1)) by rw [mixTo_succ]; exact h4)
    have HE4 := Lib.hid ((HE.out.trans X3.out).below hB4 (by omega))
    have HS4 := Lib.hid (show SheetBox w4 w.heap.size S ot cap from fun i v hv => cell_below hB4 (by simp) ((HPr.out.ext X3.out) i v hv))
    clear h4 hB4
    go_wp2
    refine hK _ _ HS4.out ?_
    repeat ((first | (refine plan_take (v := ?_) rfl rfl (fun W hW => ?_) ?_; rotate_left; (focus (skip; go_simp; first | exact rfl | (split <;> first | exact rfl | (exfalso; omega)) | done))) | refine plan_skip rfl rfl ?_); simp only [puts])
    refine plan_done ?_
    go_wp2
    go_roundg (gk - 1)
    case measure => omega
    case rel => exact ⟨n + 1, by omega, by go_num, HE4.out, HN.out⟩
   ·intro K hK
    go_wp2
    obtain ⟨wq0, hwq⟩ : ∃ W, W = wd.alloc (.cells #[.int .i64 (n : Nat)] 3) := ⟨_, rfl⟩
    have X1 := Lib.hid (show Ext wr wq0 by rw [hwq]; exact ED.out.alloc _)
    have HB1 := Lib.hid (show wq0.cell? ⟨wd.heap.size, 0, none⟩ = some (.int .i64 (n : Nat)) by rw [hwq]; go_simp)
    rw [← hwq]
    clear hwq
    refine hK _ _ (HPr.out.ext X1.out) ?_
    refine plan_walk rfl ?_; intro K hK
    go_wp2_with (first | (at_builtin; refine wpList_appNow _ rfl _ _ rfl now on cn rfl rfl (Hi.out.ext (HE0.out.trans (HE.out.trans X1.out))) Hnb.out hcn (by omega) ?_))
    intro v1 wq ho1 hE1
    have hs1 := hE1.size
    have hs2 := X1.out.size
    have X := Lib.hid (X1.out.trans hE1)
    have HO := Lib.hid ho1
    have HB := Lib.hid (cell_ext hE1 HB1.out)
    clear ho1 hE1 X1 HB1
    go_wp2
    refine hK _ _ (HPr.out.ext X.out) ?_
    refine plan_walk rfl ?_; intro K hK
    go_wp2_with (first | (at_builtin; refine wpList_app1 _ rfl _ _ 29 rfl 3 Tryz.underlying29 (.int .i64 0) 8 i3 rfl (by decide) (wq0.heap.size) _ _ rfl HO.out (wd.heap.size) (.int .i64 (n : Nat)) rfl HB.out rfl (by rw [List.length_map, upL_length]; omega) (by omega) ?_))
    intro v2 w2 ho2 hB2 _
    have hX2 : Ext wr w2 := X.out.below hB2 (by omega)
    have hO2 : My.Own w2 (wq0.heap.size) 3 v2 ((upL (now ++ [n])).map (Value.int .i64)) := by rw [upL_snoc, List.map_append]; exact ho2
    obtain ⟨o2, c2, hv2, n1, n2, n3, n4⟩ := hO2.slice
    rw [List.length_map, upL_length] at hv2 n1
    subst hv2
    have hi2 := (FreshAt.of_own hO2).ints
    have r126 := HIH.out n hnZ o2 c2 w2 hi2 n3 n1
    generalize (now ++ [n]).length = LQ at r126 ⊢
    have R126 := Lib.hid r126
    clear r126
    have X2 := Lib.hid hX2
    clear ho2 hB2 hX2 hO2 n1 n2 n3 n4 hi2 HO HB
    go_wp2
    refine hK _ _ (HPr.out.ext X2.out) ?_
    refine plan_walk rfl ?_; intro K hK
    go_wp2_with (first | (go_at_call 126; refine R126.out.mono ?_; rintro e w3 ⟨⟨v3, rfl, ho3⟩, hE3⟩))
    have X3 := Lib.hid (X2.out.trans hE3)
    have Ho3 := Lib.hid ho3
    clear ho3 hE3
    refine hK _ _ (HPr.out.ext X3.out) ?_
    have hs3 := X3.out.size
    refine plan_walk rfl ?_; intro K hK
    go_wp2_with (first | (at_builtin; refine wpList_appRs0 _ rfl _ _ rfl 0 (w.heap.size + 1) _ _ (mixTo k now Z n) _ rfl (HV.out.ext X3.out) rfl Ho3.out.out (by have := Hml.out n (by omega); have := Hml2.out n hnZ; omega) (by omega) ?_))
    intro v4 w4 h4 hB4
    have HN := Lib.hid (show OwnR w4 0 (w.heap.size + 1) v4 (mixTo k now Z (n + 1)) by rw [mixTo_succ]; exact h4)
    have HE4 := Lib.hid ((HE.out.trans X3.out).below hB4 (by omega))
    have HS4 := Lib.hid (show SheetBox w4 w.heap.size S ot cap from fun i v hv => cell_below hB4 (by simp) ((HPr.out.ext X3.out) i v hv))
    clear h4 hB4
    go_wp2
    refine hK _ _ HS4.out ?_
    repeat ((first | (refine plan_take (v := ?_) rfl rfl (fun W hW => ?_) ?_; rotate_left; (focus (skip; go_simp; first | exact rfl | (split <;> first | exact rfl | (exfalso; omega)) | done))) | refine plan_skip rfl rfl ?_); simp only [puts])
    refine plan_done ?_
    go_wp2
    go_roundg (gk - 1)
    case measure => omega
    case rel => exact ⟨n + 1, by omega, by go_num, HE4.out, HN.out⟩
  ·have hnI : ¬ (n : Int) ≤ (Z : Int) := by omega
   have hnn : n = Z + 1 := by omega
   have HF := Lib.hid (show OwnR wr 0 (w.heap.size + 1) _ (mixFrom (k + 1) now Z) by rw [← mixTo_end, ← hnn]; exact HV.out)
   clear HV hnn
   go_wp2
   go_ret
   exact ⟨⟨_, rfl, OwnR.low HF.out (by omega)⟩, HE0.out.trans HE.out⟩

theorem rmixes_any (S : SI) (ot : Option Addr) (cap : Nat) (hT : S.tins.length ≤ 4) : ∀ k, MixSays S ot cap k
 | 0 => mixes_zero S ot cap hT
 | k + 1 => mixes_succ S ot cap k hT (rmixes_any S ot cap hT k)

end Go.Proofs.YtjpekonfjihcoaaGreatDoor
/- Contract: the reference's All. No condition. -/
namespace Go.Proofs.YtjpekonfjihcoaaGreatDoor
open Go.RowKit Go.My Go.TintM

theorem allTo_small {t : Nat} (ht : t ≤ 4) : ∀ x, x ≤ 8 → (allTo t x).length ≤ x * 729 := by
 intro x
 induction x with
 | zero => intro _; simp [allTo]
 | succ x ih =>
  intro hx
  have h1 := ih (by omega)
  have h2 := (mix_len (t - 1) [] (x + 1) (by omega)).1
  have h3 : 9 ^ (t - 1) ≤ 9 ^ 3 := Nat.pow_le_pow_right (by omega) (by omega)
  rw [allTo_succ, List.length_append]
  omega

theorem rAll_any (S : SI) (ot : Option Addr) (cap : Nat) (hT1 : 1 ≤ S.tins.length) (hT : S.tins.length ≤ 4) (w : World) :
  Calls Tryz.prog 92 #[sheetV S ot cap] w fun e w' => (∃ v, e = .returned v ∧ OwnR w' 0 w.heap.size v (allMix S.tins.length)) ∧ Ext w w' := by
 have R126 := Lib.hid (fun x (hx : x < 8) W => (show Calls Tryz.prog 126 #[sheetV S ot cap, .slice none 0 0, .int .i64 ((x + 1 : Nat) : Int)] W fun e w' => (∃ v, e = .returned v ∧ OwnR w' 0 W.heap.size v (mixFrom (S.tins.length - 1) [] (x + 1))) ∧ Ext W w' from
  rmixes_any S ot cap hT (S.tins.length - 1) [] none 0 (x + 1) W (by simp; omega) (by simp) (by omega) (fun i x hx => by simp [upL] at hx) (fun _ => rfl) (by simp)))
 have Hl := Lib.hid (fun x (hx : x ≤ 8) => allTo_small hT x hx)
 have Hl2 := Lib.hid (fun x (hx : x < 8) => (show (mixFrom (S.tins.length - 1) [] (x + 1)).length ≤ 729 by
  have h2 := (mix_len (S.tins.length - 1) [] (x + 1) (by omega)).1
  have h3 : 9 ^ (S.tins.length - 1) ≤ 9 ^ 3 := Nat.pow_le_pow_right (by omega) (by omega)
  omega))
 go_enter Tryz.func92, Tryz.ntmps92
 go_wp2
 obtain ⟨w0, hw0⟩ : ∃ W, W = w.alloc (.cells (sheetC S ot cap) 28) := ⟨_, rfl⟩
 have HE0 := Lib.hid (show Ext w w0 by rw [hw0]; exact (Ext.refl w).alloc _)
 have HP := Lib.hid (show SheetBox w0 w.heap.size S ot cap by rw [hw0]; exact SheetBox.new _ _ _ _)
 have hs0 : w0.heap.size = w.heap.size + 1 := by rw [hw0]; simp
 have hs0' : w.heap.size + 1 ≤ w0.heap.size := by omega
 have hs0'' : w0.heap.size ≤ w.heap.size + 1 := by omega
 rw [← hw0]
 clear hw0 hs0
 go_loopg [3, 4] 8 (fun g v i wr => ∃ x : Nat, x + g = 8 ∧ i = .int .i64 ((x + 1 : Nat) : Int) ∧ Ext w0 wr ∧ OwnR wr 0 (w.heap.size + 1) v (allTo S.tins.length x))
 case atStart => exact ⟨0, by omega, rfl, Ext.refl _, OwnR.nil _ (Nat.zero_le _)⟩
 case round =>
  obtain ⟨x, hx, rfl, hE, hv⟩ := hrel
  have HE := Lib.hid hE
  have hsE := hE.size
  have HV := Lib.hid hv
  have HPr := Lib.hid (HP.out.ext hE)
  clear hE hv
  obtain ⟨Y, hY⟩ : ∃ Y, Y = x + 1 := ⟨_, rfl⟩
  rw [← hY]
  by_cases hlt : x < 8
  ·have hle : (Y : Int) ≤ 8 := by omega
   have R := Lib.hid (R126.out x hlt)
   rw [← hY] at R
   have HY := Lib.hid hY
   clear hY
   have c0 := HPr.out 0 _ rfl
   have c1 := HPr.out 1 _ rfl
   have c2 := HPr.out 2 _ rfl
   have c3 := HPr.out 3 _ rfl
   have c4 := HPr.out 4 _ rfl
   have c5 := HPr.out 5 _ rfl
   have c6 := HPr.out 6 _ rfl
   have c7 := HPr.out 7 _ rfl
   have c8 := HPr.out 8 _ rfl
   have c9 := HPr.out 9 _ rfl
   have c10 := HPr.out 10 _ rfl
   have c11 := HPr.out 11 _ rfl
   have c12 := HPr.out 12 _ rfl
   go_wp2_with (first | (go_at_call 126; refine (R.out _).mono ?_; rintro e w3 ⟨⟨v3, rfl, ho3⟩, hE3⟩; have Ho3 := Lib.hid ho3; have HE3 := Lib.hid hE3; clear ho3) | (at_builtin; refine wpList_appRs0 _ rfl _ _ rfl 0 (w.heap.size + 1) _ _ (allTo S.tins.length x) _ rfl (HV.out.ext HE3.out) rfl Ho3.out.out (by have := Hl.out x (by omega); have := Hl2.out x hlt; rw [← HY.out] at *; omega) (by have := HE3.out.size; omega) ?_))
   intro v4 w4 h4 hB4
   have HN := Lib.hid (show OwnR w4 0 (w.heap.size + 1) v4 (allTo S.tins.length (x + 1)) by rw [allTo_succ, ← HY.out]; exact h4)
   have HE4 := Lib.hid ((HE.out.trans HE3.out).below hB4 (by omega))
   clear h4 hB4
   go_wp2
   go_roundg (gk - 1)
   case measure => omega
   case rel => exact ⟨x + 1, by omega, by rw [HY.out]; go_num, HE4.out, HN.out⟩
  ·have hle : ¬ (Y : Int) ≤ 8 := by omega
   have hxx : x = 8 := by omega
   have HF := Lib.hid (show OwnR wr 0 (w.heap.size + 1) _ (allMix S.tins.length) by rw [← allTo_end, ← hxx]; exact HV.out)
   clear HV hxx hY
   go_wp2
   go_ret
   exact ⟨⟨_, rfl, OwnR.low HF.out (by omega)⟩, HE0.out.trans HE.out⟩

end Go.Proofs.YtjpekonfjihcoaaGreatDoor
