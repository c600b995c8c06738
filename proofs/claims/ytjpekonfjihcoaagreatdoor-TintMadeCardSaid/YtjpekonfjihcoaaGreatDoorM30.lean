/- Contracts and mathematics, joined: TextF. Conditions stand with each. -/
import Derived.ArgAppend
import Derived.Below
import Derived.BigQuiet
import Derived.Deep.DeepCutAuto
import Derived.Deep.DeepFit
import Derived.Deep.LoopGhost
import Derived.Deep.QuietTactic
import Derived.Deep.RegionHeld
import Derived.Deep.RegionHeld3
import Derived.Deep.RegionWith
import Derived.Defers
import Derived.Laws.BytesArg
import Derived.Laws.EntriesVeiled
import Derived.Laws.OwnMore
import Derived.Lib.Hide
import Derived.Lib.IndexBytes
import Derived.Lib.ItoaNum
import Derived.Lib.SplitLaws
import Derived.LoopIn
import Derived.LoopNIn
import Derived.Maps.AppendAt
import Derived.Maps.Keyed
import Derived.Maps.OwnIn
import Derived.OrdersHeld
import Derived.OwnWalkIn
import Derived.RangeFuncBound
import Derived.RangeFuncCalls
import Derived.RangeFuncLeaves
import Derived.RangeFuncNested
import Derived.Recover
import Derived.RegionIn
import Derived.Shelf.Abstract
import Derived.Shelf.Strconv.Itoa3
import Derived.Shelf.Strings.Split
import Derived.TacticsIn
import Derived.TacticsInMore
import Derived.Test.YtjpekonfjihcoaaGreatDoorProg
import Derived.WalkKit
import Derived.WalkLawsBesides
import Derived.WalkSpells
import Derived.Test.YtjpekonfjihcoaaGreatDoorM2
import Derived.Test.YtjpekonfjihcoaaGreatDoorM18
import Derived.Test.YtjpekonfjihcoaaGreatDoorM9
import Derived.Test.YtjpekonfjihcoaaGreatDoorM7
import Derived.Test.YtjpekonfjihcoaaGreatDoorM6
import Derived.Test.YtjpekonfjihcoaaGreatDoorM13
import Derived.Test.YtjpekonfjihcoaaGreatDoorM1
import Derived.Test.YtjpekonfjihcoaaGreatDoorM29
namespace Go.TintM
end Go.TintM
set_option maxRecDepth 100000
set_option maxHeartbeats 64000000
set_option linter.unusedVariables false
set_option linter.unusedSimpArgs false
/- What is read, line by line. No condition. -/
namespace Go.Proofs.YtjpekonfjihcoaaGreatDoor
open Go.RowKit Go.My Go.TintM

theorem split_any (c : UInt8) (l : List UInt8) (m : Int) (w : World) (hl : l.length ≤ 100000) (hm : w.cell? ⟨1, 0, none⟩ = some (.int .i64 m)) :
  Calls Tryz.prog 134 #[.string (bs l), .string (bs [c])] w fun e w' => e = .returned (.slice (some ⟨w.heap.size, 0, none⟩) (spl c l).length (spl c l).length) ∧ w' = w.alloc (.cells ((spl c l).map fun x => Value.string (bs x)).toArray 9) := by
 have h := Tryz.strings_Split (bs l) (bs [c]) m w (by rw [bs_size]; omega) hm (by rw [bs_size]; simp)
 obtain ⟨h1, h2⟩ := splitB_spl c l
 rw [h1, List.map_map, h2] at h
 exact h
theorem cells_str (w : World) (L : List (List UInt8)) {i : Nat} {x : List UInt8} (h : L[i]? = some x) : (w.alloc (.cells (L.map fun x => Value.string (bs x)).toArray 9)).cell? ⟨w.heap.size, i, none⟩ = some (.string (bs x)) := by
 rw [cell_of_row _ _ i _ _ _ (heap_alloc_new w _)]; simp [h]

/-! rows of tins -/
abbrev tinCells (ts : List (List Nat)) : List Value := ts.flatMap fun t => (upL t).map (Value.int .i64)
theorem tinCells_get {ts : List (List Nat)} (h6 : ∀ t ∈ ts, t.length = 6) {i : Nat} {t : List Nat} (ht : ts[i]? = some t) {j : Nat} {x : Int} (hx : (upL t)[j]? = some x) : (tinCells ts)[i * 6 + j]? = some (.int .i64 x) := by
 induction ts generalizing i with
 | nil => simp at ht
 | cons a ts ih =>
  have ha : ((upL a).map (Value.int .i64)).length = 6 := by rw [List.length_map, upL_length]; exact h6 a List.mem_cons_self
  have e : tinCells (a :: ts) = (upL a).map (Value.int .i64) ++ tinCells ts := rfl
  rw [e]
  cases i with
  | zero =>
   simp only [List.getElem?_cons_zero, Option.some.injEq] at ht
   subst ht
   have hj : j < 6 := by
    have := (List.getElem?_eq_some_iff.1 hx).1
    rw [upL_length] at this
    have := h6 a List.mem_cons_self
    omega
   rw [List.getElem?_append_left (by rw [ha]; omega), Nat.zero_mul, Nat.zero_add, List.getElem?_map, hx]
   rfl
  | succ i =>
   simp only [List.getElem?_cons_succ] at ht
   rw [List.getElem?_append_right (by rw [ha]; omega), ha, show (i + 1) * 6 + j - 6 = i * 6 + j by omega]
   exact ih (fun t ht => h6 t (List.mem_cons_of_mem _ ht)) ht
theorem tins_row {W : World} {B : Nat} {v : Value} {ts : List (List Nat)} (h : W.ownsRow B 82 6 v ts.length (tinCells ts)) (h6 : ∀ t ∈ ts, t.length = 6) :
  ∃ oa cap, v = .slice oa ts.length cap ∧ ts.length ≤ cap ∧ cap ≤ maxLen ∧ (oa = none → cap = 0) ∧ TinsAt W oa (ts.map upL) := by
 rcases id h.2 with ⟨rfl, h2⟩ | ⟨g, cap, cur, rfl, hb, hh, h3, h4, h5, h7⟩
 ·have : ts = [] := List.eq_nil_of_length_eq_zero h2
  subst this
  exact ⟨none, 0, rfl, Nat.le_refl _, by simp [maxLen], fun _ => rfl, fun i t ht => by simp at ht⟩
 ·refine ⟨_, _, rfl, h3, h4, (fun h => by cases h), fun i t ht => ?_⟩
  rw [List.getElem?_map] at ht
  cases ht' : ts[i]? with
  | none => rw [ht'] at ht; cases ht
  | some t0 =>
   rw [ht'] at ht
   simp only [Option.map_some, Option.some.injEq] at ht
   subst ht
   have hl := h6 t0 (List.mem_of_getElem? ht')
   refine ⟨g, 0, rfl, (Array.getElem?_eq_some_iff.1 hh).1, by rw [upL_length]; exact hl, fun j x hx => ?_⟩
   have := h.cells (g := g) rfl _ _ (tinCells_get h6 ht' hx)
   rwa [add_none, show 0 + (i * 6 + j) = 0 + i * 6 + j by omega] at this

/-! what is read -/
theorem parse_short {l : List UInt8} (h : (spl 10 l).length < 4) : parse l = none := by rw [parse, if_pos h]
theorem parse_stop {l : List UInt8} {i : Nat} (h : stTo (spl 10 l) i = none) (hi : i ≤ (spl 10 l).length - 2) : parse l = none := by
 unfold parse
 split
 ·rfl
 ·rw [stTo_none h hi]; rfl
theorem lineOk_bad {row w : List UInt8} (hw : w ∈ (spl 32 row).tail) (h : parseNum w = none) : lineOk row = none := by rw [lineOk, mapM_bad hw h]; rfl
theorem lineOk_of {row : List UInt8} {ns : List Nat} (h : (spl 32 row).tail.mapM parseNum = some ns) : lineOk row = if ns.length = 6 then some ns else none := by rw [lineOk, h]; rfl
theorem stTo_next {rows : List (List UInt8)} {r : List UInt8} {k : Nat} {x : Tx} (h : stTo rows k = some x) (hr : rows[k]? = some r) : stTo rows (k + 1) = (lineOk r).map (setTx x k) := by
 rw [stTo, h, Option.bind_some]; simp [List.getD, hr]
theorem stTo_len {rows : List (List UInt8)} : ∀ {i : Nat} {x : Tx}, stTo rows i = some x → x.tins.length ≤ i := by
 intro i
 induction i with
 | zero => intro x h; injection h with h; subst h; simp [noTx]
 | succ i ih =>
  intro x h
  rw [stTo] at h
  cases h1 : stTo rows i with
  | none => rw [h1] at h; cases h
  | some q =>
   rw [h1, Option.bind_some] at h
   cases h2 : lineOk (rows.getD i []) with
   | none => rw [h2] at h; cases h
   | some ns =>
    rw [h2] at h
    injection h with h
    subst h
    have := ih h1
    unfold setTx
    split
    ·exact Nat.le_succ_of_le this
    ·split
     ·exact Nat.le_succ_of_le this
     ·simp; omega

/-- What parsed hands back. -/
def ParsePost (l : List UInt8) (B : Nat) (e : Ending) (w' : World) : Prop :=
 (∀ x, parse l = some x → ∃ oa cap, e = .returned (sheetV (siOf x) oa cap) ∧ w'.ownsRow B 82 6 (.slice oa x.tins.length cap) x.tins.length (tinCells x.tins)) ∧ (parse l = none → NoText e)
theorem par_bad {l : List UInt8} {B : Nat} {e : Ending} {w' : World} (h : parse l = none) (he : NoText e) : ParsePost l B e w' := ⟨fun x hn => (by rw [h] at hn; cases hn), fun _ => he⟩

/-- The state while lines are read. -/
structure PSt (w wA W : World) (bb : Nat) (x : Tx) (oa : Option Addr) (cap : Nat) : Prop where
 ext : Ext w W
 turned : Turned bb wA W
 own : SOwn W bb (siOf x) oa cap
 row : W.ownsRow wA.heap.size 82 6 (.slice oa x.tins.length cap) x.tins.length (tinCells x.tins)
 lt : w.heap.size ≤ bb
 hbb : bb < wA.heap.size
section
variable {w wA W W' : World} {bb : Nat} {x : Tx} {oa : Option Addr} {cap : Nat}
theorem PSt.size (h : PSt w wA W bb x oa cap) : wA.heap.size ≤ W.heap.size := h.turned.size
theorem PSt.next (h : PSt w wA W bb x oa cap) (hE : Ext W W') : PSt w wA W' bb x oa cap :=
 ⟨h.ext.trans hE, h.turned.trans (Turned.of_ext hE), h.own.ext hE, row_mv h.row (Mv.of_ext (I := fun _ => False) hE) (fun _ _ k => k), h.lt, h.hbb⟩
theorem row_not {B b : Nat} {v : Value} {n sz : Nat} {e : TypeId} {xs : List Value} (h : W.ownsRow B e sz v n xs) (hb : b < B) : ∀ i, v.ownBlock = some i → ¬ i = b := fun i hi e => by
 have := (World.ownsRow.lt h i hi).1; omega
theorem PSt.head (h : PSt w wA W bb x oa cap) (a b c d e f : Nat) : PSt w wA (headW W bb (.int .i64 a) (.int .i64 b) (.int .i64 c) (.int .i64 d) (.int .i64 e) (.int .i64 f)) bb (setTx x 0 [a, b, c, d, e, f]) oa cap := by
 have hT : Turned bb W (headW W bb (.int .i64 a) (.int .i64 b) (.int .i64 c) (.int .i64 d) (.int .i64 e) (.int .i64 f)) := ((((((Turned.refl bb W).set 0 _).set 1 _).set 2 _).set 9 _).set 10 _).set 11 _
 exact ⟨ext_own h.ext hT h.lt, h.turned.trans hT, h.own.head a b c d e f, row_mv (I := fun i => i = bb) h.row (Mv.of_grown hT fun i hi => by cases hi; rfl) (row_not h.row h.hbb), h.lt, h.hbb⟩
theorem PSt.fade (h : PSt w wA W bb x oa cap) (a b c d e f : Nat) : PSt w wA (fadeW W bb (.int .i64 a) (.int .i64 b) (.int .i64 c) (.int .i64 d) (.int .i64 e) (.int .i64 f)) bb (setTx x 1 [a, b, c, d, e, f]) oa cap := by
 have hT : Turned bb W (fadeW W bb (.int .i64 a) (.int .i64 b) (.int .i64 c) (.int .i64 d) (.int .i64 e) (.int .i64 f)) := ((((((Turned.refl bb W).set 3 _).set 4 _).set 5 _).set 6 _).set 7 _).set 8 _
 exact ⟨ext_own h.ext hT h.lt, h.turned.trans hT, h.own.fade a b c d e f, row_mv (I := fun i => i = bb) h.row (Mv.of_grown hT fun i hi => by cases hi; rfl) (row_not h.row h.hbb), h.lt, h.hbb⟩
theorem PSt.tins {k : Nat} {ns : List Nat} {oa' : Option Addr} {cap' : Nat} (h : PSt w wA W bb x oa cap) (hk : 2 ≤ k) (hB : Below wA.heap.size W W') (hr : W'.ownsRow wA.heap.size 82 6 (.slice oa' (x.tins.length + 1) cap') (x.tins.length + 1) (tinCells x.tins ++ (upL ns).map (Value.int .i64))) :
  PSt w wA (W'.setCell ⟨bb, 12, none⟩ (.slice oa' (x.tins.length + 1) cap')) bb (setTx x k ns) oa' cap' := by
 have hs : setTx x k ns = { x with tins := x.tins ++ [ns] } := by unfold setTx; rw [if_neg (by omega), if_neg (by omega)]
 have hT : Turned bb W' (W'.setCell ⟨bb, 12, none⟩ (.slice oa' (x.tins.length + 1) cap')) := (Turned.refl bb W').set 12 _
 have ho := (h.own.below hB h.hbb).tins ((x.tins ++ [ns]).map upL) oa' cap'
 rw [List.length_map, List.length_append, List.length_singleton] at ho
 rw [hs]
 refine ⟨ext_own (h.ext.below hB (by have := h.lt; have := h.hbb; omega)) hT h.lt, (h.turned.below hB (Nat.le_refl _)).trans hT, ho, ?_, h.lt, h.hbb⟩
 show World.ownsRow _ _ 82 6 (.slice oa' (x.tins ++ [ns]).length cap') (x.tins ++ [ns]).length (tinCells (x.tins ++ [ns]))
 rw [List.length_append, List.length_singleton, show tinCells (x.tins ++ [ns]) = tinCells x.tins ++ (upL ns).map (Value.int .i64) by simp [tinCells]]
 exact row_mv (I := fun i => i = bb) hr (Mv.of_grown hT fun i hi => by cases hi; rfl) (row_not hr h.hbb)
end

end Go.Proofs.YtjpekonfjihcoaaGreatDoor
