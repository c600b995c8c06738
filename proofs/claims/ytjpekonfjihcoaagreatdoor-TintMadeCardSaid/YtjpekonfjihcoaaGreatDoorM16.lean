/- Contracts and mathematics, joined: Spots, Years, Truths. Conditions stand with each. -/
import Derived.Below
import Derived.BigQuiet
import Derived.Deep.DeepCutAuto
import Derived.Deep.DeepFit
import Derived.Deep.LoopGhost
import Derived.Deep.QuietTactic
import Derived.Deep.RegionHeld
import Derived.Deep.RegionHeld3
import Derived.Deep.RegionWith
import Derived.Laws.EntriesVeiled
import Derived.Lib.Hide
import Derived.Maps.Keyed
import Derived.OrdersHeld
import Derived.Test.YtjpekonfjihcoaaGreatDoorProg
import Derived.WalkKit
import Derived.WalkLawsBesides
import Derived.WalkSpells
import Derived.Test.YtjpekonfjihcoaaGreatDoorM1
import Derived.Test.YtjpekonfjihcoaaGreatDoorM2
import Derived.Test.YtjpekonfjihcoaaGreatDoorM10
import Derived.Test.YtjpekonfjihcoaaGreatDoorM4
import Derived.Test.YtjpekonfjihcoaaGreatDoorM3
import Derived.Test.YtjpekonfjihcoaaGreatDoorM5
namespace Go.TintM
end Go.TintM
set_option maxRecDepth 100000
set_option maxHeartbeats 64000000
set_option linter.unusedVariables false
set_option linter.unusedSimpArgs false
/- A map from a pigment and some years to what is so: what was noted. No condition. -/
namespace Go.Proofs.YtjpekonfjihcoaaGreatDoor
open Go.RowKit Go.My Go.TintM

def spotV (p y : Int) : Value := .agg #[.int .i64 p, .int .i64 y]
theorem spot_inj {p y p' y' : Int} (h : spotV p y = spotV p' y') : p = p' ∧ y = y' := by simpa [spotV] using h
def speq (p y p' y' : Int) : Bool := p == p' && y == y'
theorem speq_iff {p y p' y' : Int} : speq p y p' y' = true ↔ p = p' ∧ y = y' := by simp [speq]
theorem equal_spot (p y p' y' : Int) (w : World) : (Op.equal 148 (spotV p y) (spotV p' y')).run Tryz.prog w = .ok (speq p y p' y') w := by
 have h1 : ∀ (a b : Int), (Op.equalIn 9999 3 (.int .i64 a) (.int .i64 b)).run Tryz.prog w = .ok (a == b) w := fun a b => by
  exact run_equalIn_int w 9998 3 .i64 .i64 a b Tryz.underlying3
 simp only [Op.equal, Op.maxDepth]
 unfold Op.equalIn
 have p0 : ∀ (a b : Int), (part 3 #[.int .i64 a, .int .i64 b] 0).run Tryz.prog w = .ok (.int .i64 a) w := fun a b => by kernel_rfl
 have p1 : ∀ (a b : Int), (part 3 #[.int .i64 a, .int .i64 b] 1).run Tryz.prog w = .ok (.int .i64 b) w := fun a b => by kernel_rfl
 simp [run_underlying Tryz.underlying148, spotV, h1, p0, Result.andThen, speq]
 by_cases hp : p = p'
 ·by_cases hy : y = y' <;> simp [hp, hy, h1, p1, Result.andThen]
 ·simp [hp]
theorem check_spot (b : Bool) (p y : Int) (w : World) : (Instr.checkKey b 10000 148 (spotV p y)).run Tryz.prog w = .ok () w := by kernel_rfl
theorem same_spot' (p y : Int) (n : Nat) : Instr.sameBits (n + 2) (spotV p y) (spotV p y) = true := by
 simp [spotV, Instr.sameBits]
theorem same_spot (p y : Int) : ∀ n, 2 ≤ n → Instr.sameBits n (spotV p y) (spotV p y) = true := by
 intro n hn
 obtain ⟨m, rfl⟩ : ∃ m, n = m + 2 := ⟨n - 2, by omega⟩
 exact same_spot' p y m
theorem stays_spot (p y : Int) (w : World) : (Instr.keyThatStays (spotV p y) (spotV p y)).run Tryz.prog w = .ok (spotV p y) w := by
 have h := same_spot p y 10000 (by decide)
 simp [Instr.keyThatStays, h]
theorem makeMap145 (w : World) : (Instr.makeMap 145 none).run Tryz.prog w = .ok (.map (some w.heap.size)) (w.alloc (.map #[] 0)) := by kernel_rfl

theorem find_spot (p y : Int) (w : World) : ∀ (es : List MapEntry) (i : Nat), (∀ e ∈ es, ∃ p' y', e.key = spotV p' y') →
  (∃ j e, es[j]? = some e ∧ e.key = spotV p y ∧ (Instr.findAsking 148 (spotV p y) es i).run Tryz.prog w = .ok (some (i + j, e.val)) w) ∨ ((∀ e ∈ es, e.key ≠ spotV p y) ∧ (Instr.findAsking 148 (spotV p y) es i).run Tryz.prog w = .ok none w) := by
 intro es
 induction es with
 | nil => intro i _; exact .inr ⟨by simp, rfl⟩
 | cons e es ih =>
  intro i hk
  obtain ⟨p', y', hu⟩ := hk e (by simp)
  have hr : (Instr.findAsking 148 (spotV p y) (e :: es) i).run Tryz.prog w = (if speq p y p' y' = true then .ok (some (i, e.val)) w else (Instr.findAsking 148 (spotV p y) es (i + 1)).run Tryz.prog w) := by
   simp only [Instr.findAsking, Sem.run_bind, hu, equal_spot, Result.andThen]
   split <;> rfl
  rw [hr]
  by_cases hv : speq p y p' y' = true
  ·rw [if_pos hv]
   obtain ⟨rfl, rfl⟩ := speq_iff.1 hv
   exact .inl ⟨0, e, rfl, hu, rfl⟩
  ·rw [if_neg hv]
   rcases ih (i + 1) (fun e he => hk e (by simp [he])) with ⟨j, e', h1, h2, h3⟩ | h
   ·exact .inl ⟨j + 1, e', by simpa using h1, h2, by rw [h3, show i + 1 + j = i + (j + 1) by omega]⟩
   ·refine .inr ⟨fun e' he' => ?_, h.2⟩
    rcases List.mem_cons.1 he' with rfl | he'
    ·rw [hu]
     intro e2
     obtain ⟨rfl, rfl⟩ := spot_inj e2
     exact hv (speq_iff.2 ⟨rfl, rfl⟩)
    ·exact h.1 e' he'
theorem findKey_spot (p y : Int) (w : World) (es : List MapEntry) (hk : ∀ e ∈ es, ∃ p' y', e.key = spotV p' y') :
  (∃ j e, es[j]? = some e ∧ e.key = spotV p y ∧ (Instr.findKey 148 (spotV p y) es).run Tryz.prog w = .ok (some (j, e.val)) w) ∨ ((∀ e ∈ es, e.key ≠ spotV p y) ∧ (Instr.findKey 148 (spotV p y) es).run Tryz.prog w = .ok none w) := by
 cases es with
 | nil => exact .inr (by simp [Instr.findKey, run_underlying Tryz.underlying148, Instr.findNow, Result.andThen])
 | cons e es =>
  have : (Instr.findKey 148 (spotV p y) (e :: es)).run Tryz.prog w = (Instr.findAsking 148 (spotV p y) (e :: es) 0).run Tryz.prog w := by
   simp [Instr.findKey, run_underlying Tryz.underlying148, Instr.findNow, Instr.sameNow, Result.andThen]
  rw [this]
  rcases find_spot p y w (e :: es) 0 hk with ⟨j, e', h1, h2, h3⟩ | h
  ·exact .inl ⟨j, e', h1, h2, by rw [h3, Nat.zero_add]⟩
  ·exact .inr h

/-- The map in block b notes what f says. -/
def Memo (w : World) (b : Nat) (f : Int → Int → Bool) : Prop := ∃ es clock, w.heap[b]? = some (.map es clock) ∧ ∀ e ∈ es.toList, ∃ p y, e.key = spotV p y ∧ e.val = .bool (f p y)
def Noted (w : World) (b : Nat) (p y : Int) : Prop := ∃ es clock, w.heap[b]? = some (.map es clock) ∧ ∃ e ∈ es.toList, e.key = spotV p y
theorem Memo.new (w : World) (f : Int → Int → Bool) : Memo (w.alloc (.map #[] 0)) w.heap.size f := ⟨#[], 0, heap_alloc_new w _, fun e he => by simp at he⟩
theorem Memo.keep {w w' : World} {b : Nat} {f : Int → Int → Bool} (h : Memo w b f) (hs : w'.heap[b]? = w.heap[b]?) : Memo w' b f := by
 obtain ⟨es, clock, hb, he⟩ := h
 exact ⟨es, clock, hs.trans hb, he⟩
theorem Memo.lt {w : World} {b : Nat} {f : Int → Int → Bool} (h : Memo w b f) : b < w.heap.size := by
 obtain ⟨es, clock, hb, _⟩ := h
 exact (Array.getElem?_eq_some_iff.1 hb).1
theorem Memo.ext {w w' : World} {b : Nat} {f : Int → Int → Bool} (h : Memo w b f) (hE : Ext w w') : Memo w' b f := h.keep (hE.block b h.lt)
theorem Noted.keep {w w' : World} {b : Nat} {p y : Int} (h : Noted w b p y) (hs : w'.heap[b]? = w.heap[b]?) : Noted w' b p y := by
 obtain ⟨es, clock, hb, he⟩ := h
 exact ⟨es, clock, hs.trans hb, he⟩

theorem look_spot {w : World} {b : Nat} {f : Int → Int → Bool} (h : Memo w b f) {p y : Int} (hN : Noted w b p y) :
  (Instr.lookup 145 (.map (some b)) (spotV p y) false).run Tryz.prog w = .ok (.bool (f p y)) w := by
 obtain ⟨es, clock, hb, he⟩ := h
 rcases findKey_spot p y w es.toList (fun e hm => by obtain ⟨p', y', hu, _⟩ := he e hm; exact ⟨p', y', hu⟩) with ⟨j, e, h1, h2, h3⟩ | ⟨hno, h3⟩
 ·have hm : e ∈ es.toList := List.mem_of_getElem? h1
  obtain ⟨p', y', hu, hv⟩ := he e hm
  obtain ⟨rfl, rfl⟩ := spot_inj (hu.symm.trans h2)
  simp [Instr.lookup, run_underlying Tryz.underlying145, MapKept.run_getObj_map hb, check_spot, h3, hv, Result.andThen]
 ·obtain ⟨es', clock', hb', e, hm, hk⟩ := hN
  rw [hb] at hb'
  simp only [Option.some.injEq, Obj.map.injEq] at hb'
  obtain ⟨rfl, rfl⟩ := hb'
  exact absurd hk (hno e hm)

open Go.ChangeMaps in
theorem note_spot {w : World} {b : Nat} {f : Int → Int → Bool} (h : Memo w b f) (p y : Int) :
  ∃ w', (Instr.mapUpdate 145 (.map (some b)) (spotV p y) (.bool (f p y))).run Tryz.prog w = .ok () w' ∧ Memo w' b f ∧ Noted w' b p y ∧ (∀ p' y', Noted w b p' y' → Noted w' b p' y') ∧ w.grownBy w' (some b) ∧ w'.heap.size = w.heap.size := by
 obtain ⟨es, clock, hb, he⟩ := h
 have hg : ∀ (es' : Array MapEntry) (clock' : Nat), w.grownBy (setBlock w b (.map es' clock')) (some b) ∧ (setBlock w b (.map es' clock')).heap.size = w.heap.size := fun es' clock' =>
  ⟨⟨rfl, rfl, rfl, by simp [setBlock], fun k _ hk => ChangeMaps.heap_setBlock_other hb _ (fun e => hk (by rw [e]))⟩, by simp [setBlock]⟩
 have hold : ∀ p' y', Noted w b p' y' → ∃ e ∈ es.toList, e.key = spotV p' y' := fun p' y' hN => by
  obtain ⟨es', clock', hb', e, hm, hk⟩ := hN
  rw [hb] at hb'
  simp only [Option.some.injEq, Obj.map.injEq] at hb'
  obtain ⟨rfl, rfl⟩ := hb'
  exact ⟨e, hm, hk⟩
 rcases findKey_spot p y w es.toList (fun e hm => by obtain ⟨p', y', hu, _⟩ := he e hm; exact ⟨p', y', hu⟩) with ⟨j, e, h1, h2, h3⟩ | ⟨hno, h3⟩
 ·have hj : es[j]? = some e := by simpa using h1
  have hlist : (es.modify j (fun e' => { e' with key := spotV p y, val := .bool (f p y) })).toList = es.toList.set j { e with key := spotV p y, val := .bool (f p y) } := by rw [Array.toList_modify, ChangeMaps.modify_eq_set _ _ _ _ h1]
  have hjl : j < es.toList.length := (List.getElem?_eq_some_iff.1 h1).1
  have hmine : { e with key := spotV p y, val := .bool (f p y) } ∈ es.toList.set j { e with key := spotV p y, val := .bool (f p y) } := List.mem_of_getElem? (i := j) (by rw [List.getElem?_set_self hjl])
  refine ⟨setBlock w b (.map (es.modify j (fun e' => { e' with key := spotV p y, val := .bool (f p y) })) clock), ?_, ⟨_, _, heap_setBlock_same hb _, ?_⟩, ⟨_, _, heap_setBlock_same hb _, ⟨{ e with key := spotV p y, val := .bool (f p y) }, ?_, rfl⟩⟩, fun p' y' hN => ⟨_, _, heap_setBlock_same hb _, ?_⟩, hg _ _⟩
  ·simp [Instr.mapUpdate, run_underlying Tryz.underlying145, MapKept.run_getObj_map hb, check_spot, h3, hj, h2, stays_spot, MapKept.run_setObj_map _ hb, Result.andThen, setBlock]
  ·intro x hx
   rw [hlist] at hx
   rcases List.mem_or_eq_of_mem_set hx with hx | rfl
   ·exact he x hx
   ·exact ⟨p, y, rfl, rfl⟩
  ·rw [hlist]; exact hmine
  ·rw [hlist]
   obtain ⟨x, hx, hk⟩ := hold p' y' hN
   obtain ⟨i, hi⟩ := List.mem_iff_getElem?.1 hx
   by_cases hij : i = j
   ·subst hij
    rw [h1] at hi
    cases hi
    exact ⟨_, hmine, h2.symm.trans hk⟩
   ·exact ⟨x, List.mem_of_getElem? (i := i) (by rw [List.getElem?_set_ne (fun e => hij e.symm)]; exact hi), hk⟩
 ·refine ⟨setBlock w b (.map (es.push ⟨spotV p y, .bool (f p y), clock⟩) (clock + 1)), ?_, ⟨_, _, heap_setBlock_same hb _, ?_⟩, ⟨_, _, heap_setBlock_same hb _, ⟨⟨spotV p y, .bool (f p y), clock⟩, by simp, rfl⟩⟩, fun p' y' hN => ⟨_, _, heap_setBlock_same hb _, ?_⟩, hg _ _⟩
  ·simp [Instr.mapUpdate, run_underlying Tryz.underlying145, MapKept.run_getObj_map hb, check_spot, h3, MapKept.run_setObj_map _ hb, Result.andThen, setBlock]
  ·intro x hx
   simp only [Array.toList_push, List.mem_append, List.mem_singleton] at hx
   rcases hx with hx | rfl
   ·exact he x hx
   ·exact ⟨p, y, rfl, rfl⟩
  ·obtain ⟨x, hx, hk⟩ := hold p' y' hN
   exact ⟨x, by simp only [Array.toList_push, List.mem_append]; exact .inl hx, hk⟩

section
variable {ops : Array Oper} {rest : List Oper} {o : Oper} {a : Act} {w : World} {Q : Exit → Act → World → Prop}
theorem at_lookup145 (m x : Operand) (_ho : o.op = .lookup 145 m x false) (h : wpList Tryz.prog ops Q (o :: rest) a w) : wpList Tryz.prog ops Q (o :: rest) a w := h
theorem at_update145 (m x y : Operand) (_ho : o.op = .mapUpdate 145 m x y) (h : wpList Tryz.prog ops Q (o :: rest) a w) : wpList Tryz.prog ops Q (o :: rest) a w := h
theorem wpList_lookup145 (hgd : o.guard = none) (m x : Operand) (ho : o.op = .lookup 145 m x false) (b : Nat) (hm : a.eval m = .map (some b)) (p y : Int) (hx : a.eval x = .agg #[.int .i64 p, .int .i64 y]) (f : Int → Int → Bool)
  (hM : Memo w b f) (hN : Noted w b p y) (h : wpList Tryz.prog ops Q rest (a.put o.dst (.bool (f p y))) w) :
  wpList Tryz.prog ops Q (o :: rest) a w :=
 wpList_plain hgd fun K hK => by
  have h1 := look_spot hM hN
  rw [spotV] at h1
  unfold Oper.wp
  simp [execOp, ho, hm, hx, h1, Result.andThen]
  exact hK _ _ h
theorem wpList_update145 (hgd : o.guard = none) (m x z : Operand) (ho : o.op = .mapUpdate 145 m x z) (b : Nat) (hm : a.eval m = .map (some b)) (p y : Int) (hx : a.eval x = .agg #[.int .i64 p, .int .i64 y]) (f : Int → Int → Bool) (hy : a.eval z = .bool (f p y))
  (hM : Memo w b f) (h : ∀ w', Memo w' b f → Noted w' b p y → (∀ p' y', Noted w b p' y' → Noted w' b p' y') → w.grownBy w' (some b) → w'.heap.size = w.heap.size → wpList Tryz.prog ops Q rest (a.put o.dst undef) w') :
  wpList Tryz.prog ops Q (o :: rest) a w :=
 wpList_plain hgd fun K hK => by
  obtain ⟨w', h1, h2, h3, h4, h5, h6⟩ := note_spot hM p y
  rw [spotV] at h1
  unfold Oper.wp
  simp [execOp, ho, hm, hx, hy, h1, Result.andThen]
  exact hK _ _ (h w' h2 h3 h4 h5 h6)
theorem at_make145 (_ho : o.op = .makeMap 145 none) (h : wpList Tryz.prog ops Q (o :: rest) a w) : wpList Tryz.prog ops Q (o :: rest) a w := h
theorem wpList_make145 (hgd : o.guard = none) (ho : o.op = .makeMap 145 none) (h : wpList Tryz.prog ops Q rest (a.put o.dst (.map (some w.heap.size))) (w.alloc (.map #[] 0))) : wpList Tryz.prog ops Q (o :: rest) a w :=
 wpList_plain hgd fun K hK => by
  unfold Oper.wp
  simp [execOp, ho, makeMap145, Result.andThen]
  exact hK _ _ h
end

end Go.Proofs.YtjpekonfjihcoaaGreatDoor
/- Contract: years. No condition beyond sheets and mixtures as defined. -/
namespace Go.Proofs.YtjpekonfjihcoaaGreatDoor
open Go.RowKit Go.My Go.TintM

/-- All of the first k years after which a mixture may match. -/
def yearsTo (s : Sh) (m : List Nat) (k : Nat) : List Nat := ((List.range k).map (s.ylo + ·)).filter fun y => may s m 0 y && (may s m 1 y && may s m 2 y)
theorem yearsTo_yes {s : Sh} {m : List Nat} {k : Nat} (h : ∀ p, p < 3 → may s m p (s.ylo + k) = true) : yearsTo s m (k + 1) = yearsTo s m k ++ [s.ylo + k] := by
 simp [yearsTo, List.range_succ, h 0 (by omega), h 1 (by omega), h 2 (by omega)]
theorem yearsTo_no {s : Sh} {m : List Nat} {k p : Nat} (hp : p < 3) (h : may s m p (s.ylo + k) = false) : yearsTo s m (k + 1) = yearsTo s m k := by
 have : (may s m 0 (s.ylo + k) && (may s m 1 (s.ylo + k) && may s m 2 (s.ylo + k))) = false := by
  match p, hp with
  | 0, _ => simp [h]
  | 1, _ => simp [h]
  | 2, _ => simp [h]
 simp only [yearsTo, List.range_succ, List.map_append, List.filter_append, List.map_singleton]
 rw [List.filter_cons, this]; simp
theorem yearsTo_len (s : Sh) (m : List Nat) (k : Nat) : (yearsTo s m k).length ≤ k :=
 Nat.le_trans (List.length_filter_le _ _) (by simp)
theorem yearsTo_end (s : Sh) (m : List Nat) : yearsTo s m (s.yhi + 1 - s.ylo) = yearsOf s m := rfl
theorem Noted.ext {w w' : World} {b : Nat} {p y : Int} (h : Noted w b p y) (hE : Ext w w') : Noted w' b p y := by
 have h' := h
 obtain ⟨es, clock, hb, _⟩ := h'
 exact h.keep (hE.block b (Array.getElem?_eq_some_iff.1 hb).1)

/-- These numbers lie in a new block. -/
def FreshAt (B : Nat) (w : World) (oa : Option Addr) (l : List Int) : Prop := ∀ (i : Nat) (x : Int), l[i]? = some x → ∃ b, oa = some ⟨b, 0, none⟩ ∧ B ≤ b ∧ w.cell? ⟨b, i, none⟩ = some (.int .i64 x)
theorem FreshAt.ints {B : Nat} {w : World} {oa : Option Addr} {l : List Int} (h : FreshAt B w oa l) : IntsAt w oa l := fun i x hx => by
 obtain ⟨b, h1, _, h3⟩ := h i x hx
 exact ⟨b, 0, h1, World.block_lt_of_cell? _ _ h3, by rw [Nat.zero_add]; exact h3⟩
theorem FreshAt.ext {B : Nat} {w w' : World} {oa : Option Addr} {l : List Int} (h : FreshAt B w oa l) (hE : Ext w w') : FreshAt B w' oa l := fun i x hx => by
 obtain ⟨b, h1, h2, h3⟩ := h i x hx
 exact ⟨b, h1, h2, cell_ext hE h3⟩
theorem FreshAt.of_own {w : World} {B : Nat} {e : TypeId} {oa : Option Addr} {n cap : Nat} {l : List Int} (h : My.Own w B e (.slice oa n cap) (l.map (Value.int .i64))) : FreshAt B w oa l := fun i x hx => by
 obtain ⟨oa', c', e1, _, _, _, hc⟩ := h.slice
 simp only [Value.slice.injEq] at e1
 obtain ⟨b, h1, h2, h3⟩ := hc i (.int .i64 x) (by rw [List.getElem?_map, hx]; rfl)
 exact ⟨b, e1.1.trans h1, h2, h3⟩
theorem FreshAt.low {B B' : Nat} {w : World} {oa : Option Addr} {l : List Int} (h : FreshAt B w oa l) (hB : B' ≤ B) : FreshAt B' w oa l := fun i x hx => by
 obtain ⟨b, h1, h2, h3⟩ := h i x hx
 exact ⟨b, h1, Nat.le_trans hB h2, h3⟩

/-- What is noted so far: all of the first i years, and k pigments of the next one. -/
structure Notes (W : World) (b : Nat) (F : Int → Int → Bool) (lo i k : Nat) : Prop where
 memo : Memo W b F
 old : ∀ j p, j < i → p < 3 → Noted W b (p : Nat) ((lo + j : Nat) : Int)
 now : ∀ p, p < k → Noted W b (p : Nat) ((lo + i : Nat) : Int)
theorem Notes.ext {W W' : World} {b : Nat} {F : Int → Int → Bool} {lo i k : Nat} (h : Notes W b F lo i k) (hE : Ext W W') : Notes W' b F lo i k :=
 ⟨h.memo.ext hE, fun j p hj hp => (h.old j p hj hp).ext hE, fun p hp => (h.now p hp).ext hE⟩
theorem Notes.step {W W' : World} {b : Nat} {F : Int → Int → Bool} {lo i k : Nat} (h : Notes W b F lo i k) (hm : Memo W' b F) (hN : Noted W' b (k : Nat) ((lo + i : Nat) : Int)) (hold : ∀ p y, Noted W b p y → Noted W' b p y) : Notes W' b F lo i (k + 1) :=
 ⟨hm, fun j p hj hp => hold _ _ (h.old j p hj hp), fun p hp => by
  rcases Nat.lt_succ_iff_lt_or_eq.1 hp with hp | rfl
  ·exact hold _ _ (h.now p hp)
  ·exact hN⟩
theorem Notes.next {W : World} {b : Nat} {F : Int → Int → Bool} {lo i : Nat} (h : Notes W b F lo i 3) : Notes W b F lo (i + 1) 0 :=
 ⟨h.memo, fun j p hj hp => by
  rcases Nat.lt_succ_iff_lt_or_eq.1 hj with hj | rfl
  ·exact h.old j p hj hp
  ·exact h.now p hp, fun p hp => by omega⟩


theorem years_any (s : Sh) (g : Fine s) (m : List Nat) (hm : IsMix s m) (ot : Option Addr) (cap : Nat) (om : Option Addr) (cm : Nat) (w : World) (h : TinsAt w ot (ofSh s).tins) (hi : IntsAt w om (upL m)) :
  Calls Tryz.prog 83 #[potV s ot cap om m.length cm] w fun e w' => (∃ oa cl, e = .returned (.slice oa (yearsOf s m).length cl) ∧ FreshAt w.heap.size w' oa (upL (yearsOf s m))) ∧ Ext w w' := by
 obtain ⟨F, hF⟩ : ∃ F : Int → Int → Bool, ∀ p y : Nat, F p y = may s m p y := ⟨fun p y => may s m p.toNat y.toNat, fun p y => by simp⟩
 have R119 := Lib.hid (fun p (hp : p < 3) y (hy : y ≤ 20) W (hW : Ext w W) => by
  have := may_any s g m hm ot cap om cm p y hp hy W (h.ext hW) (hi.ext hW)
  rw [← hF] at this
  exact this)
 have Hyes := Lib.hid (fun k (hh : ∀ p, p < 3 → F (p : Nat) ((s.ylo + k : Nat) : Int) = true) => yearsTo_yes (s := s) (m := m) (k := k) (fun p hp => by rw [← hF]; exact hh p hp))
 have Hno := Lib.hid (fun k p (hp : p < 3) (hh : F (p : Nat) ((s.ylo + k : Nat) : Int) = false) => yearsTo_no (s := s) (m := m) (k := k) hp (by rw [← hF]; exact hh))
 have Hln := Lib.hid (yearsTo_len s m)
 have Hend := Lib.hid (yearsTo_end s m)
 have hy1 := g.ylo
 have hy2 := g.yhi
 clear h hi hm g hF
 go_enter Tryz.func83, Tryz.ntmps83
 obtain ⟨wp, hwp⟩ : ∃ wp, wp = (w.alloc (.cells (potC s ot cap om m.length cm) 108)).alloc (.map #[] 0) := ⟨_, rfl⟩
 have HP0 := Lib.hid (show PotBox wp w.heap.size s ot cap om m.length cm by rw [hwp]; exact (PotBox.new _ _ _ _ _ _ _).ext ((Ext.refl _).alloc _))
 have HE0 := Lib.hid (show Ext w wp by rw [hwp]; exact ((Ext.refl w).alloc _).alloc _)
 have HM0 := Lib.hid (show Notes wp (w.heap.size + 1) F s.ylo 0 0 by
  rw [hwp]
  refine ⟨?_, fun j p hj => by omega, fun p hp => by omega⟩
  have := Memo.new (w.alloc (.cells (potC s ot cap om m.length cm) 108)) F
  simpa only [World.size_alloc] using this)
 go_wp2
 go_step3
 go_wp2_with (first | ((with_reducible refine at_make145 rfl ?_); refine wpList_make145 rfl rfl ?_))
 rw [← hwp]
 clear hwp
 go_loopg [4, 5, 22] (s.yhi + 1 - s.ylo) (fun g y p q wr => ∃ i Y : Nat, Y = s.ylo + i ∧ i + g = s.yhi + 1 - s.ylo ∧ y = .int .i64 (Y : Nat) ∧ Turned (w.heap.size + 1) wp wr ∧ Notes wr (w.heap.size + 1) F s.ylo i 0)
 case atStart => exact ⟨0, s.ylo, by omega, by omega, rfl, Turned.refl _ _, HM0.out⟩
 case round =>
  obtain ⟨i, Y, hY, hi, rfl, hT, hN⟩ := hrel
  obtain ⟨g0, rfl⟩ : ∃ g0 : Nat, g0 = gk := ⟨_, rfl⟩
  have HP := Lib.hid (HP0.out.turned hT (by omega))
  have c0 := HP.out 0 _ rfl; have c1 := HP.out 1 _ rfl; have c2 := HP.out 2 _ rfl; have c3 := HP.out 3 _ rfl; have c4 := HP.out 4 _ rfl; have c5 := HP.out 5 _ rfl; have c6 := HP.out 6 _ rfl; have c7 := HP.out 7 _ rfl; have c8 := HP.out 8 _ rfl; have c9 := HP.out 9 _ rfl; have c10 := HP.out 10 _ rfl; have c11 := HP.out 11 _ rfl; have c12 := HP.out 12 _ rfl; have c13 : wr.cell? ⟨w.heap.size, 13, none⟩ = some (.slice om m.length cm) := HP.out 13 _ rfl
  have hYE := Lib.hid hY
  by_cases hlt : i < s.yhi + 1 - s.ylo
  ·have hYy : Y ≤ s.yhi := by omega
   have hle : (Y : Int) ≤ (ofSh s).yhi := by show (Y : Int) ≤ (s.yhi : Int); omega
   have q0 : IntKind.i64.wrap ((Y : Int) + 1) = (Y : Int) + 1 := by rw [IntWalk.i64_in _ (by omega)]
   clear hY
   have HN := Lib.hid hN
   have HT := Lib.hid hT
   clear hN hT
   go_wp2
   clear c0 c1 c2 c3 c4 c5 c6 c7 c8 c9 c10 c11 c12 c13
   go_loopg [5, 22] 3 (fun g p q wr => ∃ k : Nat, k + g = 3 ∧ q = .int .i64 k ∧ Turned (w.heap.size + 1) wp wr ∧ Notes wr (w.heap.size + 1) F s.ylo i k)
   case atStart => exact ⟨0, by omega, rfl, HT.out, HN.out⟩
   case round =>
    clear HP HT HN
    obtain ⟨k, hk, rfl, hT, hN⟩ := hrel
    have HP := Lib.hid (HP0.out.turned hT (by omega))
    have c0 := HP.out 0 _ rfl; have c1 := HP.out 1 _ rfl; have c2 := HP.out 2 _ rfl; have c3 := HP.out 3 _ rfl; have c4 := HP.out 4 _ rfl; have c5 := HP.out 5 _ rfl; have c6 := HP.out 6 _ rfl; have c7 := HP.out 7 _ rfl; have c8 := HP.out 8 _ rfl; have c9 := HP.out 9 _ rfl; have c10 := HP.out 10 _ rfl; have c11 := HP.out 11 _ rfl; have c12 := HP.out 12 _ rfl; have c13 : wr.cell? ⟨w.heap.size, 13, none⟩ = some (.slice om m.length cm) := HP.out 13 _ rfl
    have HN := Lib.hid hN
    have HT := Lib.hid hT
    have hwE := Lib.hid (ext_own HE0.out hT (by omega))
    clear hT hN
    by_cases hk3 : k < 3
    ·have hkI : (k : Int) < 3 := by omega
     have R := Lib.hid (R119.out k hk3 Y (by omega) wr hwE.out)
     clear hi hle hYy hlt
     go_wp2_with (first | (go_at_call 119; refine R.out.mono ?_; rintro e w2 ⟨rfl, hE4⟩; have HN2 := Lib.hid (HN.out.ext hE4); have HT2 := Lib.hid (HT.out.trans (Turned.of_ext hE4)); clear hE4 c0 c1 c2 c3 c4 c5 c6 c7 c8 c9 c10 c11 c12 c13) | ((with_reducible refine at_update145 _ _ _ rfl ?_); refine wpList_update145 rfl _ _ _ rfl (w.heap.size + 1) ?_ (k : Int) (Y : Int) ?_ F ?_ HN2.out.memo ?_; (focus (go_simp; done)); (focus (go_simp; done)); (focus (go_simp; done)); intro w3 hm3 hN3 hold hg _; rw [hYE.out] at hN3; have HN3 := Lib.hid (HN2.out.step hm3 hN3 hold); have HT3 := Lib.hid (HT2.out.trans hg); clear hm3 hN3 hold hg))
     go_roundg (gk - 1)
     case measure => omega
     case rel => exact ⟨k + 1, by omega, by go_num, HT3.out, HN3.out⟩
    ·obtain rfl : k = 3 := by omega
     go_wp2
     go_roundg (g0 - 1)
     case measure => omega
     case rel => exact ⟨i + 1, Y + 1, by have := hYE.out; omega, by omega, by go_num, HT.out, HN.out.next⟩
  ·obtain rfl : i = s.yhi + 1 - s.ylo := by omega
   have hle : ¬ (Y : Int) ≤ (ofSh s).yhi := by show ¬ (Y : Int) ≤ (s.yhi : Int); omega
   have HwE := Lib.hid (ext_own HE0.out hT (by omega))
   have HN := Lib.hid hN
   obtain ⟨wb, rfl⟩ : ∃ wb : World, wb = wr := ⟨_, rfl⟩
   obtain ⟨Y1, rfl⟩ : ∃ Y1 : Nat, Y1 = Y := ⟨_, rfl⟩
   clear hT hN hY hYE hi
   have HPb := Lib.hid HP.out
   go_wp2
   go_step3
   go_wp2
   clear hle
   clear c0 c1 c2 c3 c4 c5 c6 c7 c8 c9 c10 c11 c12 c13
   clear HP
   go_loopg [6, 7, 8, 46] (s.yhi + 1 - s.ylo) (fun g v y p q wr => ∃ i Y : Nat, Y = s.ylo + i ∧ i + g = s.yhi + 1 - s.ylo ∧ y = .int .i64 (Y : Nat) ∧ Ext wb wr ∧ My.Own wr wb.heap.size 3 v ((upL (yearsTo s m i)).map (Value.int .i64)))
   case atStart => exact ⟨0, s.ylo, by omega, by omega, rfl, Ext.refl _, Own.nil _ _ _⟩
   case round =>
    obtain ⟨i, Y, hY, hi, rfl, hE, hown⟩ := hrel
    obtain ⟨g0, rfl⟩ : ∃ g0 : Nat, g0 = gk := ⟨_, rfl⟩
    have HP := Lib.hid (HPb.out.ext hE)
    have HNw := Lib.hid (HN.out.ext hE)
    have HE := Lib.hid hE
    have Hown := Lib.hid hown
    have hYE := Lib.hid hY
    have hln := Hln.out i
    clear hown
    by_cases hlt : i < s.yhi + 1 - s.ylo
    ·have hYy : Y ≤ s.yhi := by omega
     have hle : (Y : Int) ≤ (ofSh s).yhi := by show (Y : Int) ≤ (s.yhi : Int); omega
     have q0 : IntKind.i64.wrap ((Y : Int) + 1) = (Y : Int) + 1 := by rw [IntWalk.i64_in _ (by omega)]
     have hsz := hE.size
     obtain ⟨wo, rfl⟩ : ∃ wo : World, wo = wr := ⟨_, rfl⟩
     have c9 := HP.out 9 _ rfl
     have c10 := HP.out 10 _ rfl
     clear hY hE
     go_wp2
     go_loopg [8, 46] 3 (fun g p q wr => ∃ k : Nat, k + g = 3 ∧ q = .int .i64 k ∧ wr = wo ∧ ∀ p : Nat, p < k → F (p : Nat) (Y : Nat) = true)
     case atStart => exact ⟨0, by omega, rfl, rfl, fun p hp => by omega⟩
     case round =>
      obtain ⟨k, hk, rfl, rfl, hall⟩ := hrel
      have Hall := Lib.hid hall
      clear hall
      by_cases hk3 : k < 3
      ·have hkI : (k : Int) < 3 := by omega
       have hN3 := HNw.out.old i k hlt hk3
       rw [← hYE.out] at hN3
       have HN3 := Lib.hid hN3
       clear hN3
       cases hv : F (k : Nat) (Y : Nat)
       ·have hno := Hno.out i k hk3 (by rw [← hYE.out]; exact hv)
        have Hn := Lib.hid hno
        clear hno
        go_wp2_with (first | ((with_reducible refine at_lookup145 _ _ rfl ?_); refine wpList_lookup145 rfl _ _ rfl (w.heap.size + 1) ?_ (k : Int) (Y : Int) ?_ F HNw.out.memo HN3.out ?_; (focus (go_simp; done)); (focus (go_simp; done))))
        go_roundg (g0 - 1)
        case measure => omega
        case rel => exact ⟨i + 1, Y + 1, by have := hYE.out; omega, by omega, by go_num, HE.out, by rw [Hn.out]; exact Hown.out⟩
       ·go_wp2_with (first | ((with_reducible refine at_lookup145 _ _ rfl ?_); refine wpList_lookup145 rfl _ _ rfl (w.heap.size + 1) ?_ (k : Int) (Y : Int) ?_ F HNw.out.memo HN3.out ?_; (focus (go_simp; done)); (focus (go_simp; done))))
        go_roundg (gk - 1)
        case measure => omega
        case rel => exact ⟨k + 1, by omega, by go_num, rfl, fun p hp => by
         rcases Nat.lt_succ_iff_lt_or_eq.1 hp with hp | rfl
         ·exact Hall.out p hp
         ·exact hv⟩
      ·obtain rfl : k = 3 := by omega
       have hy := Hyes.out i (fun p hp => by rw [← hYE.out]; exact Hall.out p hp)
       have Hy := Lib.hid hy
       clear hy
       go_wp2_with (first | (at_builtin; refine wpList_app1 _ rfl _ _ 29 rfl 3 Tryz.underlying29 (.int .i64 0) 8 i3 rfl (by decide) wb.heap.size _ _ rfl (Hown.out.ext ((Ext.refl _).alloc _)) wr.heap.size (.int .i64 Y) rfl (by go_simp) rfl ?_ ?_ ?_))
       ·rw [List.length_map, upL_length]; omega
       ·simp; omega
       ·intro v' w2 hown2 hBl _
        have Ho2 := Lib.hid hown2; clear hown2
        go_wp2
        go_roundg (g0 - 1)
        case measure => omega
        case rel => exact ⟨i + 1, Y + 1, by have := hYE.out; omega, by omega, by go_num, (HE.out.alloc _).below hBl (Nat.le_refl _), by rw [Hy.out]; have := Ho2.out; rw [hYE.out] at this; simpa [upL] using this⟩
    ·obtain rfl : i = s.yhi + 1 - s.ylo := by omega
     have hle : ¬ (Y : Int) ≤ (ofSh s).yhi := by show ¬ (Y : Int) ≤ (s.yhi : Int); omega
     have c9 := HP.out 9 _ rfl
     have c10 := HP.out 10 _ rfl
     rw [Hend.out] at Hown
     obtain ⟨oN, cN, hvN, n1, n2, n3, n4⟩ := Hown.out.slice
     rw [List.length_map, upL_length] at hvN n1
     subst hvN
     have HI := Lib.hid ((FreshAt.of_own Hown.out).low HwE.out.size)
     clear n4 Hown hE hY hYE
     go_wp2
     try rw [Exit.noGoto_ret]
     go_ret
     exact ⟨⟨oN, cN, rfl, HI.out⟩, HwE.out.trans HE.out⟩

end Go.Proofs.YtjpekonfjihcoaaGreatDoor
/- Truths in memory, as numbers; when they are as defined. No condition. -/
namespace Go.Proofs.YtjpekonfjihcoaaGreatDoor
open Go.RowKit Go.My Go.TintM

/-- The numbers of a truth; a tin is three numbers. -/
structure TI where
 years : Int
 f0 : Int
 f1 : Int
 f2 : Int
 tins : List (List Int)
def TI.f (t : TI) : Nat → Int
 | 0 => t.f0
 | 1 => t.f1
 | _ => t.f2
def TI.x (t : TI) (i p : Nat) : Int := (t.tins.getD i []).getD p 0
abbrev truthC (t : TI) (oa : Option Addr) (cap : Nat) : Array Value := #[.slice oa t.tins.length cap, .int .i64 t.years, .int .i64 t.f0, .int .i64 t.f1, .int .i64 t.f2]
abbrev truthV (t : TI) (oa : Option Addr) (cap : Nat) : Value := .agg (truthC t oa cap)
/-- The cells of a slice of rows of three. -/
def TrisAt (w : World) (oa : Option Addr) (ts : List (List Int)) : Prop :=
 ∀ (i : Nat) (t : List Int), ts[i]? = some t → ∃ b off, oa = some ⟨b, off, none⟩ ∧ b < w.heap.size ∧ t.length = 3 ∧ ∀ (j : Nat) (x : Int), t[j]? = some x → w.cell? ⟨b, off + i * 3 + j, none⟩ = some (.int .i64 x)
theorem TrisAt.ext {w w' : World} {oa : Option Addr} {ts : List (List Int)} (h : TrisAt w oa ts) (hE : Ext w w') : TrisAt w' oa ts := by
 intro i t ht
 obtain ⟨b, off, h1, h2, h3, h4⟩ := h i t ht
 exact ⟨b, off, h1, Nat.lt_of_lt_of_le h2 hE.size, h3, fun j x hx => cell_ext hE (h4 j x hx)⟩
theorem TrisAt.at {w : World} {oa : Option Addr} {t : TI} (h : TrisAt w oa t.tins) {k : Nat} (hk : k < t.tins.length) : ∃ b off x0 x1 x2, oa = some ⟨b, off, none⟩ ∧ b < w.heap.size ∧ (∀ p, p < 3 → t.x k p = [x0, x1, x2].getD p 0) ∧
  w.cell? ⟨b, off + k * 3, none⟩ = some (.int .i64 x0) ∧ w.cell? ⟨b, off + k * 3 + 1, none⟩ = some (.int .i64 x1) ∧ w.cell? ⟨b, off + k * 3 + 2, none⟩ = some (.int .i64 x2) := by
 obtain ⟨b, off, h1, h2, h3, h4⟩ := h k t.tins[k] (by simp [hk])
 match hT : t.tins[k], h3 with
 | [x0, x1, x2], _ =>
  rw [hT] at h4
  exact ⟨b, off, x0, x1, x2, h1, h2, fun p _ => by rw [TI.x, show t.tins.getD k [] = [x0, x1, x2] by simp [List.getD, hk, hT]], h4 0 x0 rfl, h4 1 x1 rfl, h4 2 x2 rfl⟩
/-- A box that holds a truth. -/
def TruthBox (W : World) (b : Nat) (t : TI) (oa : Option Addr) (cap : Nat) : Prop := ∀ (i : Nat) (v : Value), (truthC t oa cap)[i]? = some v → W.cell? ⟨b, i, none⟩ = some v
theorem TruthBox.new (w : World) (t : TI) (oa : Option Addr) (cap : Nat) : TruthBox (w.alloc (.cells (truthC t oa cap) 32)) w.heap.size t oa cap :=
 fun i v hv => by rw [cell_of_row _ _ i _ _ _ (heap_alloc_new w _)]; exact hv
theorem TruthBox.ext {W W' : World} {b : Nat} {t : TI} {oa : Option Addr} {cap : Nat} (h : TruthBox W b t oa cap) (hE : Ext W W') : TruthBox W' b t oa cap := fun i v hv => cell_ext hE (h i v hv)
theorem TruthBox.turned {W W' : World} {b q : Nat} {t : TI} {oa : Option Addr} {cap : Nat} (h : TruthBox W b t oa cap) (hT : Turned q W W') (hne : b ≠ q) : TruthBox W' b t oa cap :=
 fun i v hv => Turned.cell hT (by simpa using hne) (h i v hv)
theorem TruthBox.fade {W : World} {b : Nat} {t : TI} {oa : Option Addr} {cap : Nat} (h : TruthBox W b t oa cap) {p : Nat} (hp : p < 3) : W.cell? ⟨b, 2 + p, none⟩ = some (.int .i64 (t.f p)) := by
 match p, hp with
 | 0, _ => exact h 2 _ rfl
 | 1, _ => exact h 3 _ rfl
 | 2, _ => exact h 4 _ rfl

/-! when a truth is as defined -/
def tinT (s : Sh) (t : TI) (p i : Nat) : Bool := inB (t.x i p) (tlo (s.tins.getD i []) p : Nat) (thi (s.tins.getD i []) p : Nat)
def colT (s : Sh) (t : TI) (p : Nat) : Bool := inB (t.f p) (s.flo p : Nat) (s.fhi p : Nat) && (List.range s.tins.length).all (tinT s t p)
def truthB (s : Sh) (t : TI) : Bool := (decide (t.tins.length = s.tins.length) && inB t.years (s.ylo : Nat) (s.yhi : Nat)) && (colT s t 0 && (colT s t 1 && colT s t 2))
theorem truth_nolen {s : Sh} {t : TI} (h : ¬ t.tins.length = s.tins.length) : truthB s t = false := by simp [truthB, h]
theorem truth_noyear {s : Sh} {t : TI} (h : inB t.years (s.ylo : Nat) (s.yhi : Nat) = false) : truthB s t = false := by simp [truthB, h]
theorem truth_nocol {s : Sh} {t : TI} {p : Nat} (hp : p < 3) (h : colT s t p = false) : truthB s t = false := by
 match p, hp with
 | 0, _ => simp [truthB, h]
 | 1, _ => simp [truthB, h]
 | 2, _ => simp [truthB, h]
theorem truth_nofade {s : Sh} {t : TI} {p : Nat} (hp : p < 3) (h : inB (t.f p) (s.flo p : Nat) (s.fhi p : Nat) = false) : truthB s t = false := truth_nocol hp (by simp [colT, h])
theorem truth_notin {s : Sh} {t : TI} {p i : Nat} (hp : p < 3) (hi : i < s.tins.length) (h : tinT s t p i = false) : truthB s t = false := truth_nocol hp (by
 rw [colT, Bool.and_eq_false_iff]
 refine .inr ?_
 rw [List.all_eq_false]
 exact ⟨i, List.mem_range.2 hi, by simp [h]⟩)
theorem col_yes {s : Sh} {t : TI} {p : Nat} (h : inB (t.f p) (s.flo p : Nat) (s.fhi p : Nat) = true) (h2 : ∀ i, i < s.tins.length → tinT s t p i = true) : colT s t p = true := by
 rw [colT, h, Bool.true_and, List.all_eq_true]
 exact fun i hi => h2 i (List.mem_range.1 hi)
theorem truth_yes {s : Sh} {t : TI} (h : t.tins.length = s.tins.length) (h1 : inB t.years (s.ylo : Nat) (s.yhi : Nat) = true) (h2 : ∀ p, p < 3 → colT s t p = true) : truthB s t = true := by
 simp [truthB, h, h1, h2 0 (by omega), h2 1 (by omega), h2 2 (by omega)]

/-- A truth of natural numbers, as numbers of the program. -/
def ofTr (t : Tr) : TI where
 years := t.years
 f0 := t.fade 0
 f1 := t.fade 1
 f2 := t.fade 2
 tins := t.tins.map upL
theorem ofTr_f (t : Tr) {p : Nat} (hp : p < 3) : (ofTr t).f p = t.fade p := by
 match p, hp with
 | 0, _ => rfl
 | 1, _ => rfl
 | 2, _ => rfl
theorem ofTr_x (t : Tr) (i p : Nat) : (ofTr t).x i p = ((t.tins.getD i []).getD p 0 : Nat) := by
 simp only [TI.x, ofTr, upL, List.getD_eq_getElem?_getD, List.getElem?_map]
 cases t.tins[i]? with
 | none => simp
 | some r => simp only [Option.map_some, Option.getD_some, upL, List.getElem?_map]; cases r[p]? <;> rfl
theorem truth_of {s : Sh} {t : Tr} (h : GoodT s t) : truthB s (ofTr t) = true := by
 refine truth_yes (by simp [ofTr, h.len]) ?_ (fun p hp => col_yes ?_ fun i hi => ?_)
 ·rw [inB_iff]; have := h.y1; have := h.y2; simp only [ofTr]; omega
 ·rw [inB_iff, ofTr_f t hp]; have := h.f1 p hp; have := h.f2 p hp; omega
 ·rw [tinT, inB_iff, ofTr_x]; have := h.tin i (by rw [h.len]; exact hi) p hp; omega
theorem truth_lift {s : Sh} {t : TI} (h3 : ∀ r ∈ t.tins, r.length = 3) (h : truthB s t = true) : ∃ T, t = ofTr T ∧ GoodT s T := by
 have hc : ∀ p, p < 3 → colT s t p = true := fun p hp => by
  cases hh : colT s t p
  ·rw [truth_nocol hp hh] at h; cases h
  ·rfl
 have hd := h
 simp only [truthB, Bool.and_eq_true, decide_eq_true_eq, inB_iff] at hd
 have hf : ∀ p, p < 3 → (s.flo p : Int) ≤ t.f p ∧ t.f p ≤ s.fhi p := fun p hp => by
  have := hc p hp
  simp only [colT, Bool.and_eq_true, inB_iff] at this
  exact this.1
 have hx : ∀ i, i < s.tins.length → ∀ p, p < 3 → (tlo (s.tins.getD i []) p : Int) ≤ t.x i p ∧ t.x i p ≤ thi (s.tins.getD i []) p := fun i hi p hp => by
  have := hc p hp
  simp only [colT, Bool.and_eq_true, List.all_eq_true] at this
  have := this.2 i (List.mem_range.2 hi)
  rwa [tinT, inB_iff] at this
 have hn : ∀ r ∈ t.tins, ∀ x ∈ r, 0 ≤ x := fun r hr x hx' => by
  obtain ⟨i, hi⟩ := List.mem_iff_getElem?.1 hr
  obtain ⟨p, hp⟩ := List.mem_iff_getElem?.1 hx'
  have hil : i < t.tins.length := (List.getElem?_eq_some_iff.1 hi).1
  have hpl : p < 3 := by have := (List.getElem?_eq_some_iff.1 hp).1; rw [h3 r hr] at this; exact this
  have := (hx i (by rw [← hd.1.1]; exact hil) p hpl).1
  have e : t.x i p = x := by simp [TI.x, List.getD_eq_getElem?_getD, hi, hp]
  rw [e] at this; omega
 have hup : ∀ {ls : List (List Int)}, (∀ r ∈ ls, ∀ x ∈ r, 0 ≤ x) → ∃ ms : List (List Nat), ls = ms.map upL := fun {ls} => by
  induction ls with
  | nil => exact fun _ => ⟨[], rfl⟩
  | cons l ls ih =>
   intro hh
   obtain ⟨ms, rfl⟩ := ih (fun r hr => hh r (List.mem_cons_of_mem _ hr))
   obtain ⟨m, rfl⟩ := upL_lift (hh l List.mem_cons_self)
   exact ⟨m :: ms, rfl⟩
 obtain ⟨ms, hms⟩ := hup hn
 refine ⟨⟨t.years.toNat, fun p => (t.f p).toNat, ms⟩, ?_, ?_⟩
 ·have h0 := hf 0 (by omega)
  have h1 := hf 1 (by omega)
  have h2 := hf 2 (by omega)
  obtain ⟨y, f0, f1, f2, tt⟩ := t
  simp only [TI.f] at h0 h1 h2
  simp only at hms hd
  simp only [ofTr, TI.f, TI.mk.injEq]
  exact ⟨by omega, by omega, by omega, by omega, hms⟩
 ·have hT : t = ofTr ⟨t.years.toNat, fun p => (t.f p).toNat, ms⟩ := by
   have h0 := hf 0 (by omega)
   have h1 := hf 1 (by omega)
   have h2 := hf 2 (by omega)
   obtain ⟨y, f0, f1, f2, tt⟩ := t
   simp only [TI.f] at h0 h1 h2
   simp only at hms hd
   simp only [ofTr, TI.f, TI.mk.injEq]
   exact ⟨by omega, by omega, by omega, by omega, hms⟩
  have hml : ms.length = s.tins.length := by rw [← hd.1.1, hms, List.length_map]
  refine ⟨hml, by show s.ylo ≤ t.years.toNat; omega, by show t.years.toNat ≤ s.yhi; omega, fun p hp => ?_, fun p hp => ?_, fun i hi p hp => ?_⟩
  ·have := hf p hp; show s.flo p ≤ (t.f p).toNat; omega
  ·have := hf p hp; show (t.f p).toNat ≤ s.fhi p; omega
  ·have := hx i (by rw [← hml]; exact hi) p hp
   rw [hT, ofTr_x] at this
   simp only at this ⊢
   omega

end Go.Proofs.YtjpekonfjihcoaaGreatDoor
