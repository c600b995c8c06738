/- The doors: the arguments' readings opened into sheets, truths, lists and numbers; a law's contract out of its walk; the world of the witness. No condition. -/
import Derived.Below
import Derived.BigQuiet
import Derived.Carry
import Derived.ChangeMaps5
import Derived.Clock
import Derived.Deep.DeepCutAuto
import Derived.Deep.DeepFit
import Derived.Deep.DeepHandedRow
import Derived.Deep.LoopGhost
import Derived.Deep.QuietTactic
import Derived.Deep.RegionHeld
import Derived.Deep.RegionHeld3
import Derived.Deep.RegionWith
import Derived.Deep.Slices
import Derived.Laws.EntriesVeiled
import Derived.Lib.Hide
import Derived.Lib.IndexBytes
import Derived.Lib.ItoaNum
import Derived.Lib.LaidTab
import Derived.Lib.SplitLaws
import Derived.Maps.Keyed
import Derived.OpenShut
import Derived.OrdersHeld
import Derived.ProofKit
import Derived.Test.YtjpekonfjihcoaaGreatDoorCards
import Derived.Test.YtjpekonfjihcoaaGreatDoorProg
import Derived.Test.YtjpekonfjihcoaaGreatDoorTie
import Derived.WalkKit
import Derived.WalkLawsBesides
import Derived.WalkSpells
import Derived.Test.YtjpekonfjihcoaaGreatDoorM2
import Derived.Test.YtjpekonfjihcoaaGreatDoorM16
import Derived.Test.YtjpekonfjihcoaaGreatDoorM6
import Derived.Test.YtjpekonfjihcoaaGreatDoorM4
import Derived.Test.YtjpekonfjihcoaaGreatDoorM1
namespace Go.TintM
end Go.TintM
set_option maxRecDepth 100000
set_option maxHeartbeats 64000000
set_option linter.unusedVariables false
set_option linter.unusedSimpArgs false
namespace Go.Proofs.YtjpekonfjihcoaaGreatDoor
open Go.ChangeShapes Go.WideShapes Go.ChangeAt Go.RowKit Go.My Go.Deep Go.TintM

set_option linter.constructorNameAsVariable false
theorem spot_none {w : World} {a : Addr} {v : Value} (h : w.cell? (a.add 0) = some v) : a = ⟨a.block, a.off, none⟩ := by
 obtain ⟨b, off, spot⟩ := a
 have hspot : spot = none := by simpa [Addr.add] using World.cell?_spot h
 subst hspot
 rfl

theorem ints_of {w : World} {oa : Option Addr} {len cap : Nat} {zs : List Int} (hl : len ≤ cap) (hz : zs.length = cap) (h : ∀ a, oa = some a → ∀ c, c < cap → w.cell? (a.add c) = some (.int .i64 (zs.getD c 0))) (hn : oa = none → cap = 0) : IntsAt w oa (zs.take len) := by
 intro i x hx
 rw [List.getElem?_take] at hx
 split at hx
 ·rename_i hi
  cases oa with
  | none => have := hn rfl; omega
  | some a =>
   have hc := h a rfl i (by omega)
   have ha := spot_none (h a rfl 0 (by omega))
   obtain ⟨b, off, sp⟩ := a
   simp only [Addr.mk.injEq, true_and] at ha
   subst ha
   rw [add_none] at hc
   refine ⟨b, off, rfl, World.block_lt_of_cell? w _ hc, ?_⟩
   rw [hc, List.getD_eq_getElem?_getD, hx]; rfl
 ·cases hx

section
variable {H : Type} {enc : TypeId × Value → H} {W : World} {d : DataW H} {p : List MemPlace} {v : Value}

theorem list_open (h : DataW.Trod enc Tryz.prog W 0 (fun _ => true) true 29 v d p) (hval : Value.okWide Tryz.prog W .any 0 29 v) : ∃ l oa cap, v = .slice oa l.length cap ∧ l.length ≤ cap ∧ cap ≤ maxLen ∧ (oa = none → cap = 0) ∧ IntsAt W oa l := by
 obtain ⟨a0, len0, cap0, rfl⟩ := okWide_slice Tryz.underlying29 hval
 obtain ⟨n, hn⟩ := h
 rcases open_ints Tryz.underlying29 Tryz.underlying3 (by kernel_rfl) hn with ⟨h1, _⟩ | ⟨a, len, cap, zs, h1, _, hl, hm, hz, _, hc, _⟩
 ·have : a0 = none ∧ len0 = 0 ∧ cap0 = 0 := by simpa [Value.cells] using h1
  obtain ⟨rfl, rfl, rfl⟩ := this
  exact ⟨[], none, 0, rfl, Nat.le_refl _, by decide, fun _ => rfl, fun i x hx => by simp at hx⟩
 ·have : a0 = some a ∧ len0 = len ∧ cap0 = cap := by simpa [Value.cells] using h1
  obtain ⟨rfl, rfl, rfl⟩ := this
  simp only [if_true] at hz
  refine ⟨zs.take len0, some a, cap0, by rw [List.length_take, hz, Nat.min_eq_left hl], by rw [List.length_take, hz, Nat.min_eq_left hl]; exact hl, hm, (fun h => by cases h), ints_of hl hz (fun a' ha' c hcc => by cases ha'; exact hc c (by omega)) (fun h => by cases h)⟩

/-- A type of n whole numbers, flat. -/
def Flat (t : TypeId) (n : Nat) : Prop := ∀ (H : Type) (enc : TypeId × Value → H) (W : World) (fuel : Nat) (cs : List Value) (x : DataW H × List MemPlace), DataW.trod enc Tryz.prog W 0 (fun _ => true) true fuel t cs = some x → cs.length = n ∧ ∀ j, j < n → ∃ m : Int, cs[j]? = some (.int .i64 m)
theorem flat3 : Flat 3 1 := fun H enc W fuel cs x h => by
 obtain ⟨m, rfl, _, _⟩ := DataW.trod_int Tryz.underlying3 h
 refine ⟨rfl, fun j hj => ?_⟩
 obtain rfl : j = 0 := by omega
 exact ⟨m, rfl⟩
theorem flat_at {cs : List Value} {o n j : Nat} (h : ∀ j, j < n → ∃ m : Int, ((cs.drop o).take n)[j]? = some (.int .i64 m)) (h1 : o ≤ j) (h2 : j < o + n) : ∃ m : Int, cs[j]? = some (.int .i64 m) := by
 obtain ⟨m, hm⟩ := h (j - o) (by omega)
 rw [List.getElem?_take, if_pos (by omega), List.getElem?_drop, show o + (j - o) = j by omega] at hm
 exact ⟨m, hm⟩
theorem flat_field {t : TypeId} {n o : Nat} {H : Type} {enc : TypeId × Value → H} {W : World} {fuel : Nat} {cs : List Value} {x : Option (DataW H × List MemPlace)} (ht : Flat t n) (hx : x ≠ none) (hc : Tryz.prog.cellsOf t = n)
  (h : DataW.trod enc Tryz.prog W 0 (fun _ => true) true fuel t ((cs.drop o).take (Tryz.prog.cellsOf t)) = x) : ∀ j, o ≤ j → j < o + n → ∃ m : Int, cs[j]? = some (.int .i64 m) := by
 cases x with
 | none => exact absurd rfl hx
 | some y =>
  rw [hc] at h
  exact fun j h1 h2 => flat_at ((ht H enc W fuel _ y h).2) h1 h2
theorem flat24 : Flat 24 2 := fun H enc W fuel cs x h => by
 obtain ⟨xs, n, _, _, hl, hxl, hf⟩ := DataW.trod_struct Tryz.underlying24 h
 match xs, hxl with
 | [y0, y1], _ =>
  have k0 := flat_field flat3 (by simp) (by kernel_rfl) (hf 0 _ rfl)
  have k1 := flat_field flat3 (by simp) (by kernel_rfl) (hf 1 _ rfl)
  refine ⟨hl.trans (by kernel_rfl), fun j hj => ?_⟩
  match j, hj with
  | 0, _ => exact k0 0 (by decide) (by decide)
  | 1, _ => exact k1 1 (by decide) (by decide)
theorem flat22 : Flat 22 3 := fun H enc W fuel cs x h => by
 obtain ⟨xs, n, _, _, hl, hxl, hf⟩ := DataW.trod_array Tryz.underlying22 h
 match xs, hxl with
 | [y0, y1, y2], _ =>
  have hc : Tryz.prog.cellsOf 3 = 1 := by kernel_rfl
  have k0 := flat_field flat3 (by simp) hc (hf 0 (by decide))
  have k1 := flat_field flat3 (by simp) hc (hf 1 (by decide))
  have k2 := flat_field flat3 (by simp) hc (hf 2 (by decide))
  rw [hc] at k0 k1 k2
  refine ⟨hl.trans (by kernel_rfl), fun j hj => ?_⟩
  match j, hj with
  | 0, _ => exact k0 0 (by decide) (by decide)
  | 1, _ => exact k1 1 (by decide) (by decide)
  | 2, _ => exact k2 2 (by decide) (by decide)
theorem flat25 : Flat 25 6 := fun H enc W fuel cs x h => by
 obtain ⟨xs, n, _, _, hl, hxl, hf⟩ := DataW.trod_array Tryz.underlying25 h
 match xs, hxl with
 | [y0, y1, y2], _ =>
  have hc : Tryz.prog.cellsOf 24 = 2 := by kernel_rfl
  have k0 := flat_field flat24 (by simp) hc (hf 0 (by decide))
  have k1 := flat_field flat24 (by simp) hc (hf 1 (by decide))
  have k2 := flat_field flat24 (by simp) hc (hf 2 (by decide))
  rw [hc] at k0 k1 k2
  refine ⟨hl.trans (by kernel_rfl), fun j hj => ?_⟩
  match j, hj with
  | 0, _ => exact k0 0 (by decide) (by decide)
  | 1, _ => exact k0 1 (by decide) (by decide)
  | 2, _ => exact k1 2 (by decide) (by decide)
  | 3, _ => exact k1 3 (by decide) (by decide)
  | 4, _ => exact k2 4 (by decide) (by decide)
  | 5, _ => exact k2 5 (by decide) (by decide)
theorem flat82 : Flat 82 6 := fun H enc W fuel cs x h => by
 obtain ⟨xs, n, _, _, hl, hxl, hf⟩ := DataW.trod_struct Tryz.underlying82 h
 match xs, hxl with
 | [y0], _ =>
  have k0 := flat_field flat25 (by simp) (by kernel_rfl) (hf 0 _ rfl)
  exact ⟨hl.trans (by kernel_rfl), fun j hj => k0 j (Nat.zero_le _) (by simpa using hj)⟩
theorem list_ints : ∀ {n : Nat} {cs : List Value} (_hl : cs.length = n) (_h : ∀ j, j < n → ∃ m : Int, cs[j]? = some (.int .i64 m)), ∃ zs : List Int, cs = zs.map (Value.int .i64) ∧ zs.length = n
 | 0, [], _, _ => ⟨[], rfl, rfl⟩
 | n + 1, c :: cs, hl, h => by
  obtain ⟨m, hm⟩ := h 0 (by omega)
  obtain ⟨zs, rfl, hz⟩ := list_ints (n := n) (cs := cs) (by simpa using hl) (fun j hj => by simpa using h (j + 1) (by omega))
  simp only [List.getElem?_cons_zero, Option.some.injEq] at hm
  exact ⟨m :: zs, by rw [hm]; rfl, by simp [hz]⟩

/-- The elements of a slice of flat things. -/
theorem flats_open {t e : TypeId} {n fuel : Nat} {v : Value} {x : DataW H × List MemPlace} (ht : Tryz.prog.underlying t = some (.slice e)) (hf : Flat e n) (hc : Tryz.prog.cellsOf e = n) (hn : 0 < n)
  (h : DataW.trod enc Tryz.prog W 0 (fun _ => true) true fuel t [v] = some x) :
  ∃ (ts : List (List Int)) (oa : Option Addr) (cap : Nat), v = .slice oa ts.length cap ∧ ts.length ≤ cap ∧ cap ≤ maxLen ∧ (oa = none → cap = 0) ∧
   ∀ (i : Nat) (u : List Int), ts[i]? = some u → ∃ b off, oa = some ⟨b, off, none⟩ ∧ b < W.heap.size ∧ u.length = n ∧ ∀ (j : Nat) (z : Int), u[j]? = some z → W.cell? ⟨b, off + i * n + j, none⟩ = some (.int .i64 z) := by
 rcases Go.Deep.open_slice ht h with ⟨h1, _⟩ | ⟨a, len, cap, m, k, D, Pl, h1, _, hl, hm, hmm, _, hr⟩
 ·have : v = .slice none 0 0 := by simpa using h1
  subst this
  exact ⟨[], none, 0, rfl, Nat.le_refl _, by decide, fun _ => rfl, fun i u hu => by simp at hu⟩
 ·have : v = .slice (some a) len cap := by simpa using h1
  subst this
  simp only [if_true] at hmm
  subst hmm
  obtain ⟨Z, hZ⟩ := choose_lt (α := List Int) (n := m) (p := fun i z => z.length = n ∧ ∀ j, j < n → ∀ y, z[j]? = some y → W.cell? (a.add (i * n + j)) = some (.int .i64 y)) (fun i hi => by
   obtain ⟨cs, c1, c2⟩ := hr i hi
   rw [hc] at c1
   obtain ⟨_, cl, cc⟩ := World.cells?_some c1
   obtain ⟨_, fl⟩ := hf H enc W k cs _ c2
   obtain ⟨zs, rfl, hz⟩ := list_ints cl fl
   refine ⟨zs, hz, fun j hj y hy => ?_⟩
   have := cc j hj
   rw [Go.Deep.add_add] at this
   rw [this, List.getElem?_map, hy]; rfl)
  have hsp : 0 < m → a = ⟨a.block, a.off, none⟩ := fun hi => by
   obtain ⟨hz1, hz2⟩ := hZ 0 hi
   have hy := hz2 0 hn ((Z 0)[0]'(by omega)) (by simp)
   rw [Nat.zero_mul] at hy
   exact spot_none hy
  refine ⟨(List.range len).map Z, some a, m, by simp, by simpa using hl, hm, (fun h => by cases h), fun i u hi => ?_⟩
  have hil : i < len := by
   have := (List.getElem?_eq_some_iff.1 hi).1
   simpa using this
  have hu : u = Z i := by simpa [hil] using hi.symm
  subst hu
  obtain ⟨hz1, hz2⟩ := hZ i (by omega)
  have ha := hsp (by omega)
  obtain ⟨b, off, sp⟩ := a
  simp only [Addr.mk.injEq, true_and] at ha
  subst ha
  have hcell : ∀ (j : Nat) (z : Int), (Z i)[j]? = some z → W.cell? ⟨b, off + i * n + j, none⟩ = some (.int .i64 z) := fun j z hz => by
   have hj : j < n := by have := (List.getElem?_eq_some_iff.1 hz).1; omega
   have := hz2 j hj z hz
   rw [add_none, ← Nat.add_assoc] at this
   exact this
  exact ⟨b, off, rfl, World.block_lt_of_cell? W _ (hcell 0 ((Z i)[0]'(by omega)) (by simp)), hz1, hcell⟩

theorem list6 {cs : List Value} (hl : cs.length = 6) (h : ∀ j, j < 6 → ∃ m : Int, cs[j]? = some (.int .i64 m)) : ∃ x0 x1 x2 x3 x4 x5 : Int, cs = [.int .i64 x0, .int .i64 x1, .int .i64 x2, .int .i64 x3, .int .i64 x4, .int .i64 x5] := by
 obtain ⟨zs, rfl, hz⟩ := list_ints hl h
 match zs, hz with
 | [x0, x1, x2, x3, x4, x5], _ => exact ⟨x0, x1, x2, x3, x4, x5, rfl⟩
theorem agg_list {v : Value} {cs : Array Value} {l : List Value} (h : v = .agg cs) (hl : cs.toList = l) : v = .agg l.toArray := by subst hl; simpa using h
theorem okWide_array {t e : TypeId} {k : Nat} (ht : Tryz.prog.underlying t = some (.array k e)) (h : Value.okWide Tryz.prog W .any 0 t v) : ∃ cs, v = .agg cs ∧ cs.size = Tryz.prog.cellsOf t := by
 simp only [Value.okWide, ht] at h
 obtain ⟨cs, h1, h2, _⟩ := h
 exact ⟨cs, h1, h2⟩

theorem tin_open (h : DataW.Trod enc Tryz.prog W 0 (fun _ => true) true 82 v d p) (hval : Value.okWide Tryz.prog W .any 0 82 v) : ∃ x0 x1 x2 x3 x4 x5 : Int, v = tinV x0 x1 x2 x3 x4 x5 := by
 obtain ⟨cs, rfl, _⟩ := okWide_struct Tryz.underlying82 hval
 obtain ⟨n, hn⟩ := h
 obtain ⟨h1, h2⟩ := flat82 H enc W n cs.toList _ hn
 obtain ⟨x0, x1, x2, x3, x4, x5, h3⟩ := list6 h1 h2
 exact ⟨x0, x1, x2, x3, x4, x5, agg_list rfl h3⟩
theorem span_open (h : DataW.Trod enc Tryz.prog W 0 (fun _ => true) true 24 v d p) (hval : Value.okWide Tryz.prog W .any 0 24 v) : ∃ a b : Int, v = spanV a b := by
 obtain ⟨cs, rfl, _⟩ := okWide_struct Tryz.underlying24 hval
 obtain ⟨n, hn⟩ := h
 obtain ⟨h1, h2⟩ := flat24 H enc W n cs.toList _ hn
 obtain ⟨zs, h3, hz⟩ := list_ints h1 h2
 match zs, hz with
 | [a, b], _ => exact ⟨a, b, agg_list rfl h3⟩
theorem dir_open (h : DataW.Trod enc Tryz.prog W 0 (fun _ => true) true 22 v d p) (hval : Value.okWide Tryz.prog W .any 0 22 v) : ∃ a b c : Int, v = .agg #[.int .i64 a, .int .i64 b, .int .i64 c] := by
 obtain ⟨cs, rfl, _⟩ := okWide_array Tryz.underlying22 hval
 obtain ⟨n, hn⟩ := h
 obtain ⟨h1, h2⟩ := flat22 H enc W n cs.toList _ hn
 obtain ⟨zs, h3, hz⟩ := list_ints h1 h2
 match zs, hz with
 | [a, b, c], _ => exact ⟨a, b, c, agg_list rfl h3⟩

theorem sheet_open (h : DataW.Trod enc Tryz.prog W 0 (fun _ => true) true 28 v d p) (hval : Value.okWide Tryz.prog W .any 0 28 v) : ∃ (s : SI) (ot : Option Addr) (cap : Nat), v = sheetV s ot cap ∧ s.tins.length ≤ cap ∧ cap ≤ maxLen ∧ (ot = none → cap = 0) ∧ TinsAt W ot s.tins := by
 obtain ⟨cs, rfl, _⟩ := okWide_struct Tryz.underlying28 hval
 obtain ⟨fuel, hn⟩ := h
 have hn' : DataW.trod enc Tryz.prog W 0 (fun _ => true) true fuel 28 cs.toList = some (d, p) := hn
 obtain ⟨xs, n, _, _, hl, hxl, hf⟩ := DataW.trod_struct Tryz.underlying28 hn'
 have hl' : cs.toList.length = 13 := hl.trans (by kernel_rfl)
 obtain ⟨l⟩ := cs
 match l, hl', xs, hxl with
 | [c0, c1, c2, c3, c4, c5, c6, c7, c8, c9, c10, c11, c12], _, [y0, y1, y2, y3, y4], _ =>
  have k0 := flat_field flat22 (by simp) (by kernel_rfl) (hf 0 _ rfl)
  have k1 := flat_field flat25 (by simp) (by kernel_rfl) (hf 1 _ rfl)
  have k2 := flat_field flat24 (by simp) (by kernel_rfl) (hf 2 _ rfl)
  have k3 := flat_field flat3 (by simp) (by kernel_rfl) (hf 3 _ rfl)
  have k4 : DataW.trod enc Tryz.prog W 0 (fun _ => true) true n 26 [c12] = some y4 := hf 4 _ rfl
  obtain ⟨x0, e0⟩ := k0 0 (by decide) (by decide)
  obtain ⟨x1, e1⟩ := k0 1 (by decide) (by decide)
  obtain ⟨x2, e2⟩ := k0 2 (by decide) (by decide)
  obtain ⟨x3, e3⟩ := k1 3 (by decide) (by decide)
  obtain ⟨x4, e4⟩ := k1 4 (by decide) (by decide)
  obtain ⟨x5, e5⟩ := k1 5 (by decide) (by decide)
  obtain ⟨x6, e6⟩ := k1 6 (by decide) (by decide)
  obtain ⟨x7, e7⟩ := k1 7 (by decide) (by decide)
  obtain ⟨x8, e8⟩ := k1 8 (by decide) (by decide)
  obtain ⟨x9, e9⟩ := k2 9 (by decide) (by decide)
  obtain ⟨x10, e10⟩ := k2 10 (by decide) (by decide)
  obtain ⟨x11, e11⟩ := k3 11 (by decide) (by decide)
  cases e0; cases e1; cases e2; cases e3; cases e4; cases e5; cases e6; cases e7; cases e8; cases e9; cases e10; cases e11
  obtain ⟨ts, ot, cap, rfl, q1, q2, q3, q4⟩ := flats_open Tryz.underlying26 flat82 (by kernel_rfl) (by decide) k4
  exact ⟨⟨x0, x1, x2, x3, x4, x5, x6, x7, x8, x9, x10, x11, ts⟩, ot, cap, rfl, q1, q2, q3, q4⟩

theorem truth_open (h : DataW.Trod enc Tryz.prog W 0 (fun _ => true) true 32 v d p) (hval : Value.okWide Tryz.prog W .any 0 32 v) : ∃ (t : TI) (ot : Option Addr) (cap : Nat), v = truthV t ot cap ∧ t.tins.length ≤ cap ∧ cap ≤ maxLen ∧ (ot = none → cap = 0) ∧ TrisAt W ot t.tins := by
 obtain ⟨cs, rfl, _⟩ := okWide_struct Tryz.underlying32 hval
 obtain ⟨fuel, hn⟩ := h
 have hn' : DataW.trod enc Tryz.prog W 0 (fun _ => true) true fuel 32 cs.toList = some (d, p) := hn
 obtain ⟨xs, n, _, _, hl, hxl, hf⟩ := DataW.trod_struct Tryz.underlying32 hn'
 have hl' : cs.toList.length = 5 := hl.trans (by kernel_rfl)
 obtain ⟨l⟩ := cs
 match l, hl', xs, hxl with
 | [c0, c1, c2, c3, c4], _, [y0, y1, y2], _ =>
  have k0 : DataW.trod enc Tryz.prog W 0 (fun _ => true) true n 30 [c0] = some y0 := hf 0 _ rfl
  have k1 := flat_field flat3 (by simp) (by kernel_rfl) (hf 1 _ rfl)
  have k2 := flat_field flat22 (by simp) (by kernel_rfl) (hf 2 _ rfl)
  obtain ⟨x1, e1⟩ := k1 1 (by decide) (by decide)
  obtain ⟨x2, e2⟩ := k2 2 (by decide) (by decide)
  obtain ⟨x3, e3⟩ := k2 3 (by decide) (by decide)
  obtain ⟨x4, e4⟩ := k2 4 (by decide) (by decide)
  cases e1; cases e2; cases e3; cases e4
  obtain ⟨ts, ot, cap, rfl, q1, q2, q3, q4⟩ := flats_open Tryz.underlying30 flat22 (by kernel_rfl) (by decide) k0
  exact ⟨⟨x1, x2, x3, x4, ts⟩, ot, cap, rfl, q1, q2, q3, q4⟩

theorem int_open (h : DataW.Trod enc Tryz.prog W 0 (fun _ => true) true 3 v d p) (hval : Value.okWide Tryz.prog W .any 0 3 v) : ∃ m : Int, v = .int .i64 m ∧ -9223372036854775808 ≤ m ∧ m ≤ 9223372036854775807 := by
 obtain ⟨m, rfl, _, _, hw⟩ := open_int Tryz.underlying3 hval h
 simp only [Lit.wf, Bool.and_eq_true, decide_eq_true_eq] at hw
 exact ⟨m, rfl, hw.1, hw.2⟩

theorem string_open (h : DataW.Trod enc Tryz.prog W 0 (fun _ => true) true 9 v d p) (hval : Value.okWide Tryz.prog W .any 0 9 v) : ∃ l : List UInt8, v = .string (bs l) ∧ l.length ≤ 9223372036854775807 := by
 obtain ⟨s, rfl, _, _, hs⟩ := Go.ChangeMaps.open_string Tryz.underlying9 hval h
 have e : s.data.toList.length = s.size := Array.length_toList
 exact ⟨s.data.toList, rfl, by rw [e]; unfold maxLen at hs; omega⟩

theorem trodAll_below {W' : World} (hb : Ext W W') {sp : Nat → Bool} : ∀ {ts : List TypeId} {vs : List Value} {ds : List (DataW H)} {ps : List MemPlace} (_ht : ∀ t ∈ ts, Tryz.prog.readableRec t = true ∧ t < Tryz.prog.types.size)
  (_h : DataW.TrodAll enc Tryz.prog W 0 (fun _ => true) true ts vs ds ps) (_hlt : ∀ x ∈ ps, x.block < W.heap.size) (_hs : ∀ x ∈ ps, sp x.block = true), DataW.TrodAll enc Tryz.prog W' 0 sp true ts vs ds ps
 | [], _, _, _, _, h, _, _ => by
  obtain ⟨rfl, rfl, rfl⟩ := trodAll_nil h
  exact trodAll_mk0
 | t :: ts, _, _, _, ht, h, hlt, hs => by
  obtain ⟨v0, vs0, d0, ds0, p0, q0, rfl, rfl, rfl, h0, r0⟩ := trodAll_cons h
  have h1 := ht t List.mem_cons_self
  exact trodAll_cons_mk (WideElems.Trod_stays (by kernel_rfl) h1.1 h1.2 h0 (fun x hx => hb.same (hlt x (List.mem_append_left _ hx))) (fun x hx => hs x (List.mem_append_left _ hx)))
   (trodAll_below hb (fun t' ht' => ht t' (List.mem_cons_of_mem _ ht')) r0 (fun x hx => hlt x (List.mem_append_right _ hx)) (fun x hx => hs x (List.mem_append_right _ hx)))
theorem trodAll_len : ∀ {ts : List TypeId} {vs : List Value} {ds : List (DataW H)} {ps : List MemPlace} (_h : DataW.TrodAll enc Tryz.prog W 0 (fun _ => true) true ts vs ds ps), ds.length = ts.length ∧ vs.length = ts.length
 | [], _, _, _, h => by obtain ⟨rfl, rfl, rfl⟩ := trodAll_nil h; exact ⟨rfl, rfl⟩
 | t :: ts, _, _, _, h => by
  obtain ⟨v0, vs0, d0, ds0, p0, q0, rfl, rfl, rfl, h0, r0⟩ := trodAll_cons h
  have := trodAll_len r0
  simp [this.1, this.2]

/-- A law's contract out of its walk. -/
theorem law_contract {f : Func} {fi : FuncId} {s : ChangeSpec} (hv : s.vars = []) (hr : f.resultTypes = #[4]) (hp : ∀ t ∈ f.params.toList, Tryz.prog.readableRec t = true ∧ t < Tryz.prog.types.size)
  (hfn : ∀ (H : Type) (ds : List (DataW H)), ds.length = f.params.size → s.fn H ds = { results := [.lit (.bool true)], args := ds }) {args : Array Value} {ds gs : List (DataW H)} {before : List MemPlace}
  (hW : DataW.Whole enc Tryz.prog f.params.toList s.vars false W args.toList ds gs before) (hc : Calls Tryz.prog fi args W fun e W' => e = .returned (.bool true) ∧ Ext W W') :
  Calls Tryz.prog fi args W fun e W' => ∃ v, e = .returned v ∧ s.post enc Tryz.prog f false true false false W args v W' := by
 have hW' := hW
 obtain ⟨p, q, hA, hV, rfl, hfz, hnd⟩ := hW
 rw [hv] at hV
 obtain ⟨rfl, rfl⟩ := trodVars_none hV
 have hfn' := hfn H (ds ++ []) (by rw [List.append_nil, (trodAll_len hA).1]; simp)
 refine hc.mono fun e W' ⟨he, hE⟩ => ?_
 subst he
 have hpl : ∀ x ∈ p, x.block < W.heap.size := fun x hx => by simpa using hW'.lt x (by simpa using hx)
 have hargs : ∀ sp : Nat → Bool, (∀ x ∈ p, sp x.block = true) → DataW.TrodAll enc Tryz.prog W' 0 sp true f.params.toList args.toList (s.fn H (ds ++ [])).args p := fun sp hsp => by
  rw [hfn']
  simp only [List.append_nil]
  exact trodAll_below hE hp hA hpl hsp
 have hres : ∀ (b : Nat) (sp : Nat → Bool) (hd : Bool), DataW.TrodAll enc Tryz.prog W' b sp hd f.resultTypes.toList ((Value.bool true).resultList f.resultTypes.size) (s.fn H (ds ++ [])).results [] := fun b sp hd => by
  rw [hfn', hr]
  exact trodAll_cons_mk (shut_bool Tryz.underlying4 _) trodAll_mk0
 have hvars : ∀ sp : Nat → Bool, DataW.TrodVars enc Tryz.prog W' sp s.vars (s.fn H (ds ++ [])).vars [] := fun sp => by
  rw [hv, hfn']
  rfl
 refine ⟨_, rfl, ds, [], p ++ [], [], p, [], hW', hres _ _ _, hargs _ (fun x hx => by simpa using hpl x hx), hvars _, World.keptBut_mono (fun x hx => ⟨hx, Or.inr (by simpa using hx)⟩) (hE.frame _), fun _ => ?_⟩
 refine ⟨ok_one hr rfl (okWide_bool_mk Tryz.underlying4 true), _, _, ([] ++ p) ++ [], ⟨[] ++ p, [], trodAll_append (hargs _ (fun _ _ => rfl)) (hres _ _ _), hvars _, rfl, fun b off hx => ?_, fun ha => by simpa using hnd ha⟩, fun x hx _ => by simpa using hx⟩
 have hx' : MemPlace.cell b off ∈ p := by simpa using hx
 rw [hE.frozen (by exact hpl _ hx')]
 exact hfz b off (by simpa using hx')
end

/-- The cell of bytealg.MaxLen holds some number. -/
theorem maxLen_cell {W : World} (h : W.ShapedOpen Tryz.prog) : ∃ m, W.cell? ⟨1, 0, none⟩ = some (.int .i64 m) := by
 obtain ⟨cs, hh, hs, hr⟩ := h.1 1 #[.int .i64 0] 3 (of_decide_eq_true (by kernel_rfl)) (by kernel_rfl)
 obtain ⟨ts, hts, _, hall⟩ := hr (by kernel_rfl)
 have hts' : Tryz.prog.cellTypes Tryz.prog.depth 3 = some [3] := by kernel_rfl
 rw [hts'] at hts
 cases hts
 have h1 : 0 < cs.size := by rw [hs]; decide
 obtain ⟨u, hu', hok⟩ := hall 0 cs[0] (by simp [h1])
 have : u = 3 := by simpa using hu'.symm
 subst this
 have hcell : W.cell? ⟨1, 0, none⟩ = some cs[0] := by simp [World.cell?, hh, h1]
 rw [hcell]
 unfold Cell.ok at hok
 rw [Tryz.underlying3] at hok
 cases hv : cs[0] <;> rw [hv] at hok <;> first | (simp at hok; done) | skip
 obtain ⟨hk, _⟩ := hok
 rw [hk]
 exact ⟨_, rfl⟩

/-- What the initialisers lay, as cells. -/
def lit1 : DataW Unit → Value
 | .lit (.int k n) => .int k n
 | _ => undef
def lits1 : DataW Unit → List Value
 | .agg l => l.map lit1
 | _ => []
def lits2 : DataW Unit → List Value
 | .agg l => l.flatMap lits1
 | _ => []
def putCells (cs : List Value) : Obj → Obj
 | .cells _ t frozen => .cells cs.toArray t frozen
 | o => o
/-- A world for the witness: the settled one, the tables holding what their initialisers lay. -/
noncomputable def laidWorld (os : Os) : World :=
 { World.holding Tryz.prog os ⟨#[], #[], []⟩ with heap := (((((World.holding Tryz.prog os ⟨#[], #[], []⟩).heap.modify 0 (putCells (lits1 Rows.laid_internal_strconv_uint64pow10))).modify 2 (putCells (lits1 Rows.laid_unicode_utf8_first))).modify 3 (putCells (lits2 Rows.laid_unicode_utf8_acceptRanges))).modify 4 (putCells (lits1 Rows.laid_math_bits_deBruijn32tab))).modify 5 (putCells (lits1 Rows.laid_math_bits_deBruijn64tab)) }

end Go.Proofs.YtjpekonfjihcoaaGreatDoor
