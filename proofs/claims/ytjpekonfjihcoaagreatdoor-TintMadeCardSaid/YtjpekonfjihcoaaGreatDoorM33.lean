/- Contracts and mathematics, joined: Known1, Known2, Known3. Conditions stand with each. -/
import Derived.ArgAppend
import Derived.Below
import Derived.BigQuiet
import Derived.Deep.DeepCutAuto
import Derived.Deep.DeepFit
import Derived.Deep.LoopGhost
import Derived.Deep.QuietTactic
import Derived.Deep.RegionHeld
import Derived.Deep.RegionHeld3
import Derived.Deep.RegionWith
import Derived.Deep.Upon
import Derived.Defers
import Derived.Laws.BytesArg
import Derived.Laws.EntriesVeiled
import Derived.Laws.OwnMore
import Derived.Lib.Hide
import Derived.Lib.IndexBytes
import Derived.Lib.ItoaNum
import Derived.Lib.SplitLaws
import Derived.LoopIn
import Derived.LoopNIn
import Derived.Maps.AppendAt
import Derived.Maps.Keyed
import Derived.Maps.OwnIn
import Derived.OrdersHeld
import Derived.OwnWalkIn
import Derived.RangeFuncBound
import Derived.RangeFuncCalls
import Derived.RangeFuncLeaves
import Derived.RangeFuncNested
import Derived.Recover
import Derived.RegionIn
import Derived.Shelf.Abstract
import Derived.Shelf.Strconv.Itoa3
import Derived.Shelf.Strings.Split
import Derived.TacticsIn
import Derived.TacticsInMore
import Derived.Test.YtjpekonfjihcoaaGreatDoorProg
import Derived.WalkKit
import Derived.WalkLawsBesides
import Derived.WalkSpells
import Derived.Test.YtjpekonfjihcoaaGreatDoorM2
import Derived.Test.YtjpekonfjihcoaaGreatDoorM30
import Derived.Test.YtjpekonfjihcoaaGreatDoorM4
import Derived.Test.YtjpekonfjihcoaaGreatDoorM32
import Derived.Test.YtjpekonfjihcoaaGreatDoorM31
import Derived.Test.YtjpekonfjihcoaaGreatDoorM18
import Derived.Test.YtjpekonfjihcoaaGreatDoorM1
import Derived.Test.YtjpekonfjihcoaaGreatDoorM17
import Derived.Test.YtjpekonfjihcoaaGreatDoorM3
import Derived.Test.YtjpekonfjihcoaaGreatDoorM19
import Derived.Test.YtjpekonfjihcoaaGreatDoorM24
import Derived.Test.YtjpekonfjihcoaaGreatDoorM25
import Derived.Test.YtjpekonfjihcoaaGreatDoorM6
import Derived.Test.YtjpekonfjihcoaaGreatDoorM15
import Derived.Test.YtjpekonfjihcoaaGreatDoorM5
import Derived.Test.YtjpekonfjihcoaaGreatDoorM26
import Derived.Test.YtjpekonfjihcoaaGreatDoorM27
import Derived.Test.YtjpekonfjihcoaaGreatDoorM28
import Derived.Test.YtjpekonfjihcoaaGreatDoorM8
import Derived.Test.YtjpekonfjihcoaaGreatDoorM16
import Derived.Test.YtjpekonfjihcoaaGreatDoorM36
namespace Go.TintM
end Go.TintM
set_option maxRecDepth 100000
set_option maxHeartbeats 64000000
set_option linter.unusedVariables false
set_option linter.unusedSimpArgs false
/- Contracts: the examples' sheets A, B, D, and what they are made of. No condition. -/
namespace Go.Proofs.YtjpekonfjihcoaaGreatDoor
open Go.RowKit Go.My Go.TintM

theorem span71 (a b : Int) (w : World) : Calls Tryz.prog 71 #[.int .i64 a, .int .i64 b] w fun e w' => e = .returned (.agg #[.int .i64 a, .int .i64 b]) ∧ Ext w w' := by
 go_enter Tryz.func71, Tryz.ntmps71
 go_wp2
 refine bodyPost_ret (v := .agg #[.int .i64 a, .int .i64 b]) (results_cells (n := 2) rfl (by kernel_rfl) (by kernel_rfl) _ w.heap.size [.int .i64 a, .int .i64 b] rfl (by simp) (fun j v hv => ?_)) (by simp) ⟨rfl, (Ext.refl w).alloc _⟩
 match j, hv with
 | 0, hv => cases hv; go_simp
 | 1, hv => cases hv; go_simp

theorem tin112 (x0 x1 x2 x3 x4 x5 : Int) (w : World) : Calls Tryz.prog 112 #[.agg #[.int .i64 x0, .int .i64 x1], .agg #[.int .i64 x2, .int .i64 x3], .agg #[.int .i64 x4, .int .i64 x5]] w fun e w' => e = .returned (.agg #[.int .i64 x0, .int .i64 x1, .int .i64 x2, .int .i64 x3, .int .i64 x4, .int .i64 x5]) ∧ Ext w w' := by
 go_enter Tryz.func112, Tryz.ntmps112
 go_wp2
 refine bodyPost_ret (v := .agg #[.int .i64 x0, .int .i64 x1, .int .i64 x2, .int .i64 x3, .int .i64 x4, .int .i64 x5]) (results_cells (n := 6) rfl (by kernel_rfl) (by kernel_rfl) _ (w.heap.size + 1 + 1 + 1) [.int .i64 x0, .int .i64 x1, .int .i64 x2, .int .i64 x3, .int .i64 x4, .int .i64 x5] rfl (by simp) (fun j v hv => ?_)) (by simp) ⟨rfl, ?_⟩
 ·match j, hv with
  | 0, hv => cases hv; go_simp
  | 1, hv => cases hv; go_simp
  | 2, hv => cases hv; go_simp
  | 3, hv => cases hv; go_simp
  | 4, hv => cases hv; go_simp
  | 5, hv => cases hv; go_simp
 ·exact ((((Ext.refl w).alloc _).alloc _).alloc _).alloc _

abbrev tA : List (List Nat) := [[80, 82, 20, 20, 0, 2], [20, 22, 60, 60, 40, 40], [50, 50, 10, 12, 30, 30]]
abbrev tB : List (List Nat) := [[20, 22, 60, 60, 40, 40], [50, 50, 10, 12, 30, 30]]
/-- The value of A, with some Years and tins. -/
abbrev vA (y0 y1 : Int) (ot : Option Addr) (n : Nat) : Value := .agg #[.int .i64 60, .int .i64 40, .int .i64 20, .int .i64 1, .int .i64 2, .int .i64 1, .int .i64 1, .int .i64 0, .int .i64 0, .int .i64 y0, .int .i64 y1, .int .i64 5, .slice ot n n]
abbrev siA (y0 y1 : Int) (ts : List (List Nat)) : SI := ⟨60, 40, 20, 1, 2, 1, 1, 0, 0, y0, y1, 5, ts.map upL⟩
abbrev tinsO : Obj := .cells #[.int .i64 80, .int .i64 82, .int .i64 20, .int .i64 20, .int .i64 0, .int .i64 2, .int .i64 20, .int .i64 22, .int .i64 60, .int .i64 60, .int .i64 40, .int .i64 40, .int .i64 50, .int .i64 50, .int .i64 10, .int .i64 12, .int .i64 30, .int .i64 30] 82
theorem tins_A {W : World} {g : Nat} (h : W.heap[g]? = some tinsO) : TinsAt W (some ⟨g, 0, none⟩) (tA.map upL) :=
 row_tins (B := 0) (cap := 3) (ts := tA) ⟨by decide, .inr ⟨g, 3, #[.int .i64 80, .int .i64 82, .int .i64 20, .int .i64 20, .int .i64 0, .int .i64 2, .int .i64 20, .int .i64 22, .int .i64 60, .int .i64 60, .int .i64 40, .int .i64 40, .int .i64 50, .int .i64 50, .int .i64 10, .int .i64 12, .int .i64 30, .int .i64 30], rfl, Nat.zero_le _, h, Nat.le_refl _, by decide, rfl, rfl⟩⟩ (by decide)
theorem tins_B {W : World} {g : Nat} (h : TinsAt W (some ⟨g, 0, none⟩) (tA.map upL)) : TinsAt W (some ⟨g, 6, none⟩) (tB.map upL) := by
 intro i t ht
 have ht' : (tA.map upL)[i + 1]? = some t := by simpa [tA, tB] using ht
 obtain ⟨b, off, h1, h2, h3, h4⟩ := h (i + 1) t ht'
 cases h1
 refine ⟨g, 6, rfl, h2, h3, fun j x hx => ?_⟩
 have := h4 j x hx
 rwa [show 0 + (i + 1) * 6 + j = 6 + i * 6 + j by omega] at this

theorem _root_.Go.Proofs.YtjpekonfjihcoaaGreatDoor.TinsAt.turned {W W' : World} {g off b : Nat} {ts : List (List Int)} (h : TinsAt W (some ⟨g, off, none⟩) ts) (hT : Turned b W W') (hne : g ≠ b) : TinsAt W' (some ⟨g, off, none⟩) ts := by
 intro i t ht
 obtain ⟨b', off', h1, h2, h3, h4⟩ := h i t ht
 cases h1
 exact ⟨g, off, rfl, Nat.lt_of_lt_of_le h2 hT.size, h3, fun j x hx => Turned.cell hT (by simpa using hne) (h4 j x hx)⟩
theorem tins_lt {W : World} {g off : Nat} {ts : List (List Int)} (h : TinsAt W (some ⟨g, off, none⟩) ts) (hl : 0 < ts.length) : g < W.heap.size := by
 obtain ⟨b', off', h1, h2, _⟩ := h 0 ts[0] (by simp [hl])
 cases h1
 exact h2


theorem a69 (w : World) : Calls Tryz.prog 69 #[] w fun e w' => (∃ g, e = .returned (vA 5 5 (some ⟨g, 0, none⟩) 3) ∧ TinsAt w' (some ⟨g, 0, none⟩) (tA.map upL) ∧ w.heap.size ≤ g) ∧ Ext w w' := by
 have B := Lib.hid (sheet_new w)
 have HE := Lib.hid ((Ext.refl w).alloc (.cells #[.int .i64 0, .int .i64 0, .int .i64 0, .int .i64 0, .int .i64 0, .int .i64 0, .int .i64 0, .int .i64 0, .int .i64 0, .int .i64 0, .int .i64 0, .int .i64 0, .slice none 0 0] 28))
 have T1 := Lib.hid trivial
 have T2 := Lib.hid trivial
 have T3 := Lib.hid trivial
 go_enter Tryz.func69, Tryz.ntmps69
 go_wp2_with (first | (go_at_call 71; refine (span71 _ _ _).mono ?_; rintro e w9 ⟨rfl, hE9⟩; replace B := Lib.hid (B.out.ext hE9); replace HE := Lib.hid (HE.out.trans hE9); clear hE9) | (go_at_call 112; have t0 := T1; clear t0 T1; refine (tin112 _ _ _ _ _ _ _).mono ?_; rintro e w9 ⟨rfl, hE9⟩; replace B := Lib.hid (B.out.ext hE9); replace HE := Lib.hid (HE.out.trans hE9); clear hE9) | (go_at_call 112; have t0 := T2; clear t0 T2; refine (tin112 _ _ _ _ _ _ _).mono ?_; rintro e w9 ⟨rfl, hE9⟩; replace B := Lib.hid (B.out.ext hE9); replace HE := Lib.hid (HE.out.trans hE9); clear hE9) | (go_at_call 112; have t0 := T3; clear t0 T3; refine (tin112 _ _ _ _ _ _ _).mono ?_; rintro e w9 ⟨rfl, hE9⟩; replace B := Lib.hid (B.out.ext hE9); replace HE := Lib.hid (HE.out.trans hE9); clear hE9; have r0 := B.out.box 0 _ rfl; have r1 := B.out.box 1 _ rfl; have r2 := B.out.box 2 _ rfl; have r3 := B.out.box 3 _ rfl; have r4 := B.out.box 4 _ rfl; have r5 := B.out.box 5 _ rfl; have r6 := B.out.box 6 _ rfl; have r7 := B.out.box 7 _ rfl; have r8 := B.out.box 8 _ rfl; have r9 := B.out.box 9 _ rfl; have r10 := B.out.box 10 _ rfl; have r11 := B.out.box 11 _ rfl; have r12 := B.out.box 12 _ rfl; have q0 := B.out.fr 0 (by omega); have q1 := B.out.fr 1 (by omega); have q2 := B.out.fr 2 (by omega); have q3 := B.out.fr 3 (by omega); have q4 := B.out.fr 4 (by omega); have q5 := B.out.fr 5 (by omega); have q6 := B.out.fr 6 (by omega); have q7 := B.out.fr 7 (by omega); have q8 := B.out.fr 8 (by omega); have q9 := B.out.fr 9 (by omega); have q10 := B.out.fr 10 (by omega); have q11 := B.out.fr 11 (by omega); have q12 := B.out.fr 12 (by omega); have hlt := B.out.lt; have hne := Nat.ne_of_lt hlt))
 clear q0 q1 q2 q3 q4 q5 q6 q7 q8 q9 q10 q11 q12
 obtain ⟨wz, hz⟩ : ∃ W, W = (World.setCell (World.setCell (World.setCell (World.setCell (World.setCell (World.setCell (World.setCell (World.setCell (World.setCell (World.setCell (World.setCell (World.setCell (World.setCell w9 ⟨w.heap.size, 0, none⟩ (.int .i64 60)) ⟨w.heap.size, 1, none⟩ (.int .i64 40)) ⟨w.heap.size, 2, none⟩ (.int .i64 20)) ⟨w.heap.size, 3, none⟩ (.int .i64 1)) ⟨w.heap.size, 4, none⟩ (.int .i64 2)) ⟨w.heap.size, 5, none⟩ (.int .i64 1)) ⟨w.heap.size, 6, none⟩ (.int .i64 1)) ⟨w.heap.size, 7, none⟩ (.int .i64 0)) ⟨w.heap.size, 8, none⟩ (.int .i64 0)) ⟨w.heap.size, 9, none⟩ (.int .i64 5)) ⟨w.heap.size, 10, none⟩ (.int .i64 5)) ⟨w.heap.size, 11, none⟩ (.int .i64 5)) ⟨w.heap.size, 12, none⟩ (.slice (some ⟨w9.heap.size, 0, none⟩) 3 3)) := ⟨_, rfl⟩
 have hT : Turned w.heap.size w9 wz := by
  rw [hz]; exact ((((((((((((((Turned.refl w.heap.size w9).set 0 (.int .i64 60)).set 1 (.int .i64 40)).set 2 (.int .i64 20)).set 3 (.int .i64 1)).set 4 (.int .i64 2)).set 5 (.int .i64 1)).set 6 (.int .i64 1)).set 7 (.int .i64 0)).set 8 (.int .i64 0)).set 9 (.int .i64 5)).set 10 (.int .i64 5)).set 11 (.int .i64 5)).set 12 (.slice (some ⟨w9.heap.size, 0, none⟩) 3 3))
 have hc : ∀ (j : Nat) (v : Value), [.int .i64 60, .int .i64 40, .int .i64 20, .int .i64 1, .int .i64 2, .int .i64 1, .int .i64 1, .int .i64 0, .int .i64 0, .int .i64 5, .int .i64 5, .int .i64 5, .slice (some ⟨w9.heap.size, 0, none⟩) 3 3][j]? = some v → wz.cell? ⟨w.heap.size, j, none⟩ = some v := by
  rw [hz]
  intro j v hv
  match j, hv with
  | 0, hv => cases hv; go_simp
  | 1, hv => cases hv; go_simp
  | 2, hv => cases hv; go_simp
  | 3, hv => cases hv; go_simp
  | 4, hv => cases hv; go_simp
  | 5, hv => cases hv; go_simp
  | 6, hv => cases hv; go_simp
  | 7, hv => cases hv; go_simp
  | 8, hv => cases hv; go_simp
  | 9, hv => cases hv; go_simp
  | 10, hv => cases hv; go_simp
  | 11, hv => cases hv; go_simp
  | 12, hv => cases hv; go_simp
 have hs : wz.heap.size = w9.heap.size := by rw [hz]; simp
 rw [← hz]
 clear hz r0 r1 r2 r3 r4 r5 r6 r7 r8 r9 r10 r11 r12
 have hn : (wz.alloc tinsO).heap[w9.heap.size]? = some tinsO := by rw [← hs]; exact heap_alloc_new wz tinsO
 refine bodyPost_ret (v := vA 5 5 (some ⟨w9.heap.size, 0, none⟩) 3) (results_cells (n := 13) rfl (by kernel_rfl) (by kernel_rfl) _ w.heap.size [.int .i64 60, .int .i64 40, .int .i64 20, .int .i64 1, .int .i64 2, .int .i64 1, .int .i64 1, .int .i64 0, .int .i64 0, .int .i64 5, .int .i64 5, .int .i64 5, .slice (some ⟨w9.heap.size, 0, none⟩) 3 3] rfl (by simp) (fun j v hv => cell_ext ((Ext.refl wz).alloc tinsO) (hc j v hv))) (by simp) ⟨⟨w9.heap.size, rfl, tins_A hn, Nat.le_of_lt hlt⟩, (ext_own HE.out hT (Nat.le_refl _)).alloc tinsO⟩

theorem d68 (w : World) : Calls Tryz.prog 68 #[] w fun e w' => (∃ g, e = .returned (vA 2 9 (some ⟨g, 0, none⟩) 3) ∧ TinsAt w' (some ⟨g, 0, none⟩) (tA.map upL)) ∧ Ext w w' := by
 have B := Lib.hid (sheet_new w)
 have HE := Lib.hid ((Ext.refl w).alloc (.cells #[.int .i64 0, .int .i64 0, .int .i64 0, .int .i64 0, .int .i64 0, .int .i64 0, .int .i64 0, .int .i64 0, .int .i64 0, .int .i64 0, .int .i64 0, .int .i64 0, .slice none 0 0] 28))
 go_enter Tryz.func68, Tryz.ntmps68
 go_wp2_with (first | (go_at_call 69; refine (a69 _).mono ?_; rintro e w1 ⟨⟨g, rfl, hra, hg⟩, hE9⟩; rw [World.size_alloc] at hg; have Hra := Lib.hid hra; have hg1 := tins_lt hra (by decide); replace B := Lib.hid (B.out.ext hE9); replace HE := Lib.hid (HE.out.trans hE9); have hlt1 := B.out.lt; clear hra hE9) | (go_at_call 71; refine (span71 _ _ _).mono ?_; rintro e w2 ⟨rfl, hE9⟩; have D := Lib.hid (SOwn.ext (⟨SheetBox.new w1 (siA 5 5 tA) (some ⟨g, 0, none⟩) 3, fun i _ => frozen_of_row _ _ i _ _ (heap_alloc_new w1 _)⟩ : SOwn (w1.alloc (.cells (sheetC (siA 5 5 tA) (some ⟨g, 0, none⟩) 3) 28)) w1.heap.size (siA 5 5 tA) (some ⟨g, 0, none⟩) 3) hE9); have hE2 := ((Ext.refl w1).alloc (.cells (sheetC (siA 5 5 tA) (some ⟨g, 0, none⟩) 3) 28)).trans hE9; replace B := Lib.hid (B.out.ext hE2); replace HE := Lib.hid (HE.out.trans hE2); replace Hra := Lib.hid (Hra.out.ext hE2); have c0 : World.cell? w2 ⟨w1.heap.size, 0, none⟩ = some (.int .i64 (siA 5 5 tA).o0) := D.out.box 0 _ rfl; have c1 : World.cell? w2 ⟨w1.heap.size, 1, none⟩ = some (.int .i64 (siA 5 5 tA).o1) := D.out.box 1 _ rfl; have c2 : World.cell? w2 ⟨w1.heap.size, 2, none⟩ = some (.int .i64 (siA 5 5 tA).o2) := D.out.box 2 _ rfl; have c3 : World.cell? w2 ⟨w1.heap.size, 3, none⟩ = some (.int .i64 (siA 5 5 tA).a0) := D.out.box 3 _ rfl; have c4 : World.cell? w2 ⟨w1.heap.size, 4, none⟩ = some (.int .i64 (siA 5 5 tA).b0) := D.out.box 4 _ rfl; have c5 : World.cell? w2 ⟨w1.heap.size, 5, none⟩ = some (.int .i64 (siA 5 5 tA).a1) := D.out.box 5 _ rfl; have c6 : World.cell? w2 ⟨w1.heap.size, 6, none⟩ = some (.int .i64 (siA 5 5 tA).b1) := D.out.box 6 _ rfl; have c7 : World.cell? w2 ⟨w1.heap.size, 7, none⟩ = some (.int .i64 (siA 5 5 tA).a2) := D.out.box 7 _ rfl; have c8 : World.cell? w2 ⟨w1.heap.size, 8, none⟩ = some (.int .i64 (siA 5 5 tA).b2) := D.out.box 8 _ rfl; have c9 : World.cell? w2 ⟨w1.heap.size, 9, none⟩ = some (.int .i64 (siA 5 5 tA).ylo) := D.out.box 9 _ rfl; have c10 : World.cell? w2 ⟨w1.heap.size, 10, none⟩ = some (.int .i64 (siA 5 5 tA).yhi) := D.out.box 10 _ rfl; have c11 : World.cell? w2 ⟨w1.heap.size, 11, none⟩ = some (.int .i64 (siA 5 5 tA).off) := D.out.box 11 _ rfl; have c12 : World.cell? w2 ⟨w1.heap.size, 12, none⟩ = some (.slice (some ⟨g, 0, none⟩) (siA 5 5 tA).tins.length 3) := D.out.box 12 _ rfl; have f9 := D.out.fr 9 (by omega); have f10 := D.out.fr 10 (by omega); have r0 := B.out.box 0 _ rfl; have r1 := B.out.box 1 _ rfl; have r2 := B.out.box 2 _ rfl; have r3 := B.out.box 3 _ rfl; have r4 := B.out.box 4 _ rfl; have r5 := B.out.box 5 _ rfl; have r6 := B.out.box 6 _ rfl; have r7 := B.out.box 7 _ rfl; have r8 := B.out.box 8 _ rfl; have r9 := B.out.box 9 _ rfl; have r10 := B.out.box 10 _ rfl; have r11 := B.out.box 11 _ rfl; have r12 := B.out.box 12 _ rfl; have q0 := B.out.fr 0 (by omega); have q1 := B.out.fr 1 (by omega); have q2 := B.out.fr 2 (by omega); have q3 := B.out.fr 3 (by omega); have q4 := B.out.fr 4 (by omega); have q5 := B.out.fr 5 (by omega); have q6 := B.out.fr 6 (by omega); have q7 := B.out.fr 7 (by omega); have q8 := B.out.fr 8 (by omega); have q9 := B.out.fr 9 (by omega); have q10 := B.out.fr 10 (by omega); have q11 := B.out.fr 11 (by omega); have q12 := B.out.fr 12 (by omega); have hlt := B.out.lt; have hne := Nat.ne_of_lt hlt; clear hE9 hE2))
 clear q0 q1 q2 q3 q4 q5 q6 q7 q8 q9 q10 q11 q12
 clear c0 c1 c2 c3 c4 c5 c6 c7 c8 c9 c10 c11 c12
 clear f9 f10
 have hT1 : Turned w1.heap.size w2 _ := ((Turned.refl w1.heap.size w2).set 9 (.int .i64 2)).set 10 (.int .i64 9)
 have hT : Turned w.heap.size _ _ := ((((((((((((((Turned.refl w.heap.size ((w2.setCell ⟨w1.heap.size, 9, none⟩ (.int .i64 2)).setCell ⟨w1.heap.size, 10, none⟩ (.int .i64 9))).set 0 (.int .i64 60)).set 1 (.int .i64 40)).set 2 (.int .i64 20)).set 3 (.int .i64 1)).set 4 (.int .i64 2)).set 5 (.int .i64 1)).set 6 (.int .i64 1)).set 7 (.int .i64 0)).set 8 (.int .i64 0)).set 9 (.int .i64 2)).set 10 (.int .i64 9)).set 11 (.int .i64 5)).set 12 (.slice (some ⟨g, 0, none⟩) 3 3))
 refine bodyPost_ret (v := vA 2 9 (some ⟨g, 0, none⟩) 3) (results_cells (n := 13) rfl (by kernel_rfl) (by kernel_rfl) _ w.heap.size [.int .i64 60, .int .i64 40, .int .i64 20, .int .i64 1, .int .i64 2, .int .i64 1, .int .i64 1, .int .i64 0, .int .i64 0, .int .i64 2, .int .i64 9, .int .i64 5, .slice (some ⟨g, 0, none⟩) 3 3] rfl (by simp) (fun j v hv => ?_)) (by simp) ⟨⟨g, rfl, (Hra.out.turned hT1 (by omega)).turned hT (by omega)⟩, ext_own (ext_own HE.out hT1 (by omega)) hT (Nat.le_refl _)⟩
 ·match j, hv with
  | 0, hv => cases hv; go_simp
  | 1, hv => cases hv; go_simp
  | 2, hv => cases hv; go_simp
  | 3, hv => cases hv; go_simp
  | 4, hv => cases hv; go_simp
  | 5, hv => cases hv; go_simp
  | 6, hv => cases hv; go_simp
  | 7, hv => cases hv; go_simp
  | 8, hv => cases hv; go_simp
  | 9, hv => cases hv; go_simp
  | 10, hv => cases hv; go_simp
  | 11, hv => cases hv; go_simp
  | 12, hv => cases hv; go_simp

theorem b70 (w : World) : Calls Tryz.prog 70 #[] w fun e w' => (∃ g, e = .returned (vA 5 5 (some ⟨g, 6, none⟩) 2) ∧ TinsAt w' (some ⟨g, 6, none⟩) (tB.map upL)) ∧ Ext w w' := by
 have B := Lib.hid (sheet_new w)
 have HE := Lib.hid ((Ext.refl w).alloc (.cells #[.int .i64 0, .int .i64 0, .int .i64 0, .int .i64 0, .int .i64 0, .int .i64 0, .int .i64 0, .int .i64 0, .int .i64 0, .int .i64 0, .int .i64 0, .int .i64 0, .slice none 0 0] 28))
 go_enter Tryz.func70, Tryz.ntmps70
 go_wp2_with (first | (go_at_call 69; refine (a69 _).mono ?_; rintro e w1 ⟨⟨g, rfl, hra, hg⟩, hE9⟩; rw [World.size_alloc] at hg; have Hra := Lib.hid hra; have hg1 := tins_lt hra (by decide); replace B := Lib.hid (B.out.ext hE9); replace HE := Lib.hid (HE.out.trans hE9); have r0 := B.out.box 0 _ rfl; have r1 := B.out.box 1 _ rfl; have r2 := B.out.box 2 _ rfl; have r3 := B.out.box 3 _ rfl; have r4 := B.out.box 4 _ rfl; have r5 := B.out.box 5 _ rfl; have r6 := B.out.box 6 _ rfl; have r7 := B.out.box 7 _ rfl; have r8 := B.out.box 8 _ rfl; have r9 := B.out.box 9 _ rfl; have r10 := B.out.box 10 _ rfl; have r11 := B.out.box 11 _ rfl; have r12 := B.out.box 12 _ rfl; have q0 := B.out.fr 0 (by omega); have q1 := B.out.fr 1 (by omega); have q2 := B.out.fr 2 (by omega); have q3 := B.out.fr 3 (by omega); have q4 := B.out.fr 4 (by omega); have q5 := B.out.fr 5 (by omega); have q6 := B.out.fr 6 (by omega); have q7 := B.out.fr 7 (by omega); have q8 := B.out.fr 8 (by omega); have q9 := B.out.fr 9 (by omega); have q10 := B.out.fr 10 (by omega); have q11 := B.out.fr 11 (by omega); have q12 := B.out.fr 12 (by omega); have hlt := B.out.lt; have hne := Nat.ne_of_lt hlt; clear hra hE9))
 clear q0 q1 q2 q3 q4 q5 q6 q7 q8 q9 q10 q11 q12
 obtain ⟨wz, hz⟩ : ∃ W, W = (World.setCell (World.setCell (World.setCell (World.setCell (World.setCell (World.setCell (World.setCell (World.setCell (World.setCell (World.setCell (World.setCell (World.setCell (World.setCell w1 ⟨w.heap.size, 0, none⟩ (.int .i64 60)) ⟨w.heap.size, 1, none⟩ (.int .i64 40)) ⟨w.heap.size, 2, none⟩ (.int .i64 20)) ⟨w.heap.size, 3, none⟩ (.int .i64 1)) ⟨w.heap.size, 4, none⟩ (.int .i64 2)) ⟨w.heap.size, 5, none⟩ (.int .i64 1)) ⟨w.heap.size, 6, none⟩ (.int .i64 1)) ⟨w.heap.size, 7, none⟩ (.int .i64 0)) ⟨w.heap.size, 8, none⟩ (.int .i64 0)) ⟨w.heap.size, 9, none⟩ (.int .i64 5)) ⟨w.heap.size, 10, none⟩ (.int .i64 5)) ⟨w.heap.size, 11, none⟩ (.int .i64 5)) ⟨w.heap.size, 12, none⟩ (.slice (some ⟨g, 6, none⟩) 2 2)) := ⟨_, rfl⟩
 have hT : Turned w.heap.size w1 wz := by
  rw [hz]; exact ((((((((((((((Turned.refl w.heap.size w1).set 0 (.int .i64 60)).set 1 (.int .i64 40)).set 2 (.int .i64 20)).set 3 (.int .i64 1)).set 4 (.int .i64 2)).set 5 (.int .i64 1)).set 6 (.int .i64 1)).set 7 (.int .i64 0)).set 8 (.int .i64 0)).set 9 (.int .i64 5)).set 10 (.int .i64 5)).set 11 (.int .i64 5)).set 12 (.slice (some ⟨g, 6, none⟩) 2 2))
 have hc : ∀ (j : Nat) (v : Value), [.int .i64 60, .int .i64 40, .int .i64 20, .int .i64 1, .int .i64 2, .int .i64 1, .int .i64 1, .int .i64 0, .int .i64 0, .int .i64 5, .int .i64 5, .int .i64 5, .slice (some ⟨g, 6, none⟩) 2 2][j]? = some v → wz.cell? ⟨w.heap.size, j, none⟩ = some v := by
  rw [hz]
  intro j v hv
  match j, hv with
  | 0, hv => cases hv; go_simp
  | 1, hv => cases hv; go_simp
  | 2, hv => cases hv; go_simp
  | 3, hv => cases hv; go_simp
  | 4, hv => cases hv; go_simp
  | 5, hv => cases hv; go_simp
  | 6, hv => cases hv; go_simp
  | 7, hv => cases hv; go_simp
  | 8, hv => cases hv; go_simp
  | 9, hv => cases hv; go_simp
  | 10, hv => cases hv; go_simp
  | 11, hv => cases hv; go_simp
  | 12, hv => cases hv; go_simp
 have hs : wz.heap.size = w1.heap.size := by rw [hz]; simp
 rw [← hz]
 clear hz r0 r1 r2 r3 r4 r5 r6 r7 r8 r9 r10 r11 r12
 refine bodyPost_ret (v := vA 5 5 (some ⟨g, 6, none⟩) 2) (results_cells (n := 13) rfl (by kernel_rfl) (by kernel_rfl) _ w.heap.size [.int .i64 60, .int .i64 40, .int .i64 20, .int .i64 1, .int .i64 2, .int .i64 1, .int .i64 1, .int .i64 0, .int .i64 0, .int .i64 5, .int .i64 5, .int .i64 5, .slice (some ⟨g, 6, none⟩) 2 2] rfl (by simp) (fun j v hv => cell_ext ((Ext.refl wz).alloc _) (hc j v hv))) (by simp) ⟨⟨g, rfl, tins_B ((Hra.out.turned hT (by omega)).ext ((Ext.refl wz).alloc _))⟩, (ext_own HE.out hT (Nat.le_refl _)).alloc _⟩


end Go.Proofs.YtjpekonfjihcoaaGreatDoor
/- The examples' values. No condition. -/
namespace Go.Proofs.YtjpekonfjihcoaaGreatDoor
open Go.RowKit Go.My Go.TintM

/-- The sheets A, B, D as natural numbers. -/
def shA (y0 y1 : Nat) (ts : List (List Nat)) : Sh where
 old := fun p => [60, 40, 20].getD p 0
 flo := fun p => [1, 1, 0].getD p 0
 fhi := fun p => [2, 1, 0].getD p 0
 ylo := y0
 yhi := y1
 off := 5
 tins := ts
theorem goodA : Fine (shA 5 5 tA) := ⟨by decide +kernel, by decide +kernel, by decide +kernel, by decide, by decide, by decide, by decide, by decide, by decide, by decide +kernel, by decide +kernel⟩
theorem goodB : Fine (shA 5 5 tB) := ⟨by decide +kernel, by decide +kernel, by decide +kernel, by decide, by decide, by decide, by decide, by decide, by decide, by decide +kernel, by decide +kernel⟩
theorem goodD : Fine (shA 2 9 tA) := ⟨by decide +kernel, by decide +kernel, by decide +kernel, by decide, by decide, by decide, by decide, by decide, by decide, by decide +kernel, by decide +kernel⟩
theorem ofA (ts : List (List Nat)) : ofSh (shA 5 5 ts) = siA 5 5 ts := rfl
theorem ofD : ofSh (shA 2 9 tA) = siA 2 9 tA := rfl
theorem m110 (y0 y1 : Nat) : IsMix (shA y0 y1 tA) [1, 1, 0] := ⟨rfl, by decide, by decide, by decide⟩
theorem m320 : IsMix (shA 5 5 tA) [3, 2, 0] := ⟨rfl, by decide, by decide, by decide⟩
def trA : Tr where
 years := 5
 fade := fun p => [2, 1, 0].getD p 0
 tins := [[80, 20, 0], [20, 60, 40], [50, 10, 30]]
theorem goodT : GoodT (shA 5 5 tA) trA := ⟨by decide, by decide, by decide, by decide +kernel, by decide +kernel, by decide +kernel⟩
theorem v_aim : aimV (shA 2 9 tA) = .agg #[.int .i64 42, .int .i64 58, .int .i64 31, .int .i64 38, .int .i64 20, .int .i64 20] := by kernel_rfl
theorem v_sums : sumsV (shA 5 5 tA) [1, 1, 0] = .agg #[.int .i64 100, .int .i64 104, .int .i64 80, .int .i64 80, .int .i64 40, .int .i64 42] := by kernel_rfl
theorem v_true : trueOf (shA 5 5 tA) [1, 1, 0] trA = true := by decide +kernel
theorem v_word : wordOf (shA 5 5 tA) [3, 2, 0] = 2 := by decide +kernel
theorem v_years : yearsV (yearsOf (shA 2 9 tA) [1, 1, 0]) = .tuple #[.agg #[.int .i64 2, .int .i64 5], .int .i64 0] := by kernel_rfl
theorem v_first : (allMix (shA 5 5 tA).tins.length).find? (surely (shA 5 5 tA)) = some [1, 1, 0] := by decide +kernel
theorem v_may : (allMix (shA 5 5 tA).tins.length).find? (mayOf (shA 5 5 tA)) = some [1, 1, 0] := by decide +kernel
theorem v_count : countOf (shA 5 5 tA) = 9 := by decide +kernel
theorem v_near : nearOf (shA 5 5 tA) = [1, 1, 0] := by decide +kernel
theorem v_off : offOf (shA 5 5 tA) [1, 1, 0] = 5 := by decide +kernel
theorem v_needs : needsOf (shA 5 5 tA) = some [0, 1] := by decide +kernel
theorem v_proof : proofV (shA 5 5 tB) = .tuple #[.agg #[.int .i64 0, .int .i64 0, .int .i64 (-2)], .int .i64 0] := by kernel_rfl
abbrev txt : List UInt8 := [98, 111, 97, 114, 100, 32, 49, 32, 50, 32, 51, 32, 48, 32, 48, 32, 49, 10, 102, 97, 100, 101, 32, 48, 32, 48, 32, 48, 32, 48, 32, 48, 32, 48, 10, 116, 105, 110, 32, 49, 32, 49, 32, 50, 32, 50, 32, 51, 32, 51, 10, 101, 110, 100, 32, 49, 54, 52, 10]
def txA : Tx := ⟨[1, 2, 3, 0, 0, 1], [0, 0, 0, 0, 0, 0], [[1, 1, 2, 2, 3, 3]]⟩
theorem smA : Sm txA := ⟨⟨rfl, by decide⟩, ⟨rfl, by decide⟩, fun t ht => by
 obtain rfl : t = [1, 1, 2, 2, 3, 3] := by simpa [txA] using ht
 exact ⟨rfl, by decide⟩⟩
theorem v_text : textB txA = txt := by decide +kernel
theorem v_parse : parse txt = some txA := parse_iff.2 ⟨smA, v_text⟩
theorem v_sheet : sheetB (siOf txA) = true := by decide +kernel

end Go.Proofs.YtjpekonfjihcoaaGreatDoor
/- Contract: known. It answers true. -/
namespace Go.Proofs.YtjpekonfjihcoaaGreatDoor
open Go.RowKit Go.My Go.TintM

section
variable {w : World} {g : Nat} {ob : Option Addr}
theorem k33 (h : TinsAt w (some ⟨g, 0, none⟩) (tA.map upL)) : Calls Tryz.prog 33 #[vA 2 9 (some ⟨g, 0, none⟩) 3] w fun e w' => e = .returned (.tuple #[.agg #[.int .i64 42, .int .i64 58, .int .i64 31, .int .i64 38, .int .i64 20, .int .i64 20], .int .i64 0]) ∧ Ext w w' := by
 have h1 := sAim_ok (shA 2 9 tA) goodD (some ⟨g, 0, none⟩) 3 w h
 rw [v_aim] at h1
 exact h1
theorem k34 (h : TinsAt w (some ⟨g, 0, none⟩) (tA.map upL)) (hi : IntsAt w ob [1, 1, 0]) : Calls Tryz.prog 34 #[vA 5 5 (some ⟨g, 0, none⟩) 3, .slice ob 3 3] w fun e w' => e = .returned (.tuple #[.agg #[.int .i64 100, .int .i64 104, .int .i64 80, .int .i64 80, .int .i64 40, .int .i64 42], .int .i64 0]) ∧ Ext w w' := by
 have h1 := sSums_ok (shA 5 5 tA) goodA [1, 1, 0] (m110 5 5) (some ⟨g, 0, none⟩) 3 ob 3 w h hi
 rw [v_sums] at h1
 exact h1
theorem k23 {oc : Option Addr} (h : TinsAt w (some ⟨g, 0, none⟩) (tA.map upL)) (hi : IntsAt w ob [1, 1, 0]) (ht : TrisAt w oc (ofTr trA).tins) : Calls Tryz.prog 23 #[vA 5 5 (some ⟨g, 0, none⟩) 3, .slice ob 3 3, .agg #[.slice oc 3 3, .int .i64 5, .int .i64 2, .int .i64 1, .int .i64 0]] w fun e w' => e = .returned (.tuple #[.bool true, .int .i64 0]) ∧ Ext w w' := by
 have h1 := sTrue_ok (shA 5 5 tA) goodA [1, 1, 0] (m110 5 5) trA goodT (some ⟨g, 0, none⟩) 3 ob 3 oc 3 w h hi ht
 rw [v_true] at h1
 exact h1
theorem k28 (h : TinsAt w (some ⟨g, 0, none⟩) (tA.map upL)) (hi : IntsAt w ob [3, 2, 0]) : Calls Tryz.prog 28 #[vA 5 5 (some ⟨g, 0, none⟩) 3, .slice ob 3 3] w fun e w' => e = .returned (.tuple #[.int .i64 2, .int .i64 0]) ∧ Ext w w' := by
 have h1 := sWord_ok (shA 5 5 tA) goodA [3, 2, 0] m320 (some ⟨g, 0, none⟩) 3 ob 3 w h hi
 rw [v_word] at h1
 exact h1
theorem k29 (h : TinsAt w (some ⟨g, 0, none⟩) (tA.map upL)) (hi : IntsAt w ob [1, 1, 0]) : Calls Tryz.prog 29 #[vA 2 9 (some ⟨g, 0, none⟩) 3, .slice ob 3 3] w fun e w' => e = .returned (.tuple #[.agg #[.int .i64 2, .int .i64 5], .int .i64 0]) ∧ Ext w w' := by
 have h1 := sYears_ok (shA 2 9 tA) goodD [1, 1, 0] (m110 2 9) (some ⟨g, 0, none⟩) 3 ob 3 w h hi
 rw [v_years] at h1
 exact h1
theorem k38 (h : TinsAt w (some ⟨g, 0, none⟩) (tA.map upL)) : Calls Tryz.prog 38 #[vA 5 5 (some ⟨g, 0, none⟩) 3] w fun e w' => (∃ om cm, e = .returned (.tuple #[.slice om 3 cm, .int .i64 0]) ∧ IntsAt w' om [1, 1, 0]) ∧ Ext w w' :=
 (sFirst_any (shA 5 5 tA) goodA (some ⟨g, 0, none⟩) 3 w h).mono fun e w' ⟨hE, hf⟩ => by
  rw [v_first] at hf
  obtain ⟨v, h1, om, cm, rfl, _, _, _, h4⟩ := hf
  exact ⟨⟨om, cm, h1, h4⟩, hE⟩
theorem k39 (h : TinsAt w (some ⟨g, 0, none⟩) (tA.map upL)) : Calls Tryz.prog 39 #[vA 5 5 (some ⟨g, 0, none⟩) 3] w fun e w' => (∃ om cm, e = .returned (.tuple #[.slice om 3 cm, .int .i64 0]) ∧ IntsAt w' om [1, 1, 0]) ∧ Ext w w' :=
 (sMay_any (shA 5 5 tA) goodA (some ⟨g, 0, none⟩) 3 w h).mono fun e w' ⟨hE, hf⟩ => by
  rw [v_may] at hf
  obtain ⟨v, h1, om, cm, rfl, _, _, _, h4⟩ := hf
  exact ⟨⟨om, cm, h1, h4⟩, hE⟩
theorem k40 (h : TinsAt w (some ⟨g, 0, none⟩) (tA.map upL)) : Calls Tryz.prog 40 #[vA 5 5 (some ⟨g, 0, none⟩) 3] w fun e w' => e = .returned (.tuple #[.int .i64 9, .int .i64 0]) ∧ Ext w w' := by
 have h1 := sCount_any (shA 5 5 tA) goodA (some ⟨g, 0, none⟩) 3 w h
 rw [v_count] at h1
 exact h1
theorem k47 (h : TinsAt w (some ⟨g, 0, none⟩) (tA.map upL)) : Calls Tryz.prog 47 #[vA 5 5 (some ⟨g, 0, none⟩) 3] w fun e w' => (∃ om cm, e = .returned (.tuple #[.slice om 3 cm, .int .i64 5, .int .i64 0]) ∧ IntsAt w' om [1, 1, 0]) ∧ Ext w w' :=
 (sNear_any (shA 5 5 tA) goodA (some ⟨g, 0, none⟩) 3 w h).mono fun e w' ⟨v, h1, h2, hE⟩ => by
  rw [v_near] at h1 h2
  rw [v_off] at h1
  obtain ⟨om, cm, rfl, _, _, _, h4⟩ := h2
  exact ⟨⟨om, cm, h1, h4⟩, hE⟩
theorem k50 (h : TinsAt w (some ⟨g, 0, none⟩) (tA.map upL)) : Calls Tryz.prog 50 #[vA 5 5 (some ⟨g, 0, none⟩) 3] w fun e w' => (∃ om cm, e = .returned (.tuple #[.slice om 2 cm, .int .i64 0]) ∧ IntsAt w' om [0, 1]) ∧ Ext w w' :=
 (sNeeds_any (shA 5 5 tA) goodA (some ⟨g, 0, none⟩) 3 w h).mono fun e w' ⟨hE, hf⟩ => by
  rw [v_needs] at hf
  obtain ⟨v, h1, om, cm, rfl, _, _, _, h4⟩ := hf
  exact ⟨⟨om, cm, h1, h4⟩, hE⟩
theorem k55 (h : TinsAt w (some ⟨g, 6, none⟩) (tB.map upL)) : Calls Tryz.prog 55 #[vA 5 5 (some ⟨g, 6, none⟩) 2] w fun e w' => e = .returned (.tuple #[.agg #[.int .i64 0, .int .i64 0, .int .i64 (-2)], .int .i64 0]) ∧ Ext w w' := by
 have h1 := sProof_any (shA 5 5 tB) goodB (some ⟨g, 6, none⟩) 2 w h
 rw [v_proof] at h1
 exact h1
abbrev vT (om : Option Addr) (cm : Nat) : Value := .agg #[.int .i64 1, .int .i64 2, .int .i64 3, .int .i64 0, .int .i64 0, .int .i64 0, .int .i64 0, .int .i64 0, .int .i64 0, .int .i64 0, .int .i64 0, .int .i64 1, .slice om 1 cm]
theorem k64 (m : Int) (hm : w.cell? ⟨1, 0, none⟩ = some (.int .i64 m)) : Calls Tryz.prog 64 #[.string (bs txt)] w fun e w' => (∃ om cm, e = .returned (.tuple #[vT om cm, .int .i64 0]) ∧ TinsAt w' om (txA.tins.map upL)) ∧ Ext w w' :=
 (read_ok txt m w (by decide) hm txA v_parse v_sheet).mono fun e w' ⟨⟨om, cm, h1, h2⟩, h3⟩ => ⟨⟨om, cm, h1, h2⟩, h3⟩
theorem k65 {om : Option Addr} {cm : Nat} (h : TinsAt w om (txA.tins.map upL)) : Calls Tryz.prog 65 #[vT om cm] w fun e w' => e = .returned (.string (bs txt)) ∧ Ext w w' := by
 have h1 := rprint_any txA smA (by decide) om cm w h
 rw [v_text] at h1
 exact h1
theorem kt (l : List Int) (n : Nat) (hn : l.length = n) {ov oc : Option Addr} {cv cc : Nat} (hi : IntsAt w ov l) (hj : IntsAt w oc l) (hl : n ≤ 9223372036854775807) :
  Calls Tryz.prog 43 #[.slice ov n cv, .slice oc n cc] w fun e w' => e = .returned (.bool true) ∧ Ext w w' := by
 subst hn
 exact (tsame_any l l ov oc cv cc _ hi hj hl hl).mono fun e w' ⟨h, hE⟩ => ⟨by rw [decide_eq_true rfl] at h; exact h, hE⟩
end

/-- What is kept along known. -/
structure KI (w0 w : World) (L : List (Option Addr × List Int)) (C : List (Nat × List Value)) (R : List (Option Addr × List (List Int))) : Prop where
 ext : Ext w0 w
 ints : ∀ p ∈ L, IntsAt w p.1 p.2
 cell : ∀ p ∈ C, ∀ (j : Nat) (v : Value), p.2[j]? = some v → w.cell? ⟨p.1, j, none⟩ = some v
 rows : ∀ p ∈ R, TinsAt w p.1 p.2
section
variable {w0 w w' : World} {L : List (Option Addr × List Int)} {C : List (Nat × List Value)} {R : List (Option Addr × List (List Int))}
theorem KI.next (h : KI w0 w L C R) (hE : Ext w w') : KI w0 w' L C R := ⟨h.ext.trans hE, fun p hp => (h.ints p hp).ext hE, fun p hp j v hv => cell_ext hE (h.cell p hp j v hv), fun p hp => (h.rows p hp).ext hE⟩
theorem KI.alloc (h : KI w0 w L C R) (o : Obj) : KI w0 (w.alloc o) L C R := h.next ((Ext.refl _).alloc _)
theorem KI.int (h : KI w0 w L C R) {oa : Option Addr} {l : List Int} (hi : IntsAt w oa l) : KI w0 w ((oa, l) :: L) C R := ⟨h.ext, fun p hp => by (rcases List.mem_cons.1 hp with rfl | hp); exact hi; exact h.ints p hp, h.cell, h.rows⟩
theorem KI.row (h : KI w0 w L C R) {oa : Option Addr} {l : List (List Int)} (hi : TinsAt w oa l) : KI w0 w L C ((oa, l) :: R) := ⟨h.ext, h.ints, h.cell, fun p hp => by (rcases List.mem_cons.1 hp with rfl | hp); exact hi; exact h.rows p hp⟩
theorem KI.box (h : KI w0 w L C R) (vs : List Value) (t : TypeId) : KI w0 (w.alloc (.cells vs.toArray t)) L ((w.heap.size, vs) :: C) R :=
 ⟨h.ext.alloc _, (h.alloc _).ints, fun p hp j v hv => by
  rcases List.mem_cons.1 hp with rfl | hp
  ·rw [cell_of_row _ _ j _ _ _ (heap_alloc_new w _)]; simpa using hv
  ·exact (h.alloc _).cell p hp j v hv, (h.alloc _).rows⟩
theorem KI.get (h : KI w0 w L C R) {b : Nat} {vs : List Value} (hm : (b, vs) ∈ C) (j : Nat) {v : Value} (hv : vs[j]? = some v) : w.cell? ⟨b, j, none⟩ = some v := h.cell (b, vs) hm j v hv
end
theorem tris_A (w : World) {b : Nat} (hb : b = w.heap.size) : TrisAt (w.alloc (.cells #[.int .i64 80, .int .i64 20, .int .i64 0, .int .i64 20, .int .i64 60, .int .i64 40, .int .i64 50, .int .i64 10, .int .i64 30] 22)) (some ⟨b, 0, none⟩) (ofTr trA).tins := by
 subst hb
 have hb : w.heap.size < (w.alloc (.cells #[.int .i64 80, .int .i64 20, .int .i64 0, .int .i64 20, .int .i64 60, .int .i64 40, .int .i64 50, .int .i64 10, .int .i64 30] 22)).heap.size := by simp
 intro i t ht
 refine ⟨w.heap.size, 0, rfl, hb, ?_⟩
 match i, ht with
 | 0, ht =>
  obtain rfl : t = [80, 20, 0] := by simpa [ofTr, trA, upL] using ht.symm
  refine ⟨rfl, fun j x hx => ?_⟩
  rw [cell_of_row _ _ _ _ _ _ (heap_alloc_new w _)]
  match j, hx with
  | 0, hx => cases hx; rfl
  | 1, hx => cases hx; rfl
  | 2, hx => cases hx; rfl
 | 1, ht =>
  obtain rfl : t = [20, 60, 40] := by simpa [ofTr, trA, upL] using ht.symm
  refine ⟨rfl, fun j x hx => ?_⟩
  rw [cell_of_row _ _ _ _ _ _ (heap_alloc_new w _)]
  match j, hx with
  | 0, hx => cases hx; rfl
  | 1, hx => cases hx; rfl
  | 2, hx => cases hx; rfl
 | 2, ht =>
  obtain rfl : t = [50, 10, 30] := by simpa [ofTr, trA, upL] using ht.symm
  refine ⟨rfl, fun j x hx => ?_⟩
  rw [cell_of_row _ _ _ _ _ _ (heap_alloc_new w _)]
  match j, hx with
  | 0, hx => cases hx; rfl
  | 1, hx => cases hx; rfl
  | 2, hx => cases hx; rfl

attribute [local go_sem] equal22 eq24 eq25

theorem known_any (w : World) (m : Int) (hm : w.cell? ⟨1, 0, none⟩ = some (.int .i64 m)) : Calls Tryz.prog 22 #[] w fun e w' => e = .returned (.bool true) ∧ Ext w w' := by
 have Hm := Lib.hid hm
 clear hm
 have GK := Lib.hid (show KI w w [] [] [] from ⟨Ext.refl w, by simp, by simp, by simp⟩)
 have T1 := Lib.hid trivial
 have T2 := Lib.hid trivial
 have T3 := Lib.hid trivial
 have T4 := Lib.hid trivial
 go_enter Tryz.func22, Tryz.ntmps22
 go_wp2_with (first | (go_at_call 68; refine (d68 _).mono ?_; rintro e w1 ⟨⟨g, rfl, hra⟩, hE7⟩; have Hra := Lib.hid hra; have HE7 := Lib.hid hE7; clear hra hE7) | (go_at_call 69; refine (a69 _).mono ?_; rintro e w1 ⟨⟨g, rfl, hra, _⟩, hE7⟩; have Hra := Lib.hid hra; have HE7 := Lib.hid hE7; clear hra hE7) | (go_at_call 70; refine (b70 _).mono ?_; rintro e w1 ⟨⟨g, rfl, hra⟩, hE7⟩; have Hra := Lib.hid hra; have HE7 := Lib.hid hE7; clear hra hE7) | (go_at_call 33; refine (k33 Hra.out).mono ?_; rintro e wa ⟨rfl, hE⟩; replace GK := Lib.hid ((GK.out.next (HE7.out.trans hE)).box [.int .i64 42, .int .i64 58, .int .i64 31, .int .i64 38, .int .i64 20, .int .i64 20] 25); clear hE HE7) | (go_at_call 34; refine (k34 (Hra.out.ext ((Ext.refl _).alloc _)) (fresh_ints _ [1, 1, 0])).mono ?_; rintro e wb ⟨rfl, hE⟩; replace GK := Lib.hid ((GK.out.next (HE7.out.trans (((Ext.refl _).alloc _).trans hE))).box [.int .i64 100, .int .i64 104, .int .i64 80, .int .i64 80, .int .i64 40, .int .i64 42] 25); clear hE HE7) | (go_at_call 23; refine (k23 ((Hra.out.ext ((Ext.refl _).alloc _)).ext ((Ext.refl _).alloc _)) ((fresh_ints _ [1, 1, 0]).ext ((Ext.refl _).alloc _)) (tris_A _ (by simp))).mono ?_; rintro e wc ⟨rfl, hE⟩; replace GK := Lib.hid (GK.out.next (HE7.out.trans ((((Ext.refl _).alloc _).alloc _).trans hE))); clear hE HE7) | (go_at_call 28; refine (k28 (Hra.out.ext ((Ext.refl _).alloc _)) (fresh_ints _ [3, 2, 0])).mono ?_; rintro e wd ⟨rfl, hE⟩; replace GK := Lib.hid (GK.out.next (HE7.out.trans (((Ext.refl _).alloc _).trans hE))); clear hE HE7) | (go_at_call 29; refine (k29 (Hra.out.ext ((Ext.refl _).alloc _)) (fresh_ints _ [1, 1, 0])).mono ?_; rintro e we ⟨rfl, hE⟩; replace GK := Lib.hid ((GK.out.next (HE7.out.trans (((Ext.refl _).alloc _).trans hE))).box [.int .i64 2, .int .i64 5] 24); clear hE HE7) | (go_at_call 38; refine (k38 Hra.out).mono ?_; rintro e wf ⟨⟨ol, cl, rfl, hi⟩, hE⟩; replace GK := Lib.hid ((GK.out.next (HE7.out.trans hE)).int hi); clear hi hE HE7) | (go_at_call 39; refine (k39 Hra.out).mono ?_; rintro e wg ⟨⟨om, cm, rfl, hi⟩, hE⟩; replace GK := Lib.hid ((GK.out.next (HE7.out.trans hE)).int hi); clear hi hE HE7) | (go_at_call 40; refine (k40 Hra.out).mono ?_; rintro e wh ⟨rfl, hE⟩; replace GK := Lib.hid (GK.out.next (HE7.out.trans hE)); clear hE HE7) | (go_at_call 47; refine (k47 Hra.out).mono ?_; rintro e wi ⟨⟨on, cn, rfl, hi⟩, hE⟩; replace GK := Lib.hid ((GK.out.next (HE7.out.trans hE)).int hi); clear hi hE HE7) | (go_at_call 50; refine (k50 Hra.out).mono ?_; rintro e wj ⟨⟨od, cd, rfl, hi⟩, hE⟩; replace GK := Lib.hid ((GK.out.next (HE7.out.trans hE)).int hi); clear hi hE HE7) | (go_at_call 55; refine (k55 Hra.out).mono ?_; rintro e wk ⟨rfl, hE⟩; replace GK := Lib.hid ((GK.out.next (HE7.out.trans hE)).box [.int .i64 0, .int .i64 0, .int .i64 (-2)] 22); clear hE HE7) | (go_at_call 64; refine (k64 m (cell_ext GK.out.ext Hm.out)).mono ?_; rintro e wl ⟨⟨ot, ct, rfl, hr⟩, hE⟩; replace GK := Lib.hid (((GK.out.next hE).row hr).box [.int .i64 1, .int .i64 2, .int .i64 3, .int .i64 0, .int .i64 0, .int .i64 0, .int .i64 0, .int .i64 0, .int .i64 0, .int .i64 0, .int .i64 0, .int .i64 1, .slice ot 1 ct] 28); clear hE hr))
 obtain ⟨wX, hwX⟩ : ∃ W, W = wl.alloc (.cells #[.int .i64 1, .int .i64 2, .int .i64 3, .int .i64 0, .int .i64 0, .int .i64 0, .int .i64 0, .int .i64 0, .int .i64 0, .int .i64 0, .int .i64 0, .int .i64 1, .slice ot 1 ct] 28) := ⟨_, rfl⟩
 rw [← hwX]
 replace GK := Lib.hid (hwX ▸ GK.out)
 have b0 := GK.out.get (b := wa.heap.size) (vs := [.int .i64 42, .int .i64 58, .int .i64 31, .int .i64 38, .int .i64 20, .int .i64 20]) (by simp) 0 rfl
 have b1 := GK.out.get (b := wa.heap.size) (vs := [.int .i64 42, .int .i64 58, .int .i64 31, .int .i64 38, .int .i64 20, .int .i64 20]) (by simp) 1 rfl
 have b2 := GK.out.get (b := wa.heap.size) (vs := [.int .i64 42, .int .i64 58, .int .i64 31, .int .i64 38, .int .i64 20, .int .i64 20]) (by simp) 2 rfl
 have b3 := GK.out.get (b := wa.heap.size) (vs := [.int .i64 42, .int .i64 58, .int .i64 31, .int .i64 38, .int .i64 20, .int .i64 20]) (by simp) 3 rfl
 have b4 := GK.out.get (b := wa.heap.size) (vs := [.int .i64 42, .int .i64 58, .int .i64 31, .int .i64 38, .int .i64 20, .int .i64 20]) (by simp) 4 rfl
 have b5 := GK.out.get (b := wa.heap.size) (vs := [.int .i64 42, .int .i64 58, .int .i64 31, .int .i64 38, .int .i64 20, .int .i64 20]) (by simp) 5 rfl
 have b6 := GK.out.get (b := wb.heap.size) (vs := [.int .i64 100, .int .i64 104, .int .i64 80, .int .i64 80, .int .i64 40, .int .i64 42]) (by simp) 0 rfl
 have b7 := GK.out.get (b := wb.heap.size) (vs := [.int .i64 100, .int .i64 104, .int .i64 80, .int .i64 80, .int .i64 40, .int .i64 42]) (by simp) 1 rfl
 have b8 := GK.out.get (b := wb.heap.size) (vs := [.int .i64 100, .int .i64 104, .int .i64 80, .int .i64 80, .int .i64 40, .int .i64 42]) (by simp) 2 rfl
 have b9 := GK.out.get (b := wb.heap.size) (vs := [.int .i64 100, .int .i64 104, .int .i64 80, .int .i64 80, .int .i64 40, .int .i64 42]) (by simp) 3 rfl
 have b10 := GK.out.get (b := wb.heap.size) (vs := [.int .i64 100, .int .i64 104, .int .i64 80, .int .i64 80, .int .i64 40, .int .i64 42]) (by simp) 4 rfl
 have b11 := GK.out.get (b := wb.heap.size) (vs := [.int .i64 100, .int .i64 104, .int .i64 80, .int .i64 80, .int .i64 40, .int .i64 42]) (by simp) 5 rfl
 have b12 := GK.out.get (b := we.heap.size) (vs := [.int .i64 2, .int .i64 5]) (by simp) 0 rfl
 have b13 := GK.out.get (b := we.heap.size) (vs := [.int .i64 2, .int .i64 5]) (by simp) 1 rfl
 clear hwX
 refine wp_region_plan (.take 0 <| .only 1 <| .only 2 <| .only 3 <| .take 4 <| .take 5 <| .take 6 <| .take 7 <| .only 8 <| .only 9 <| .only 10 <| .take 11 <| .take 12 <| .take 13 <| .take 14 <| .take 15 <| .take 16 <| .take 17 <| .take 18 <| .take 19 <| .take 20 <| .take 21 <| .take 22 <| .take 23 <| .only 24 <| .take 25 <| .take 26 <| .done) (fun W => Ext wX W) mixed (by kernel_rfl) (by kernel_rfl) rfl (fun _ _ d _ _ h => by cases d <;> exact h) ((Ext.refl wX).drew) ?_
 have X := Lib.hid (Ext.refl wX).drew
 repeat ((first | (refine plan_take (v := ?_) rfl rfl (fun W hW => ?_) ?_; rotate_left; (focus (have d0 := cell_ext hW b0; have d1 := cell_ext hW b1; have d2 := cell_ext hW b2; have d3 := cell_ext hW b3; have d4 := cell_ext hW b4; have d5 := cell_ext hW b5; have d6 := cell_ext hW b6; have d7 := cell_ext hW b7; have d8 := cell_ext hW b8; have d9 := cell_ext hW b9; have d10 := cell_ext hW b10; have d11 := cell_ext hW b11; have d12 := cell_ext hW b12; have d13 := cell_ext hW b13; go_simp; first | exact rfl | (split <;> first | exact rfl | (exfalso; omega)) | done))) | refine plan_skip rfl rfl ?_); simp only [puts])
 refine plan_walk rfl ?_; intro K hK
 go_wp2_with (first | (go_at_call 71; refine (span71 _ _ _).mono ?_; rintro e w9 ⟨rfl, hE9⟩))
 replace X := Lib.hid (X.out.trans hE9)
 refine hK _ _ X.out ?_
 clear hE9 hK
 refine plan_walk rfl ?_; intro K hK
 go_wp2_with (first | (go_at_call 71; refine (span71 _ _ _).mono ?_; rintro e w9 ⟨rfl, hE9⟩))
 replace X := Lib.hid (X.out.trans hE9)
 refine hK _ _ X.out ?_
 clear hE9 hK
 refine plan_walk rfl ?_; intro K hK
 go_wp2_with (first | (go_at_call 71; refine (span71 _ _ _).mono ?_; rintro e w9 ⟨rfl, hE9⟩))
 replace X := Lib.hid (X.out.trans hE9)
 refine hK _ _ X.out ?_
 clear hE9 hK
 repeat ((first | (refine plan_take (v := ?_) rfl rfl (fun W hW => ?_) ?_; rotate_left; (focus (have d0 := cell_ext hW b0; have d1 := cell_ext hW b1; have d2 := cell_ext hW b2; have d3 := cell_ext hW b3; have d4 := cell_ext hW b4; have d5 := cell_ext hW b5; have d6 := cell_ext hW b6; have d7 := cell_ext hW b7; have d8 := cell_ext hW b8; have d9 := cell_ext hW b9; have d10 := cell_ext hW b10; have d11 := cell_ext hW b11; have d12 := cell_ext hW b12; have d13 := cell_ext hW b13; go_simp; first | exact rfl | (split <;> first | exact rfl | (exfalso; omega)) | done))) | refine plan_skip rfl rfl ?_); simp only [puts])
 refine plan_walk rfl ?_; intro K hK
 go_wp2_with (first | (go_at_call 71; refine (span71 _ _ _).mono ?_; rintro e w9 ⟨rfl, hE9⟩))
 replace X := Lib.hid (X.out.trans hE9)
 refine hK _ _ X.out ?_
 clear hE9 hK
 refine plan_walk rfl ?_; intro K hK
 go_wp2_with (first | (go_at_call 71; refine (span71 _ _ _).mono ?_; rintro e w9 ⟨rfl, hE9⟩))
 replace X := Lib.hid (X.out.trans hE9)
 refine hK _ _ X.out ?_
 clear hE9 hK
 refine plan_walk rfl ?_; intro K hK
 go_wp2_with (first | (go_at_call 71; refine (span71 _ _ _).mono ?_; rintro e w9 ⟨rfl, hE9⟩))
 replace X := Lib.hid (X.out.trans hE9)
 refine hK _ _ X.out ?_
 clear hE9 hK
 repeat ((first | (refine plan_take (v := ?_) rfl rfl (fun W hW => ?_) ?_; rotate_left; (focus (have d0 := cell_ext hW b0; have d1 := cell_ext hW b1; have d2 := cell_ext hW b2; have d3 := cell_ext hW b3; have d4 := cell_ext hW b4; have d5 := cell_ext hW b5; have d6 := cell_ext hW b6; have d7 := cell_ext hW b7; have d8 := cell_ext hW b8; have d9 := cell_ext hW b9; have d10 := cell_ext hW b10; have d11 := cell_ext hW b11; have d12 := cell_ext hW b12; have d13 := cell_ext hW b13; go_simp; first | exact rfl | (split <;> first | exact rfl | (exfalso; omega)) | done))) | refine plan_skip rfl rfl ?_); simp only [puts])
 refine plan_walk rfl ?_; intro K hK
 go_wp2_with (first | (go_at_call 71; refine (span71 _ _ _).mono ?_; rintro e w9 ⟨rfl, hE9⟩))
 replace X := Lib.hid (X.out.trans hE9)
 refine hK _ _ X.out ?_
 clear hE9 hK
 repeat ((first | (refine plan_take (v := ?_) rfl rfl (fun W hW => ?_) ?_; rotate_left; (focus (have d0 := cell_ext hW b0; have d1 := cell_ext hW b1; have d2 := cell_ext hW b2; have d3 := cell_ext hW b3; have d4 := cell_ext hW b4; have d5 := cell_ext hW b5; have d6 := cell_ext hW b6; have d7 := cell_ext hW b7; have d8 := cell_ext hW b8; have d9 := cell_ext hW b9; have d10 := cell_ext hW b10; have d11 := cell_ext hW b11; have d12 := cell_ext hW b12; have d13 := cell_ext hW b13; go_simp; first | exact rfl | (split <;> first | exact rfl | (exfalso; omega)) | done))) | refine plan_skip rfl rfl ?_); simp only [puts])
 refine plan_done ?_
 replace GK := Lib.hid (GK.out.next X.out)
 clear b0 b1 b2 b3 b4 b5 b6 b7 b8 b9 b10 b11 b12 b13 X
 go_wp2_with (first | (go_at_call 43; have t0 := T1; clear t0 T1; replace GK := Lib.hid ((GK.out.alloc _).int (fresh_ints _ [1, 1, 0])); refine Calls.mono (kt [1, 1, 0] 3 rfl (GK.out.ints (ol, [1, 1, 0]) (by simp)) (GK.out.ints _ List.mem_cons_self) (by decide)) ?_; rintro e w3 ⟨rfl, hE⟩; replace GK := Lib.hid (GK.out.next hE); clear hE) | (go_at_call 43; have t0 := T2; clear t0 T2; refine Calls.mono (kt [1, 1, 0] 3 rfl (GK.out.ints (om, [1, 1, 0]) (by simp)) (GK.out.ints _ List.mem_cons_self) (by decide)) ?_; rintro e w3 ⟨rfl, hE⟩; replace GK := Lib.hid (GK.out.next hE); clear hE) | (go_at_call 43; have t0 := T3; clear t0 T3; refine Calls.mono (kt [1, 1, 0] 3 rfl (GK.out.ints (on, [1, 1, 0]) (by simp)) (GK.out.ints _ List.mem_cons_self) (by decide)) ?_; rintro e w3 ⟨rfl, hE⟩; replace GK := Lib.hid (GK.out.next hE); clear hE) | (go_at_call 43; have t0 := T4; clear t0 T4; refine Calls.mono (kt [0, 1] 2 rfl ((GK.out.alloc _).ints (od, [0, 1]) (by simp)) (fresh_ints _ [0, 1]) (by decide)) ?_; rintro e w3 ⟨rfl, hE⟩; replace GK := Lib.hid (GK.out.next (((Ext.refl _).alloc _).trans hE)); clear hE; have p0 := GK.out.get (b := wk.heap.size) (vs := [.int .i64 0, .int .i64 0, .int .i64 (-2)]) (by simp) 0 rfl; have p1 := GK.out.get (b := wk.heap.size) (vs := [.int .i64 0, .int .i64 0, .int .i64 (-2)]) (by simp) 1 rfl; have p2 := GK.out.get (b := wk.heap.size) (vs := [.int .i64 0, .int .i64 0, .int .i64 (-2)]) (by simp) 2 rfl; have s := GK.out.cell (wl.heap.size, [.int .i64 1, .int .i64 2, .int .i64 3, .int .i64 0, .int .i64 0, .int .i64 0, .int .i64 0, .int .i64 0, .int .i64 0, .int .i64 0, .int .i64 0, .int .i64 1, .slice ot 1 ct]) (by simp); have s0 := s 0 _ rfl; have s1 := s 1 _ rfl; have s2 := s 2 _ rfl; have s3 := s 3 _ rfl; have s4 := s 4 _ rfl; have s5 := s 5 _ rfl; have s6 := s 6 _ rfl; have s7 := s 7 _ rfl; have s8 := s 8 _ rfl; have s9 := s 9 _ rfl; have s10 := s 10 _ rfl; have s11 := s 11 _ rfl; have s12 := s 12 _ rfl; dsimp only at s0 s1 s2 s3 s4 s5 s6 s7 s8 s9 s10 s11 s12; clear s) | (go_at_call 65; refine (k65 (GK.out.rows _ List.mem_cons_self)).mono ?_; rintro e w3 ⟨rfl, hE⟩; replace GK := Lib.hid (GK.out.next hE); clear hE p0 p1 p2 s0 s1 s2 s3 s4 s5 s6 s7 s8 s9 s10 s11 s12))
 go_ret
 exact ⟨rfl, GK.out.ext⟩

end Go.Proofs.YtjpekonfjihcoaaGreatDoor
