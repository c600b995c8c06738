/- Contract: Sums. No condition beyond lists of at most 1000 numbers. -/
import Derived.Below
import Derived.BigQuiet
import Derived.Deep.DeepCutAuto
import Derived.Deep.DeepFit
import Derived.Deep.LoopGhost
import Derived.Deep.QuietTactic
import Derived.Deep.RegionHeld
import Derived.Deep.RegionHeld3
import Derived.Deep.RegionWith
import Derived.Laws.EntriesVeiled
import Derived.Lib.Hide
import Derived.OrdersHeld
import Derived.Test.YtjpekonfjihcoaaGreatDoorProg
import Derived.WalkKit
import Derived.WalkLawsBesides
import Derived.WalkSpells
import Derived.Test.YtjpekonfjihcoaaGreatDoorM2
import Derived.Test.YtjpekonfjihcoaaGreatDoorM5
import Derived.Test.YtjpekonfjihcoaaGreatDoorM4
import Derived.Test.YtjpekonfjihcoaaGreatDoorM1
namespace Go.TintM
end Go.TintM
set_option maxRecDepth 100000
set_option maxHeartbeats 64000000
set_option linter.unusedVariables false
set_option linter.unusedSimpArgs false
namespace Go.Proofs.YtjpekonfjihcoaaGreatDoor
open Go.RowKit Go.My Go.TintM

theorem sSums_bad (s : SI) (ot : Option Addr) (cap : Nat) (l : List Int) (ol : Option Addr) (cl : Nat) (w : World) (h : TinsAt w ot s.tins) (hl : s.tins.length ≤ 9223372036854775807) (hi : IntsAt w ol l) (hll : l.length ≤ 1000) (hb : (sheetB s && mixB s l) = false) :
  Calls Tryz.prog 34 #[sheetV s ot cap, .slice ol l.length cl] w fun e w' => e = .returned (.tuple #[noSpans, .int .i64 2]) ∧ Ext w w' := by
 have R72 := Lib.hid (fun W (hW : Ext w W) => isSheet_any s ot cap W (h.ext hW) hl)
 have R73 := Lib.hid (fun W (hW : Ext w W) => isMix_any s ot cap l ol cl W (hi.ext hW) hll)
 clear h hi hl hll
 cases h1 : sheetB s
 ·rw [h1] at R72
  clear h1 hb R73
  go_enter Tryz.func34, Tryz.ntmps34
  go_wp2_with (first | (go_at_call 72; refine (R72.out _ (((Ext.refl w).alloc _).alloc _)).mono ?_; rintro e w1 ⟨rfl, hE1⟩; have HE1 := Lib.hid ((((Ext.refl w).alloc _).alloc _).trans hE1); have z0 := cell_ext (p := ⟨w.heap.size + 1, 0, none⟩) (v := .int .i64 0) hE1 (by go_simp); have z1 := cell_ext (p := ⟨w.heap.size + 1, 1, none⟩) (v := .int .i64 0) hE1 (by go_simp); have z2 := cell_ext (p := ⟨w.heap.size + 1, 2, none⟩) (v := .int .i64 0) hE1 (by go_simp); have z3 := cell_ext (p := ⟨w.heap.size + 1, 3, none⟩) (v := .int .i64 0) hE1 (by go_simp); have z4 := cell_ext (p := ⟨w.heap.size + 1, 4, none⟩) (v := .int .i64 0) hE1 (by go_simp); have z5 := cell_ext (p := ⟨w.heap.size + 1, 5, none⟩) (v := .int .i64 0) hE1 (by go_simp); have hf : ∀ j, w1.frozen? ⟨w.heap.size + 1, j, none⟩ = false := (fun j => (hE1.frozen (by simp)).trans (by go_simp)); have f0 := hf 0; have f1 := hf 1; have f2 := hf 2; have f3 := hf 3; have f4 := hf 4; have f5 := hf 5; have c0 := cell_ext (p := ⟨w.heap.size, 0, none⟩) (v := .int .i64 s.o0) hE1 (by go_simp); have c1 := cell_ext (p := ⟨w.heap.size, 1, none⟩) (v := .int .i64 s.o1) hE1 (by go_simp); have c2 := cell_ext (p := ⟨w.heap.size, 2, none⟩) (v := .int .i64 s.o2) hE1 (by go_simp); have c3 := cell_ext (p := ⟨w.heap.size, 3, none⟩) (v := .int .i64 s.a0) hE1 (by go_simp); have c4 := cell_ext (p := ⟨w.heap.size, 4, none⟩) (v := .int .i64 s.b0) hE1 (by go_simp); have c5 := cell_ext (p := ⟨w.heap.size, 5, none⟩) (v := .int .i64 s.a1) hE1 (by go_simp); have c6 := cell_ext (p := ⟨w.heap.size, 6, none⟩) (v := .int .i64 s.b1) hE1 (by go_simp); have c7 := cell_ext (p := ⟨w.heap.size, 7, none⟩) (v := .int .i64 s.a2) hE1 (by go_simp); have c8 := cell_ext (p := ⟨w.heap.size, 8, none⟩) (v := .int .i64 s.b2) hE1 (by go_simp); have c9 := cell_ext (p := ⟨w.heap.size, 9, none⟩) (v := .int .i64 s.ylo) hE1 (by go_simp); have c10 := cell_ext (p := ⟨w.heap.size, 10, none⟩) (v := .int .i64 s.yhi) hE1 (by go_simp); have c11 := cell_ext (p := ⟨w.heap.size, 11, none⟩) (v := .int .i64 s.off) hE1 (by go_simp); have c12 := cell_ext (p := ⟨w.heap.size, 12, none⟩) (v := .slice ot s.tins.length cap) hE1 (by go_simp); clear hf hE1))
  refine bodyPost_ret (v := .tuple #[noSpans, .int .i64 2]) (results_cellst (n := 6) rfl (by kernel_rfl) (by kernel_rfl) _ (w.heap.size + 1) [.int .i64 0, .int .i64 0, .int .i64 0, .int .i64 0, .int .i64 0, .int .i64 0] _ rfl (by simp) (by simp) (fun j v hv => ?_)) (by simp) ⟨rfl, ?_⟩
  ·match j, hv with
   | 0, hv => cases hv; go_simp
   | 1, hv => cases hv; go_simp
   | 2, hv => cases hv; go_simp
   | 3, hv => cases hv; go_simp
   | 4, hv => cases hv; go_simp
   | 5, hv => cases hv; go_simp
  ·exact ext_set (ext_set (ext_set (ext_set (ext_set (ext_set HE1.out (by omega)) (by omega)) (by omega)) (by omega)) (by omega)) (by omega)
 ·rw [h1] at R72 hb
  rw [Bool.true_and] at hb
  rw [hb] at R73
  clear h1 hb
  go_enter Tryz.func34, Tryz.ntmps34
  go_wp2_with (first | (go_at_call 72; refine (R72.out _ (((Ext.refl w).alloc _).alloc _)).mono ?_; rintro e w1 ⟨rfl, hE1⟩; have HE1 := Lib.hid ((((Ext.refl w).alloc _).alloc _).trans hE1); have z0 := cell_ext (p := ⟨w.heap.size + 1, 0, none⟩) (v := .int .i64 0) hE1 (by go_simp); have z1 := cell_ext (p := ⟨w.heap.size + 1, 1, none⟩) (v := .int .i64 0) hE1 (by go_simp); have z2 := cell_ext (p := ⟨w.heap.size + 1, 2, none⟩) (v := .int .i64 0) hE1 (by go_simp); have z3 := cell_ext (p := ⟨w.heap.size + 1, 3, none⟩) (v := .int .i64 0) hE1 (by go_simp); have z4 := cell_ext (p := ⟨w.heap.size + 1, 4, none⟩) (v := .int .i64 0) hE1 (by go_simp); have z5 := cell_ext (p := ⟨w.heap.size + 1, 5, none⟩) (v := .int .i64 0) hE1 (by go_simp); have hf : ∀ j, w1.frozen? ⟨w.heap.size + 1, j, none⟩ = false := (fun j => (hE1.frozen (by simp)).trans (by go_simp)); have f0 := hf 0; have f1 := hf 1; have f2 := hf 2; have f3 := hf 3; have f4 := hf 4; have f5 := hf 5; have c0 := cell_ext (p := ⟨w.heap.size, 0, none⟩) (v := .int .i64 s.o0) hE1 (by go_simp); have c1 := cell_ext (p := ⟨w.heap.size, 1, none⟩) (v := .int .i64 s.o1) hE1 (by go_simp); have c2 := cell_ext (p := ⟨w.heap.size, 2, none⟩) (v := .int .i64 s.o2) hE1 (by go_simp); have c3 := cell_ext (p := ⟨w.heap.size, 3, none⟩) (v := .int .i64 s.a0) hE1 (by go_simp); have c4 := cell_ext (p := ⟨w.heap.size, 4, none⟩) (v := .int .i64 s.b0) hE1 (by go_simp); have c5 := cell_ext (p := ⟨w.heap.size, 5, none⟩) (v := .int .i64 s.a1) hE1 (by go_simp); have c6 := cell_ext (p := ⟨w.heap.size, 6, none⟩) (v := .int .i64 s.b1) hE1 (by go_simp); have c7 := cell_ext (p := ⟨w.heap.size, 7, none⟩) (v := .int .i64 s.a2) hE1 (by go_simp); have c8 := cell_ext (p := ⟨w.heap.size, 8, none⟩) (v := .int .i64 s.b2) hE1 (by go_simp); have c9 := cell_ext (p := ⟨w.heap.size, 9, none⟩) (v := .int .i64 s.ylo) hE1 (by go_simp); have c10 := cell_ext (p := ⟨w.heap.size, 10, none⟩) (v := .int .i64 s.yhi) hE1 (by go_simp); have c11 := cell_ext (p := ⟨w.heap.size, 11, none⟩) (v := .int .i64 s.off) hE1 (by go_simp); have c12 := cell_ext (p := ⟨w.heap.size, 12, none⟩) (v := .slice ot s.tins.length cap) hE1 (by go_simp); clear hf hE1) | (go_at_call 73; refine (R73.out _ HE1.out).mono ?_; rintro e w2 ⟨rfl, hE2⟩; have y0 := z0; replace z0 := cell_ext hE2 z0; replace f0 := (hE2.frozen (World.block_lt_of_cell? _ _ y0)).trans f0; have y1 := z1; replace z1 := cell_ext hE2 z1; replace f1 := (hE2.frozen (World.block_lt_of_cell? _ _ y1)).trans f1; have y2 := z2; replace z2 := cell_ext hE2 z2; replace f2 := (hE2.frozen (World.block_lt_of_cell? _ _ y2)).trans f2; have y3 := z3; replace z3 := cell_ext hE2 z3; replace f3 := (hE2.frozen (World.block_lt_of_cell? _ _ y3)).trans f3; have y4 := z4; replace z4 := cell_ext hE2 z4; replace f4 := (hE2.frozen (World.block_lt_of_cell? _ _ y4)).trans f4; have y5 := z5; replace z5 := cell_ext hE2 z5; replace f5 := (hE2.frozen (World.block_lt_of_cell? _ _ y5)).trans f5; clear y0 y1 y2 y3 y4 y5; replace c0 := cell_ext hE2 c0; replace c1 := cell_ext hE2 c1; replace c2 := cell_ext hE2 c2; replace c3 := cell_ext hE2 c3; replace c4 := cell_ext hE2 c4; replace c5 := cell_ext hE2 c5; replace c6 := cell_ext hE2 c6; replace c7 := cell_ext hE2 c7; replace c8 := cell_ext hE2 c8; replace c9 := cell_ext hE2 c9; replace c10 := cell_ext hE2 c10; replace c11 := cell_ext hE2 c11; replace c12 := cell_ext hE2 c12; replace HE1 := Lib.hid (HE1.out.trans hE2); clear hE2))
  refine bodyPost_ret (v := .tuple #[noSpans, .int .i64 2]) (results_cellst (n := 6) rfl (by kernel_rfl) (by kernel_rfl) _ (w.heap.size + 1) [.int .i64 0, .int .i64 0, .int .i64 0, .int .i64 0, .int .i64 0, .int .i64 0] _ rfl (by simp) (by simp) (fun j v hv => ?_)) (by simp) ⟨rfl, ?_⟩
  ·match j, hv with
   | 0, hv => cases hv; go_simp
   | 1, hv => cases hv; go_simp
   | 2, hv => cases hv; go_simp
   | 3, hv => cases hv; go_simp
   | 4, hv => cases hv; go_simp
   | 5, hv => cases hv; go_simp
  ·exact ext_set (ext_set (ext_set (ext_set (ext_set (ext_set HE1.out (by omega)) (by omega)) (by omega)) (by omega)) (by omega)) (by omega)

end Go.Proofs.YtjpekonfjihcoaaGreatDoor
