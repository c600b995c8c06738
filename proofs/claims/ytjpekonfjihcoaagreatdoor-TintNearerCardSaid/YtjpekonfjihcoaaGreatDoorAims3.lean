/- Contracts: Aim, the reference's Aim. No condition beyond sheets as defined. -/
import Derived.Below
import Derived.BigQuiet
import Derived.Deep.DeepCutAuto
import Derived.Deep.DeepFit
import Derived.Deep.LoopGhost
import Derived.Deep.QuietTactic
import Derived.Deep.RegionHeld
import Derived.Deep.RegionHeld3
import Derived.Deep.RegionWith
import Derived.Lib.Hide
import Derived.OrdersHeld
import Derived.Test.YtjpekonfjihcoaaGreatDoorProg
import Derived.WalkKit
import Derived.WalkLawsBesides
import Derived.WalkSpells
import Derived.Test.YtjpekonfjihcoaaGreatDoorM2
import Derived.Test.YtjpekonfjihcoaaGreatDoorM3
import Derived.Test.YtjpekonfjihcoaaGreatDoorM1
namespace Go.TintM
end Go.TintM
set_option maxRecDepth 100000
set_option maxHeartbeats 64000000
set_option linter.unusedVariables false
set_option linter.unusedSimpArgs false
namespace Go.Proofs.YtjpekonfjihcoaaGreatDoor
open Go.RowKit Go.My Go.TintM


theorem rAim_any (s : Sh) (g : Fine s) (ot : Option Addr) (cap : Nat) (w : World) :
  Calls Tryz.prog 61 #[sheetV (ofSh s) ot cap] w fun e w' => e = .returned (aimV s) ∧ Ext w w' := by
 have R1 := Lib.hid (fun k (hk : k < 3) W => faded_any s g ot cap k s.yhi (s.fhi k) hk g.yhi (g.fhi k hk) W)
 have R2 := Lib.hid (fun k (hk : k < 3) W => faded_any s g ot cap k s.ylo (s.flo k) hk (Nat.le_trans g.ylo g.yhi) (Nat.le_trans (g.flo k hk) (g.fhi k hk)) W)
 clear g
 go_enter Tryz.func61, Tryz.ntmps61
 go_wp2
 obtain ⟨w0, hw0⟩ : ∃ w0, w0 = ((w.alloc (.cells (sheetC (ofSh s) ot cap) 28)).alloc (.cells #[.int .i64 0, .int .i64 0, .int .i64 0, .int .i64 0, .int .i64 0, .int .i64 0] 25)).alloc (.cells #[.int .i64 0, .int .i64 0, .int .i64 0, .int .i64 0, .int .i64 0, .int .i64 0] 25) := ⟨_, rfl⟩
 have hE0 : Ext w w0 := by rw [hw0]; exact (((Ext.refl w).alloc _).alloc _).alloc _
 have C0 := Lib.hid (show ∀ (i : Nat) (v : Value), (sheetC (ofSh s) ot cap)[i]? = some v → w0.cell? ⟨w.heap.size, i, none⟩ = some v from fun i v hv => by
  rw [hw0]; exact cell_ext (((Ext.refl _).alloc _).alloc _) (sheet_box s ot cap w i v hv))
 have hob : OBx (w.heap.size + 1 + 1) w0 w0 (aimL s 0) := by
  refine ⟨Turned.refl _ _, fun j x hj => ?_, fun j hj => ?_⟩
  ·have hj6 : j < 6 := by have := (List.getElem?_eq_some_iff.1 hj).1; rw [aimL_len] at this; exact this
   rw [aimL_get s 0 hj6] at hj
   rw [hw0]
   match j, hj6 with
   | 0, _ => cases hj; go_simp
   | 1, _ => cases hj; go_simp
   | 2, _ => cases hj; go_simp
   | 3, _ => cases hj; go_simp
   | 4, _ => cases hj; go_simp
   | 5, _ => cases hj; go_simp
  ·rw [hw0]; go_simp
 have Hob := Lib.hid hob
 have hr0 : ∀ j, j < 6 → w0.cell? ⟨w.heap.size + 1, j, none⟩ = some (.int .i64 0) := fun j hj => by
  rw [hw0]
  match j, hj with
  | 0, _ => go_simp
  | 1, _ => go_simp
  | 2, _ => go_simp
  | 3, _ => go_simp
  | 4, _ => go_simp
  | 5, _ => go_simp
 have hq0 : ∀ j, j < 6 → w0.frozen? ⟨w.heap.size + 1, j, none⟩ = false := fun j hj => by rw [hw0]; go_simp
 have Hr0 := Lib.hid hr0
 have Hq0 := Lib.hid hq0
 have HE0 := Lib.hid hE0
 have hw0l : w.heap.size + 2 < w0.heap.size := by rw [hw0]; simp
 rw [← hw0]
 clear hw0 hob hr0 hq0 hE0
 go_loopg [4] 3 (fun g i wr => ∃ k : Nat, k + g = 3 ∧ i = .int .i64 k ∧ OBx (w.heap.size + 1 + 1) w0 wr (aimL s k))
 case atStart => exact ⟨0, by simp, rfl, Hob.out⟩
 case round =>
  obtain ⟨k, hk, rfl, hob⟩ := hrel
  have Ob := Lib.hid hob
  clear hob Hob
  by_cases hlt : k < 3
  ·have hkI : (k : Int) < 3 := by omega
   have c0 : wr.cell? ⟨w.heap.size, 0, none⟩ = some (.int .i64 (ofSh s).o0) := Turned.cell Ob.out.turned (by simp <;> omega) (C0.out 0 _ rfl)
   have c1 : wr.cell? ⟨w.heap.size, 1, none⟩ = some (.int .i64 (ofSh s).o1) := Turned.cell Ob.out.turned (by simp <;> omega) (C0.out 1 _ rfl)
   have c2 : wr.cell? ⟨w.heap.size, 2, none⟩ = some (.int .i64 (ofSh s).o2) := Turned.cell Ob.out.turned (by simp <;> omega) (C0.out 2 _ rfl)
   have c3 : wr.cell? ⟨w.heap.size, 3, none⟩ = some (.int .i64 (ofSh s).a0) := Turned.cell Ob.out.turned (by simp <;> omega) (C0.out 3 _ rfl)
   have c4 : wr.cell? ⟨w.heap.size, 4, none⟩ = some (.int .i64 (ofSh s).b0) := Turned.cell Ob.out.turned (by simp <;> omega) (C0.out 4 _ rfl)
   have c5 : wr.cell? ⟨w.heap.size, 5, none⟩ = some (.int .i64 (ofSh s).a1) := Turned.cell Ob.out.turned (by simp <;> omega) (C0.out 5 _ rfl)
   have c6 : wr.cell? ⟨w.heap.size, 6, none⟩ = some (.int .i64 (ofSh s).b1) := Turned.cell Ob.out.turned (by simp <;> omega) (C0.out 6 _ rfl)
   have c7 : wr.cell? ⟨w.heap.size, 7, none⟩ = some (.int .i64 (ofSh s).a2) := Turned.cell Ob.out.turned (by simp <;> omega) (C0.out 7 _ rfl)
   have c8 : wr.cell? ⟨w.heap.size, 8, none⟩ = some (.int .i64 (ofSh s).b2) := Turned.cell Ob.out.turned (by simp <;> omega) (C0.out 8 _ rfl)
   have c9 : wr.cell? ⟨w.heap.size, 9, none⟩ = some (.int .i64 (ofSh s).ylo) := Turned.cell Ob.out.turned (by simp <;> omega) (C0.out 9 _ rfl)
   have c10 : wr.cell? ⟨w.heap.size, 10, none⟩ = some (.int .i64 (ofSh s).yhi) := Turned.cell Ob.out.turned (by simp <;> omega) (C0.out 10 _ rfl)
   have c11 : wr.cell? ⟨w.heap.size, 11, none⟩ = some (.int .i64 (ofSh s).off) := Turned.cell Ob.out.turned (by simp <;> omega) (C0.out 11 _ rfl)
   have c12 : wr.cell? ⟨w.heap.size, 12, none⟩ = some (.slice ot (ofSh s).tins.length cap) := Turned.cell Ob.out.turned (by simp <;> omega) (C0.out 12 _ rfl)
   match k, hlt with
   | 0, _ =>
    obtain ⟨xa, ha⟩ : ∃ x, wr.cell? ⟨w.heap.size + 1 + 1, 0, none⟩ = some (.int .i64 x) := ⟨_, Ob.out.c 0 _ (aimL_get s 0 (by omega))⟩
    obtain ⟨xb, hb⟩ : ∃ x, wr.cell? ⟨w.heap.size + 1 + 1, 1, none⟩ = some (.int .i64 x) := ⟨_, Ob.out.c 1 _ (aimL_get s 0 (by omega))⟩
    have fa := Ob.out.f 0 (by omega)
    have fb := Ob.out.f 1 (by omega)
    go_wp2_with fail
    refine wp_region_plan (.take 0 <| .take 1 <| .take 2 <| .take 3 <| .take 4 <| .take 5 <| .take 6 <| .take 7 <| .take 8 <| .take 9 <| .take 10 <| .take 12 <| .take 13 <| .take 14 <| .take 15 <| .take 16 <| .take 17 <| .take 18 <| .take 19 <| .take 20 <| .take 21 <| .only 11 <| .only 22 <| .take 23 <| .take 24 <| .only 25 <| .done) (fun W => Turned (w.heap.size + 1 + 1) wr W) mixed (by kernel_rfl) (by kernel_rfl) rfl (fun _ _ d _ _ h => by cases d <;> exact h) (Turned.of_ext (Ext.refl wr).drew) ?_
    repeat ((first | (refine plan_take (v := ?_) rfl rfl (fun W hW => ?_) ?_; rotate_left; (focus (have d0 := Turned.cell hW (by simp <;> omega) c0; have d1 := Turned.cell hW (by simp <;> omega) c1; have d2 := Turned.cell hW (by simp <;> omega) c2; have d3 := Turned.cell hW (by simp <;> omega) c3; have d4 := Turned.cell hW (by simp <;> omega) c4; have d5 := Turned.cell hW (by simp <;> omega) c5; have d6 := Turned.cell hW (by simp <;> omega) c6; have d7 := Turned.cell hW (by simp <;> omega) c7; have d8 := Turned.cell hW (by simp <;> omega) c8; have d9 := Turned.cell hW (by simp <;> omega) c9; have d10 := Turned.cell hW (by simp <;> omega) c10; have d11 := Turned.cell hW (by simp <;> omega) c11; have d12 := Turned.cell hW (by simp <;> omega) c12; go_simp; first | exact rfl | (split <;> first | exact rfl | (exfalso; omega)) | done))) | refine plan_skip rfl rfl ?_); simp only [puts])
    refine plan_walk rfl ?_; intro K hK
    go_wp2_with (first | (go_at_call 35; refine (R1.out 0 (by omega) _).mono ?_; rintro e w1 ⟨rfl, hE1⟩))
    have hX1 := (Ext.refl wr).drew.trans hE1
    refine hK _ _ (Turned.of_ext hX1) ?_
    repeat ((first | (refine plan_take (v := ?_) rfl rfl (fun W hW => ?_) ?_; rotate_left; (focus (skip; go_simp; first | exact rfl | (split <;> first | exact rfl | (exfalso; omega)) | done))) | refine plan_skip rfl rfl ?_); simp only [puts])
    refine plan_walk rfl ?_; intro K hK
    go_wp2_with (first | (go_at_call 35; refine (R2.out 0 (by omega) _).mono ?_; rintro e w2 ⟨rfl, hE2⟩))
    have hX2 := hX1.trans hE2
    refine hK _ _ (Turned.of_ext hX2) ?_
    repeat ((first | (refine plan_take (v := ?_) rfl rfl (fun W hW => ?_) ?_; rotate_left; (focus (skip; go_simp; first | exact rfl | (split <;> first | exact rfl | (exfalso; omega)) | done))) | refine plan_skip rfl rfl ?_); simp only [puts])
    refine plan_walk rfl ?_; intro K hK
    have ha2 := cell_ext hX2 ha
    have hb2 := cell_ext hX2 hb
    have fa2 := (hX2.frozen (World.block_lt_of_cell? _ _ ha)).trans fa
    have fb2 := (hX2.frozen (World.block_lt_of_cell? _ _ hb)).trans fb
    have HX2 := Lib.hid hX2
    clear c0 c1 c2 c3 c4 c5 c6 c7 c8 c9 c10 c11 c12 ha hb fa fb hX1 hX2 hE1 hE2
    go_wp2
    refine hK _ _ (((Turned.of_ext HX2.out).set 0 _).set 1 _) ?_
    refine plan_done ?_
    go_wp2
    go_roundg (gk - 1)
    case measure => omega
    case rel => exact ⟨1, by omega, by go_num, (Ob.out.next HX2.out ⟨_, aimL_get s 0 (by omega)⟩).set 0 (aimLo s 0) (aimHi s 0) (by omega) (aimL_len _ _) (aimL_len _ _) (aimL_step s (k := 0) (by omega)).1 (aimL_step s (k := 0) (by omega)).2.1 (aimL_step s (k := 0) (by omega)).2.2⟩
   | 1, _ =>
    obtain ⟨xa, ha⟩ : ∃ x, wr.cell? ⟨w.heap.size + 1 + 1, 2, none⟩ = some (.int .i64 x) := ⟨_, Ob.out.c 2 _ (aimL_get s 1 (by omega))⟩
    obtain ⟨xb, hb⟩ : ∃ x, wr.cell? ⟨w.heap.size + 1 + 1, 3, none⟩ = some (.int .i64 x) := ⟨_, Ob.out.c 3 _ (aimL_get s 1 (by omega))⟩
    have fa := Ob.out.f 2 (by omega)
    have fb := Ob.out.f 3 (by omega)
    go_wp2_with fail
    refine wp_region_plan (.take 0 <| .take 1 <| .take 2 <| .take 3 <| .take 4 <| .take 5 <| .take 6 <| .take 7 <| .take 8 <| .take 9 <| .take 10 <| .take 12 <| .take 13 <| .take 14 <| .take 15 <| .take 16 <| .take 17 <| .take 18 <| .take 19 <| .take 20 <| .take 21 <| .only 11 <| .only 22 <| .take 23 <| .take 24 <| .only 25 <| .done) (fun W => Turned (w.heap.size + 1 + 1) wr W) mixed (by kernel_rfl) (by kernel_rfl) rfl (fun _ _ d _ _ h => by cases d <;> exact h) (Turned.of_ext (Ext.refl wr).drew) ?_
    repeat ((first | (refine plan_take (v := ?_) rfl rfl (fun W hW => ?_) ?_; rotate_left; (focus (have d0 := Turned.cell hW (by simp <;> omega) c0; have d1 := Turned.cell hW (by simp <;> omega) c1; have d2 := Turned.cell hW (by simp <;> omega) c2; have d3 := Turned.cell hW (by simp <;> omega) c3; have d4 := Turned.cell hW (by simp <;> omega) c4; have d5 := Turned.cell hW (by simp <;> omega) c5; have d6 := Turned.cell hW (by simp <;> omega) c6; have d7 := Turned.cell hW (by simp <;> omega) c7; have d8 := Turned.cell hW (by simp <;> omega) c8; have d9 := Turned.cell hW (by simp <;> omega) c9; have d10 := Turned.cell hW (by simp <;> omega) c10; have d11 := Turned.cell hW (by simp <;> omega) c11; have d12 := Turned.cell hW (by simp <;> omega) c12; go_simp; first | exact rfl | (split <;> first | exact rfl | (exfalso; omega)) | done))) | refine plan_skip rfl rfl ?_); simp only [puts])
    refine plan_walk rfl ?_; intro K hK
    go_wp2_with (first | (go_at_call 35; refine (R1.out 1 (by omega) _).mono ?_; rintro e w1 ⟨rfl, hE1⟩))
    have hX1 := (Ext.refl wr).drew.trans hE1
    refine hK _ _ (Turned.of_ext hX1) ?_
    repeat ((first | (refine plan_take (v := ?_) rfl rfl (fun W hW => ?_) ?_; rotate_left; (focus (skip; go_simp; first | exact rfl | (split <;> first | exact rfl | (exfalso; omega)) | done))) | refine plan_skip rfl rfl ?_); simp only [puts])
    refine plan_walk rfl ?_; intro K hK
    go_wp2_with (first | (go_at_call 35; refine (R2.out 1 (by omega) _).mono ?_; rintro e w2 ⟨rfl, hE2⟩))
    have hX2 := hX1.trans hE2
    refine hK _ _ (Turned.of_ext hX2) ?_
    repeat ((first | (refine plan_take (v := ?_) rfl rfl (fun W hW => ?_) ?_; rotate_left; (focus (skip; go_simp; first | exact rfl | (split <;> first | exact rfl | (exfalso; omega)) | done))) | refine plan_skip rfl rfl ?_); simp only [puts])
    refine plan_walk rfl ?_; intro K hK
    have ha2 := cell_ext hX2 ha
    have hb2 := cell_ext hX2 hb
    have fa2 := (hX2.frozen (World.block_lt_of_cell? _ _ ha)).trans fa
    have fb2 := (hX2.frozen (World.block_lt_of_cell? _ _ hb)).trans fb
    have HX2 := Lib.hid hX2
    clear c0 c1 c2 c3 c4 c5 c6 c7 c8 c9 c10 c11 c12 ha hb fa fb hX1 hX2 hE1 hE2
    go_wp2
    refine hK _ _ (((Turned.of_ext HX2.out).set 2 _).set 3 _) ?_
    refine plan_done ?_
    go_wp2
    go_roundg (gk - 1)
    case measure => omega
    case rel => exact ⟨2, by omega, by go_num, (Ob.out.next HX2.out ⟨_, aimL_get s 1 (by omega)⟩).set 2 (aimLo s 1) (aimHi s 1) (by omega) (aimL_len _ _) (aimL_len _ _) (aimL_step s (k := 1) (by omega)).1 (aimL_step s (k := 1) (by omega)).2.1 (aimL_step s (k := 1) (by omega)).2.2⟩
   | 2, _ =>
    obtain ⟨xa, ha⟩ : ∃ x, wr.cell? ⟨w.heap.size + 1 + 1, 4, none⟩ = some (.int .i64 x) := ⟨_, Ob.out.c 4 _ (aimL_get s 2 (by omega))⟩
    obtain ⟨xb, hb⟩ : ∃ x, wr.cell? ⟨w.heap.size + 1 + 1, 5, none⟩ = some (.int .i64 x) := ⟨_, Ob.out.c 5 _ (aimL_get s 2 (by omega))⟩
    have fa := Ob.out.f 4 (by omega)
    have fb := Ob.out.f 5 (by omega)
    go_wp2_with fail
    refine wp_region_plan (.take 0 <| .take 1 <| .take 2 <| .take 3 <| .take 4 <| .take 5 <| .take 6 <| .take 7 <| .take 8 <| .take 9 <| .take 10 <| .take 12 <| .take 13 <| .take 14 <| .take 15 <| .take 16 <| .take 17 <| .take 18 <| .take 19 <| .take 20 <| .take 21 <| .only 11 <| .only 22 <| .take 23 <| .take 24 <| .only 25 <| .done) (fun W => Turned (w.heap.size + 1 + 1) wr W) mixed (by kernel_rfl) (by kernel_rfl) rfl (fun _ _ d _ _ h => by cases d <;> exact h) (Turned.of_ext (Ext.refl wr).drew) ?_
    repeat ((first | (refine plan_take (v := ?_) rfl rfl (fun W hW => ?_) ?_; rotate_left; (focus (have d0 := Turned.cell hW (by simp <;> omega) c0; have d1 := Turned.cell hW (by simp <;> omega) c1; have d2 := Turned.cell hW (by simp <;> omega) c2; have d3 := Turned.cell hW (by simp <;> omega) c3; have d4 := Turned.cell hW (by simp <;> omega) c4; have d5 := Turned.cell hW (by simp <;> omega) c5; have d6 := Turned.cell hW (by simp <;> omega) c6; have d7 := Turned.cell hW (by simp <;> omega) c7; have d8 := Turned.cell hW (by simp <;> omega) c8; have d9 := Turned.cell hW (by simp <;> omega) c9; have d10 := Turned.cell hW (by simp <;> omega) c10; have d11 := Turned.cell hW (by simp <;> omega) c11; have d12 := Turned.cell hW (by simp <;> omega) c12; go_simp; first | exact rfl | (split <;> first | exact rfl | (exfalso; omega)) | done))) | refine plan_skip rfl rfl ?_); simp only [puts])
    refine plan_walk rfl ?_; intro K hK
    go_wp2_with (first | (go_at_call 35; refine (R1.out 2 (by omega) _).mono ?_; rintro e w1 ⟨rfl, hE1⟩))
    have hX1 := (Ext.refl wr).drew.trans hE1
    refine hK _ _ (Turned.of_ext hX1) ?_
    repeat ((first | (refine plan_take (v := ?_) rfl rfl (fun W hW => ?_) ?_; rotate_left; (focus (skip; go_simp; first | exact rfl | (split <;> first | exact rfl | (exfalso; omega)) | done))) | refine plan_skip rfl rfl ?_); simp only [puts])
    refine plan_walk rfl ?_; intro K hK
    go_wp2_with (first | (go_at_call 35; refine (R2.out 2 (by omega) _).mono ?_; rintro e w2 ⟨rfl, hE2⟩))
    have hX2 := hX1.trans hE2
    refine hK _ _ (Turned.of_ext hX2) ?_
    repeat ((first | (refine plan_take (v := ?_) rfl rfl (fun W hW => ?_) ?_; rotate_left; (focus (skip; go_simp; first | exact rfl | (split <;> first | exact rfl | (exfalso; omega)) | done))) | refine plan_skip rfl rfl ?_); simp only [puts])
    refine plan_walk rfl ?_; intro K hK
    have ha2 := cell_ext hX2 ha
    have hb2 := cell_ext hX2 hb
    have fa2 := (hX2.frozen (World.block_lt_of_cell? _ _ ha)).trans fa
    have fb2 := (hX2.frozen (World.block_lt_of_cell? _ _ hb)).trans fb
    have HX2 := Lib.hid hX2
    clear c0 c1 c2 c3 c4 c5 c6 c7 c8 c9 c10 c11 c12 ha hb fa fb hX1 hX2 hE1 hE2
    go_wp2
    refine hK _ _ (((Turned.of_ext HX2.out).set 4 _).set 5 _) ?_
    refine plan_done ?_
    go_wp2
    go_roundg (gk - 1)
    case measure => omega
    case rel => exact ⟨3, by omega, by go_num, (Ob.out.next HX2.out ⟨_, aimL_get s 2 (by omega)⟩).set 4 (aimLo s 2) (aimHi s 2) (by omega) (aimL_len _ _) (aimL_len _ _) (aimL_step s (k := 2) (by omega)).1 (aimL_step s (k := 2) (by omega)).2.1 (aimL_step s (k := 2) (by omega)).2.2⟩
  ·obtain rfl : k = 3 := by omega
   have b0 : wr.cell? ⟨w.heap.size + 1 + 1, 0, none⟩ = some (.int .i64 (aimLo s 0)) := Ob.out.c 0 _ (by rw [aimL_get s 3 (by omega)]; rfl)
   have b1 : wr.cell? ⟨w.heap.size + 1 + 1, 1, none⟩ = some (.int .i64 (aimHi s 0)) := Ob.out.c 1 _ (by rw [aimL_get s 3 (by omega)]; rfl)
   have b2 : wr.cell? ⟨w.heap.size + 1 + 1, 2, none⟩ = some (.int .i64 (aimLo s 1)) := Ob.out.c 2 _ (by rw [aimL_get s 3 (by omega)]; rfl)
   have b3 : wr.cell? ⟨w.heap.size + 1 + 1, 3, none⟩ = some (.int .i64 (aimHi s 1)) := Ob.out.c 3 _ (by rw [aimL_get s 3 (by omega)]; rfl)
   have b4 : wr.cell? ⟨w.heap.size + 1 + 1, 4, none⟩ = some (.int .i64 (aimLo s 2)) := Ob.out.c 4 _ (by rw [aimL_get s 3 (by omega)]; rfl)
   have b5 : wr.cell? ⟨w.heap.size + 1 + 1, 5, none⟩ = some (.int .i64 (aimHi s 2)) := Ob.out.c 5 _ (by rw [aimL_get s 3 (by omega)]; rfl)
   have z0 : wr.cell? ⟨w.heap.size + 1, 0, none⟩ = some (.int .i64 0) := Turned.cell Ob.out.turned (by simp <;> omega) (Hr0.out 0 (by omega))
   have y0 : wr.frozen? ⟨w.heap.size + 1, 0, none⟩ = false := (Turned.frozen Ob.out.turned (by simp <;> omega) (by simp; omega)).trans (Hq0.out 0 (by omega))
   have z1 : wr.cell? ⟨w.heap.size + 1, 1, none⟩ = some (.int .i64 0) := Turned.cell Ob.out.turned (by simp <;> omega) (Hr0.out 1 (by omega))
   have y1 : wr.frozen? ⟨w.heap.size + 1, 1, none⟩ = false := (Turned.frozen Ob.out.turned (by simp <;> omega) (by simp; omega)).trans (Hq0.out 1 (by omega))
   have z2 : wr.cell? ⟨w.heap.size + 1, 2, none⟩ = some (.int .i64 0) := Turned.cell Ob.out.turned (by simp <;> omega) (Hr0.out 2 (by omega))
   have y2 : wr.frozen? ⟨w.heap.size + 1, 2, none⟩ = false := (Turned.frozen Ob.out.turned (by simp <;> omega) (by simp; omega)).trans (Hq0.out 2 (by omega))
   have z3 : wr.cell? ⟨w.heap.size + 1, 3, none⟩ = some (.int .i64 0) := Turned.cell Ob.out.turned (by simp <;> omega) (Hr0.out 3 (by omega))
   have y3 : wr.frozen? ⟨w.heap.size + 1, 3, none⟩ = false := (Turned.frozen Ob.out.turned (by simp <;> omega) (by simp; omega)).trans (Hq0.out 3 (by omega))
   have z4 : wr.cell? ⟨w.heap.size + 1, 4, none⟩ = some (.int .i64 0) := Turned.cell Ob.out.turned (by simp <;> omega) (Hr0.out 4 (by omega))
   have y4 : wr.frozen? ⟨w.heap.size + 1, 4, none⟩ = false := (Turned.frozen Ob.out.turned (by simp <;> omega) (by simp; omega)).trans (Hq0.out 4 (by omega))
   have z5 : wr.cell? ⟨w.heap.size + 1, 5, none⟩ = some (.int .i64 0) := Turned.cell Ob.out.turned (by simp <;> omega) (Hr0.out 5 (by omega))
   have y5 : wr.frozen? ⟨w.heap.size + 1, 5, none⟩ = false := (Turned.frozen Ob.out.turned (by simp <;> omega) (by simp; omega)).trans (Hq0.out 5 (by omega))
   have hEw : Ext w wr := ext_own HE0.out Ob.out.turned (by omega)
   have HEw := Lib.hid hEw
   clear hEw Ob
   go_wp2
   refine bodyPost_ret (v := aimV s) (results_cells (n := 6) rfl (by kernel_rfl) (by kernel_rfl) _ (w.heap.size + 1) [.int .i64 (aimLo s 0), .int .i64 (aimHi s 0), .int .i64 (aimLo s 1), .int .i64 (aimHi s 1), .int .i64 (aimLo s 2), .int .i64 (aimHi s 2)] rfl (by simp) (fun j v hv => ?_)) (by simp) ⟨rfl, ?_⟩
   ·match j, hv with
    | 0, hv => cases hv; go_simp
    | 1, hv => cases hv; go_simp
    | 2, hv => cases hv; go_simp
    | 3, hv => cases hv; go_simp
    | 4, hv => cases hv; go_simp
    | 5, hv => cases hv; go_simp
   ·exact ext_set (ext_set (ext_set (ext_set (ext_set (ext_set HEw.out (by omega)) (by omega)) (by omega)) (by omega)) (by omega)) (by omega)

end Go.Proofs.YtjpekonfjihcoaaGreatDoor
