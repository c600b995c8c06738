/- Contracts and mathematics, joined: Lift2, Sums, Has2. Conditions stand with each. -/
import Derived.Below
import Derived.BigQuiet
import Derived.Deep.DeepCutAuto
import Derived.Deep.DeepFit
import Derived.Deep.LoopGhost
import Derived.Deep.QuietTactic
import Derived.Deep.RegionHeld
import Derived.Deep.RegionHeld3
import Derived.Deep.RegionWith
import Derived.Laws.EntriesVeiled
import Derived.Lib.Hide
import Derived.OrdersHeld
import Derived.Test.YtjpekonfjihcoaaGreatDoorProg
import Derived.WalkKit
import Derived.WalkLawsBesides
import Derived.WalkSpells
import Derived.Test.YtjpekonfjihcoaaGreatDoorM2
import Derived.Test.YtjpekonfjihcoaaGreatDoorM4
import Derived.Test.YtjpekonfjihcoaaGreatDoorM3
import Derived.Test.YtjpekonfjihcoaaGreatDoorM1
namespace Go.TintM
end Go.TintM
set_option maxRecDepth 100000
set_option maxHeartbeats 64000000
set_option linter.unusedVariables false
set_option linter.unusedSimpArgs false
/- Sheets and mixtures as defined, both ways. No condition. -/
namespace Go.Proofs.YtjpekonfjihcoaaGreatDoor
open Go.RowKit Go.My Go.TintM

theorem tinP_up {t : List Nat} {p : Nat} (h : tlo t p ≤ thi t p ∧ thi t p ≤ 99) : tinP p (upL t) = true := by
 have e : ∀ j, (upL t).getD j 0 = ((t.getD j 0 : Nat) : Int) := fun j => by
  simp only [upL, List.getD_eq_getElem?_getD, List.getElem?_map]
  cases t[j]? <;> rfl
 simp only [tlo, thi] at h
 rw [tinP, e, e, spanB_iff]
 omega
theorem sheet_of {s : Sh} (g : Fine s) : sheetB (ofSh s) = true := by
 have hcol : ∀ p, p < 3 → colB (ofSh s) p = true := fun p hp => by
  have h1 := g.old p hp
  have h2 := g.flo p hp
  have h3 := g.fhi p hp
  simp only [colB, Bool.and_eq_true, spanB_iff, inB_iff, ofSh_old s hp, ofSh_lo s hp, ofSh_hi s hp]
  refine ⟨by omega, by omega, ?_⟩
  rw [List.all_eq_true]
  intro t ht
  obtain ⟨u, hu, rfl⟩ := List.mem_map.1 ht
  exact tinP_up (g.tin u hu p hp)
 rw [sheetB_rest hcol]
 have h1 := g.ylo
 have h2 := g.yhi
 have h3 := g.off1
 have h4 := g.off2
 have h5 := g.len1
 have h6 := g.len2
 simp only [restB, Bool.and_eq_true, spanB_iff, inB_iff, tins_len]
 simp only [ofSh]
 omega
theorem mix_of {s : Sh} {m : List Nat} (h : IsMix s m) : mixB (ofSh s) (upL m) = true := by
 have h1 := h.pos
 have h2 := h.sum
 simp only [mixB, Bool.and_eq_true, decide_eq_true_eq, inB_iff, upL_length, tins_len, sum_up]
 refine ⟨h.len, ?_, by omega, by omega⟩
 rw [List.all_eq_true]
 intro x hx
 obtain ⟨n, hn, rfl⟩ := List.mem_map.1 hx
 have := h.le n hn
 rw [in8, inB_iff]; omega
theorem upL_lift : ∀ {l : List Int}, (∀ x ∈ l, 0 ≤ x) → ∃ m : List Nat, l = upL m
 | [], _ => ⟨[], rfl⟩
 | x :: l, h => by
  obtain ⟨m, rfl⟩ := upL_lift (fun y hy => h y (List.mem_cons_of_mem _ hy))
  have := h x List.mem_cons_self
  exact ⟨x.toNat :: m, by simp only [upL, List.map_cons, List.cons.injEq, and_true]; omega⟩
theorem mix_lift {s : Sh} {l : List Int} (h : mixB (ofSh s) l = true) : ∃ m, l = upL m ∧ IsMix s m := by
 simp only [mixB, Bool.and_eq_true, decide_eq_true_eq, inB_iff, tins_len] at h
 obtain ⟨h1, h2, h3⟩ := h
 have h8 : ∀ x ∈ l, 0 ≤ x ∧ x ≤ 8 := fun x hx => by have := List.all_eq_true.1 h2 x hx; rwa [in8, inB_iff] at this
 obtain ⟨m, rfl⟩ := upL_lift fun x hx => (h8 x hx).1
 rw [upL_length] at h1
 rw [sum_up] at h3
 exact ⟨m, rfl, h1, fun n hn => by have := (h8 n (List.mem_map.2 ⟨n, hn, rfl⟩)).2; omega, by omega, by omega⟩

/-- Three spans of nought. -/
abbrev noSpans : Value := .agg #[.int .i64 0, .int .i64 0, .int .i64 0, .int .i64 0, .int .i64 0, .int .i64 0]

theorem sAim_bad (s : SI) (ot : Option Addr) (cap : Nat) (w : World) (h : TinsAt w ot s.tins) (hl : s.tins.length ≤ 9223372036854775807) (hb : sheetB s = false) :
  Calls Tryz.prog 33 #[sheetV s ot cap] w fun e w' => e = .returned (.tuple #[noSpans, .int .i64 2]) ∧ Ext w w' := by
 have R := Lib.hid (fun W (hW : Ext w W) => isSheet_any s ot cap W (h.ext hW) hl)
 rw [hb] at R
 clear h hb
 go_enter Tryz.func33, Tryz.ntmps33
 go_wp2_with (first | (go_at_call 72; refine (R.out _ (((Ext.refl w).alloc _).alloc _)).mono ?_; rintro e w1 ⟨rfl, hE1⟩; have HE1 := Lib.hid hE1; have z0 := cell_ext (p := ⟨w.heap.size + 1, 0, none⟩) (v := .int .i64 0) hE1 (by go_simp); have z1 := cell_ext (p := ⟨w.heap.size + 1, 1, none⟩) (v := .int .i64 0) hE1 (by go_simp); have z2 := cell_ext (p := ⟨w.heap.size + 1, 2, none⟩) (v := .int .i64 0) hE1 (by go_simp); have z3 := cell_ext (p := ⟨w.heap.size + 1, 3, none⟩) (v := .int .i64 0) hE1 (by go_simp); have z4 := cell_ext (p := ⟨w.heap.size + 1, 4, none⟩) (v := .int .i64 0) hE1 (by go_simp); have z5 := cell_ext (p := ⟨w.heap.size + 1, 5, none⟩) (v := .int .i64 0) hE1 (by go_simp); have hf : ∀ j, w1.frozen? ⟨w.heap.size + 1, j, none⟩ = false := (fun j => (hE1.frozen (by simp)).trans (by go_simp)); have f0 := hf 0; have f1 := hf 1; have f2 := hf 2; have f3 := hf 3; have f4 := hf 4; have f5 := hf 5; clear hf hE1))
 refine bodyPost_ret (v := .tuple #[noSpans, .int .i64 2]) (results_cellst (n := 6) rfl (by kernel_rfl) (by kernel_rfl) _ (w.heap.size + 1) [.int .i64 0, .int .i64 0, .int .i64 0, .int .i64 0, .int .i64 0, .int .i64 0] _ rfl (by simp) (by simp) (fun j v hv => ?_)) (by simp) ⟨rfl, ?_⟩
 ·match j, hv with
  | 0, hv => cases hv; go_simp
  | 1, hv => cases hv; go_simp
  | 2, hv => cases hv; go_simp
  | 3, hv => cases hv; go_simp
  | 4, hv => cases hv; go_simp
  | 5, hv => cases hv; go_simp
 ·have hE := (((Ext.refl w).alloc (.cells (sheetC s ot cap) 28)).alloc (.cells #[.int .i64 0, .int .i64 0, .int .i64 0, .int .i64 0, .int .i64 0, .int .i64 0] 25)).trans HE1.out
  exact ext_set (ext_set (ext_set (ext_set (ext_set (ext_set hE (by omega)) (by omega)) (by omega)) (by omega)) (by omega)) (by omega)

end Go.Proofs.YtjpekonfjihcoaaGreatDoor
/- Contracts: Aim, Sums. No condition beyond lists of at most 1000 numbers. -/
namespace Go.Proofs.YtjpekonfjihcoaaGreatDoor
open Go.RowKit Go.My Go.TintM


theorem sAim_ok (s : Sh) (g : Fine s) (ot : Option Addr) (cap : Nat) (w : World) (h : TinsAt w ot (ofSh s).tins) :
  Calls Tryz.prog 33 #[sheetV (ofSh s) ot cap] w fun e w' => e = .returned (.tuple #[aimV s, .int .i64 0]) ∧ Ext w w' := by
 have hl : (ofSh s).tins.length ≤ 9223372036854775807 := by rw [tins_len]; have := g.len2; omega
 have R72 := Lib.hid (fun W (hW : Ext w W) => isSheet_any (ofSh s) ot cap W (h.ext hW) hl)
 rw [sheet_of g] at R72
 have R86 := Lib.hid (fun W => aim_any s g ot cap W)
 clear h hl g
 obtain ⟨x0, hx0⟩ : ∃ x, x = aimLo s 0 := ⟨_, rfl⟩
 go_enter Tryz.func33, Tryz.ntmps33
 go_wp2_with (first | (go_at_call 72; refine (R72.out _ (((Ext.refl w).alloc _).alloc _)).mono ?_; rintro e w1 ⟨rfl, hE1⟩; have HE1 := Lib.hid ((((Ext.refl w).alloc _).alloc _).trans hE1); have z0 := cell_ext (p := ⟨w.heap.size + 1, 0, none⟩) (v := .int .i64 0) hE1 (by go_simp); have z1 := cell_ext (p := ⟨w.heap.size + 1, 1, none⟩) (v := .int .i64 0) hE1 (by go_simp); have z2 := cell_ext (p := ⟨w.heap.size + 1, 2, none⟩) (v := .int .i64 0) hE1 (by go_simp); have z3 := cell_ext (p := ⟨w.heap.size + 1, 3, none⟩) (v := .int .i64 0) hE1 (by go_simp); have z4 := cell_ext (p := ⟨w.heap.size + 1, 4, none⟩) (v := .int .i64 0) hE1 (by go_simp); have z5 := cell_ext (p := ⟨w.heap.size + 1, 5, none⟩) (v := .int .i64 0) hE1 (by go_simp); have hf : ∀ j, w1.frozen? ⟨w.heap.size + 1, j, none⟩ = false := (fun j => (hE1.frozen (by simp)).trans (by go_simp)); have f0 := hf 0; have f1 := hf 1; have f2 := hf 2; have f3 := hf 3; have f4 := hf 4; have f5 := hf 5; have c0 := cell_ext (p := ⟨w.heap.size, 0, none⟩) (v := .int .i64 (ofSh s).o0) hE1 (by go_simp); have c1 := cell_ext (p := ⟨w.heap.size, 1, none⟩) (v := .int .i64 (ofSh s).o1) hE1 (by go_simp); have c2 := cell_ext (p := ⟨w.heap.size, 2, none⟩) (v := .int .i64 (ofSh s).o2) hE1 (by go_simp); have c3 := cell_ext (p := ⟨w.heap.size, 3, none⟩) (v := .int .i64 (ofSh s).a0) hE1 (by go_simp); have c4 := cell_ext (p := ⟨w.heap.size, 4, none⟩) (v := .int .i64 (ofSh s).b0) hE1 (by go_simp); have c5 := cell_ext (p := ⟨w.heap.size, 5, none⟩) (v := .int .i64 (ofSh s).a1) hE1 (by go_simp); have c6 := cell_ext (p := ⟨w.heap.size, 6, none⟩) (v := .int .i64 (ofSh s).b1) hE1 (by go_simp); have c7 := cell_ext (p := ⟨w.heap.size, 7, none⟩) (v := .int .i64 (ofSh s).a2) hE1 (by go_simp); have c8 := cell_ext (p := ⟨w.heap.size, 8, none⟩) (v := .int .i64 (ofSh s).b2) hE1 (by go_simp); have c9 := cell_ext (p := ⟨w.heap.size, 9, none⟩) (v := .int .i64 (ofSh s).ylo) hE1 (by go_simp); have c10 := cell_ext (p := ⟨w.heap.size, 10, none⟩) (v := .int .i64 (ofSh s).yhi) hE1 (by go_simp); have c11 := cell_ext (p := ⟨w.heap.size, 11, none⟩) (v := .int .i64 (ofSh s).off) hE1 (by go_simp); have c12 := cell_ext (p := ⟨w.heap.size, 12, none⟩) (v := .slice ot (ofSh s).tins.length cap) hE1 (by go_simp); clear hf hE1) | (go_at_call 86; refine (R86.out _).mono ?_; rintro e w2 ⟨rfl, hE2⟩; have y0 := z0; have y1 := z1; have y2 := z2; have y3 := z3; have y4 := z4; have y5 := z5; replace z0 := cell_ext hE2 z0; replace f0 := (hE2.frozen (World.block_lt_of_cell? _ _ y0)).trans f0; replace z1 := cell_ext hE2 z1; replace f1 := (hE2.frozen (World.block_lt_of_cell? _ _ y1)).trans f1; replace z2 := cell_ext hE2 z2; replace f2 := (hE2.frozen (World.block_lt_of_cell? _ _ y2)).trans f2; replace z3 := cell_ext hE2 z3; replace f3 := (hE2.frozen (World.block_lt_of_cell? _ _ y3)).trans f3; replace z4 := cell_ext hE2 z4; replace f4 := (hE2.frozen (World.block_lt_of_cell? _ _ y4)).trans f4; replace z5 := cell_ext hE2 z5; replace f5 := (hE2.frozen (World.block_lt_of_cell? _ _ y5)).trans f5; clear y0 y1 y2 y3 y4 y5; replace HE1 := Lib.hid (HE1.out.trans hE2); clear hE2))
 refine bodyPost_ret (v := .tuple #[aimV s, .int .i64 0]) (results_cellst (n := 6) rfl (by kernel_rfl) (by kernel_rfl) _ (w.heap.size + 1) [.int .i64 (aimLo s 0), .int .i64 (aimHi s 0), .int .i64 (aimLo s 1), .int .i64 (aimHi s 1), .int .i64 (aimLo s 2), .int .i64 (aimHi s 2)] _ rfl (by simp) (by simp) (fun j v hv => ?_)) (by simp) ⟨rfl, ?_⟩
 ·match j, hv with
  | 0, hv => cases hv; go_simp
  | 1, hv => cases hv; go_simp
  | 2, hv => cases hv; go_simp
  | 3, hv => cases hv; go_simp
  | 4, hv => cases hv; go_simp
  | 5, hv => cases hv; go_simp
 ·exact ext_set (ext_set (ext_set (ext_set (ext_set (ext_set HE1.out (by omega)) (by omega)) (by omega)) (by omega)) (by omega)) (by omega)

end Go.Proofs.YtjpekonfjihcoaaGreatDoor
/- Contract: has. No condition beyond sheets and mixtures as defined. -/
namespace Go.Proofs.YtjpekonfjihcoaaGreatDoor
open Go.RowKit Go.My Go.TintM

theorem has_any (s : Sh) (g : Fine s) (m : List Nat) (hm : IsMix s m) (ot : Option Addr) (cap : Nat) (om : Option Addr) (cm p : Nat) (hp : p < 3) (w : World) (h : TinsAt w ot (ofSh s).tins) (hi : IntsAt w om (upL m)) :
  Calls Tryz.prog 87 #[potV s ot cap om m.length cm, .int .i64 p] w fun e w' => e = .returned (spanV (lowS s m p : Nat) (highS s m p : Nat)) ∧ Ext w w' := by
 have R1 := Lib.hid (fun W (hW : Ext w W) => least_any s g m hm ot cap om cm p hp W (h.ext hW) (hi.ext hW))
 have R2 := Lib.hid (fun W (hW : Ext w W) => greatest_any s g m hm ot cap om cm p hp W (h.ext hW) (hi.ext hW))
 clear h hi hm g
 obtain ⟨L, hL⟩ : ∃ L, L = lowS s m p := ⟨_, rfl⟩
 obtain ⟨H, hH⟩ : ∃ H, H = highS s m p := ⟨_, rfl⟩
 rw [← hL] at R1
 rw [← hH] at R2
 have HL := Lib.hid hL
 have HH := Lib.hid hH
 clear hL hH
 go_enter Tryz.func87, Tryz.ntmps87
 go_wp2_with fail
 obtain ⟨wr, hwr⟩ : ∃ wr, wr = ((w.alloc (.cells (potC s ot cap om m.length cm) 108)).alloc (.cells #[.int .i64 0, .int .i64 0] 24)).alloc (.cells #[.func (.func 121) #[potV s ot cap om m.length cm] #[], .func (.func 122) #[potV s ot cap om m.length cm] #[]] 151) := ⟨_, rfl⟩
 have hE : Ext w wr := by rw [hwr]; exact (((Ext.refl w).alloc _).alloc _).alloc _
 have e2 : wr.cell? ⟨w.heap.size + 1 + 1, 0, none⟩ = some (.func (.func 121) #[potV s ot cap om m.length cm] #[]) := by rw [hwr]; go_simp
 have e3 : wr.cell? ⟨w.heap.size + 1 + 1, 1, none⟩ = some (.func (.func 122) #[potV s ot cap om m.length cm] #[]) := by rw [hwr]; go_simp
 have z0 : wr.cell? ⟨w.heap.size + 1, 0, none⟩ = some (.int .i64 0) := by rw [hwr]; go_simp
 have z1 : wr.cell? ⟨w.heap.size + 1, 1, none⟩ = some (.int .i64 0) := by rw [hwr]; go_simp
 have y0 : wr.frozen? ⟨w.heap.size + 1, 0, none⟩ = false := by rw [hwr]; go_simp
 have y1 : wr.frozen? ⟨w.heap.size + 1, 1, none⟩ = false := by rw [hwr]; go_simp
 rw [← hwr]
 clear hwr
 have HE := Lib.hid hE
 clear hE
 refine wp_region_plan (.take 0 <| .take 1 <| .take 2 <| .take 4 <| .take 5 <| .take 6 <| .only 3 <| .only 7 <| .take 8 <| .only 9 <| .done) (fun W => Turned (w.heap.size + 1) wr W) mixed (by kernel_rfl) (by kernel_rfl) rfl (fun _ _ d _ _ h => by cases d <;> exact h) (Turned.of_ext (Ext.refl wr).drew) ?_
 repeat ((first | (refine plan_take (v := ?_) rfl rfl (fun W hW => ?_) ?_; rotate_left; (focus (have d2 := Turned.cell hW (by simp) e2; have d3 := Turned.cell hW (by simp) e3; go_simp; first | exact rfl | (split <;> first | exact rfl | (exfalso; omega)) | done))) | refine plan_skip rfl rfl ?_); simp only [puts])
 clear e2 e3
 refine plan_walk rfl ?_; intro K hK
 go_wp2_with (first | (go_at_call 121; refine (R1.out _ HE.out.drew).mono ?_; rintro e w1 ⟨rfl, hE1⟩))
 have hX1 := (Ext.refl wr).drew.trans hE1
 refine hK _ _ (Turned.of_ext hX1) ?_
 refine plan_walk rfl ?_; intro K hK
 go_wp2_with (first | (go_at_call 122; refine (R2.out _ (HE.out.trans hX1)).mono ?_; rintro e w2 ⟨rfl, hE2⟩))
 have hX2 := hX1.trans hE2
 refine hK _ _ (Turned.of_ext hX2) ?_
 repeat ((first | (refine plan_take (v := ?_) rfl rfl (fun W hW => ?_) ?_; rotate_left; (focus (skip; go_simp; first | exact rfl | (split <;> first | exact rfl | (exfalso; omega)) | done))) | refine plan_skip rfl rfl ?_); simp only [puts])
 refine plan_walk rfl ?_; intro K hK
 have z0' := cell_ext hX2 z0
 have z1' := cell_ext hX2 z1
 have y0' := (hX2.frozen (World.block_lt_of_cell? _ _ z0)).trans y0
 have y1' := (hX2.frozen (World.block_lt_of_cell? _ _ z1)).trans y1
 have HX2 := Lib.hid hX2
 clear hX2 hX1 hE1 hE2 z0 z1 y0 y1
 go_wp2
 refine hK _ _ (((Turned.of_ext HX2.out).set 0 _).set 1 _) ?_
 refine plan_done ?_
 go_wp2
 refine bodyPost_ret (v := spanV L H) (results_cells (n := 2) rfl (by kernel_rfl) (by kernel_rfl) _ (w.heap.size + 1) [.int .i64 L, .int .i64 H] rfl (by simp) (fun j v hv => ?_)) (by simp) ⟨by rw [HL.out, HH.out], ext_own (ext_own (HE.out.trans HX2.out) ((Turned.refl (w.heap.size + 1) _).set 0 _) (by omega)) ((Turned.refl (w.heap.size + 1) _).set 1 _) (by omega)⟩
 match j, hv with
 | 0, hv => cases hv; go_simp
 | 1, hv => cases hv; go_simp

end Go.Proofs.YtjpekonfjihcoaaGreatDoor
