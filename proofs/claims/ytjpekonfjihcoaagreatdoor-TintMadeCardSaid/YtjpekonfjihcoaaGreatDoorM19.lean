/- Contracts and mathematics, joined: Words2, RefTruth, RefTrue, IsTruth. Conditions stand with each. -/
import Derived.Below
import Derived.BigQuiet
import Derived.Deep.DeepCutAuto
import Derived.Deep.DeepFit
import Derived.Deep.LoopGhost
import Derived.Deep.QuietTactic
import Derived.Deep.RegionHeld
import Derived.Deep.RegionHeld3
import Derived.Deep.RegionWith
import Derived.Laws.EntriesVeiled
import Derived.Lib.Hide
import Derived.Maps.Keyed
import Derived.OrdersHeld
import Derived.Test.YtjpekonfjihcoaaGreatDoorProg
import Derived.WalkKit
import Derived.WalkLawsBesides
import Derived.WalkSpells
import Derived.Test.YtjpekonfjihcoaaGreatDoorM2
import Derived.Test.YtjpekonfjihcoaaGreatDoorM5
import Derived.Test.YtjpekonfjihcoaaGreatDoorM4
import Derived.Test.YtjpekonfjihcoaaGreatDoorM16
import Derived.Test.YtjpekonfjihcoaaGreatDoorM3
import Derived.Test.YtjpekonfjihcoaaGreatDoorM10
import Derived.Test.YtjpekonfjihcoaaGreatDoorM1
import Derived.Test.YtjpekonfjihcoaaGreatDoorM17
namespace Go.TintM
end Go.TintM
set_option maxRecDepth 100000
set_option maxHeartbeats 64000000
set_option linter.unusedVariables false
set_option linter.unusedSimpArgs false
/- Contract: Years. No condition beyond lists of at most 1000 numbers. -/
namespace Go.Proofs.YtjpekonfjihcoaaGreatDoor
open Go.RowKit Go.My Go.TintM

theorem zs_new1 (w : World) (o : Obj) : ZS ((w.alloc o).alloc (.cells #[.int .i64 0, .int .i64 0] 24)) (w.heap.size + 1) := by
 have := ZS.new (w.alloc o)
 simpa only [World.size_alloc] using this


theorem sYears_bad (S : SI) (ot : Option Addr) (cap : Nat) (l : List Int) (ol : Option Addr) (cl : Nat) (w : World) (h : TinsAt w ot S.tins) (hl : S.tins.length ≤ 9223372036854775807) (hi : IntsAt w ol l) (hll : l.length ≤ 1000) (hb : (sheetB S && mixB S l) = false) :
  Calls Tryz.prog 29 #[sheetV S ot cap, .slice ol l.length cl] w fun e w' => e = .returned (.tuple #[spanV 0 0, .int .i64 2]) ∧ Ext w w' := by
 have R72 := Lib.hid (fun W (hW : Ext w W) => isSheet_any S ot cap W (h.ext hW) hl)
 have R73 := Lib.hid (fun W (hW : Ext w W) => isMix_any S ot cap l ol cl W (hi.ext hW) hll)
 obtain ⟨EE, hEE⟩ : ∃ EE : Int, EE = 2 := ⟨_, rfl⟩
 clear h hi hl hll
 subst hEE
 cases h1 : sheetB S
 ·rw [h1] at R72
  clear h1 hb R73
  go_enter Tryz.func29, Tryz.ntmps29
  go_wp2_with (first | (go_at_call 72; refine (R72.out _ (((Ext.refl w).alloc _).alloc _)).mono ?_; rintro e w1 ⟨rfl, hE1⟩; have HE1 := Lib.hid ((((Ext.refl w).alloc (.cells (sheetC S ot cap) 28)).alloc (.cells #[.int .i64 0, .int .i64 0] 24)).trans hE1); have HS := Lib.hid (((SheetBox.new w S ot cap).ext ((Ext.refl _).alloc (.cells #[.int .i64 0, .int .i64 0] 24))).ext hE1); have HZ := Lib.hid ((zs_new1 w (.cells (sheetC S ot cap) 28)).ext hE1); clear hE1; have c0 := HS.out 0 _ rfl; have c1 := HS.out 1 _ rfl; have c2 := HS.out 2 _ rfl; have c3 := HS.out 3 _ rfl; have c4 := HS.out 4 _ rfl; have c5 := HS.out 5 _ rfl; have c6 := HS.out 6 _ rfl; have c7 := HS.out 7 _ rfl; have c8 := HS.out 8 _ rfl; have c9 := HS.out 9 _ rfl; have c10 := HS.out 10 _ rfl; have c11 := HS.out 11 _ rfl; have c12 := HS.out 12 _ rfl; have z0 := HZ.out.c0; have z1 := HZ.out.c1; have y0 := HZ.out.f0; have y1 := HZ.out.f1))
  refine bodyPost_ret (v := .tuple #[spanV 0 0, .int .i64 2]) (results_cellst (n := 2) rfl (by kernel_rfl) (by kernel_rfl) _ (w.heap.size + 1) [.int .i64 0, .int .i64 0] _ rfl (by simp) (by simp) (fun j v hv => ?_)) (by simp) ⟨rfl, ext_set (ext_set HE1.out (by omega)) (by omega)⟩
  match j, hv with
  | 0, hv => cases hv; go_simp
  | 1, hv => cases hv; go_simp
 ·rw [h1] at R72 hb
  rw [Bool.true_and] at hb
  rw [hb] at R73
  clear h1 hb
  go_enter Tryz.func29, Tryz.ntmps29
  go_wp2_with (first | (go_at_call 72; refine (R72.out _ (((Ext.refl w).alloc _).alloc _)).mono ?_; rintro e w1 ⟨rfl, hE1⟩; have HE1 := Lib.hid ((((Ext.refl w).alloc (.cells (sheetC S ot cap) 28)).alloc (.cells #[.int .i64 0, .int .i64 0] 24)).trans hE1); have HS := Lib.hid (((SheetBox.new w S ot cap).ext ((Ext.refl _).alloc (.cells #[.int .i64 0, .int .i64 0] 24))).ext hE1); have HZ := Lib.hid ((zs_new1 w (.cells (sheetC S ot cap) 28)).ext hE1); clear hE1; have c0 := HS.out 0 _ rfl; have c1 := HS.out 1 _ rfl; have c2 := HS.out 2 _ rfl; have c3 := HS.out 3 _ rfl; have c4 := HS.out 4 _ rfl; have c5 := HS.out 5 _ rfl; have c6 := HS.out 6 _ rfl; have c7 := HS.out 7 _ rfl; have c8 := HS.out 8 _ rfl; have c9 := HS.out 9 _ rfl; have c10 := HS.out 10 _ rfl; have c11 := HS.out 11 _ rfl; have c12 := HS.out 12 _ rfl; have z0 := HZ.out.c0; have z1 := HZ.out.c1; have y0 := HZ.out.f0; have y1 := HZ.out.f1) | (go_at_call 73; refine (R73.out _ HE1.out).mono ?_; rintro e w2 ⟨rfl, hE2⟩; replace HS := Lib.hid (HS.out.ext hE2); replace HZ := Lib.hid (HZ.out.ext hE2); clear c0 c1 c2 c3 c4 c5 c6 c7 c8 c9 c10 c11 c12; clear z0 z1 y0 y1; have c0 := HS.out 0 _ rfl; have c1 := HS.out 1 _ rfl; have c2 := HS.out 2 _ rfl; have c3 := HS.out 3 _ rfl; have c4 := HS.out 4 _ rfl; have c5 := HS.out 5 _ rfl; have c6 := HS.out 6 _ rfl; have c7 := HS.out 7 _ rfl; have c8 := HS.out 8 _ rfl; have c9 := HS.out 9 _ rfl; have c10 := HS.out 10 _ rfl; have c11 := HS.out 11 _ rfl; have c12 := HS.out 12 _ rfl; have z0 := HZ.out.c0; have z1 := HZ.out.c1; have y0 := HZ.out.f0; have y1 := HZ.out.f1; replace HE1 := Lib.hid (HE1.out.trans hE2); clear hE2))
  refine bodyPost_ret (v := .tuple #[spanV 0 0, .int .i64 2]) (results_cellst (n := 2) rfl (by kernel_rfl) (by kernel_rfl) _ (w.heap.size + 1) [.int .i64 0, .int .i64 0] _ rfl (by simp) (by simp) (fun j v hv => ?_)) (by simp) ⟨rfl, ext_set (ext_set HE1.out (by omega)) (by omega)⟩
  match j, hv with
  | 0, hv => cases hv; go_simp
  | 1, hv => cases hv; go_simp

/-- The least and the greatest year, or the error. -/
def yearsV (Y : List Nat) : Value := if Y.length = 0 then .tuple #[spanV 0 0, .int .i64 5] else .tuple #[spanV (Y.getD 0 0 : Nat) (Y.getD (Y.length - 1) 0 : Nat), .int .i64 0]
theorem yearsV_none {Y : List Nat} (h : Y.length = 0) : yearsV Y = .tuple #[spanV 0 0, .int .i64 5] := if_pos h
theorem yearsV_some {Y : List Nat} (h : ¬ Y.length = 0) : yearsV Y = .tuple #[spanV (Y.getD 0 0 : Nat) (Y.getD (Y.length - 1) 0 : Nat), .int .i64 0] := if_neg h
theorem fresh_ends {B : Nat} {W : World} {oa : Option Addr} {Y : List Nat} (h : FreshAt B W oa (upL Y)) (h0 : ¬ Y.length = 0) : ∃ b, oa = some ⟨b, 0, none⟩ ∧ B ≤ b ∧ W.cell? ⟨b, 0, none⟩ = some (.int .i64 (Y.getD 0 0 : Nat)) ∧ W.cell? ⟨b, Y.length - 1, none⟩ = some (.int .i64 (Y.getD (Y.length - 1) 0 : Nat)) := by
 have e : ∀ k, k < Y.length → (upL Y)[k]? = some ((Y.getD k 0 : Nat) : Int) := fun k hk => by simp [upL, List.getD, hk]
 obtain ⟨b, h1, h2, h3⟩ := h 0 _ (e 0 (by omega))
 obtain ⟨b', h1', _, h3'⟩ := h (Y.length - 1) _ (e _ (by omega))
 rw [h1] at h1'
 cases h1'
 exact ⟨b, h1, h2, h3, h3'⟩

theorem sYears_ok (s : Sh) (g : Fine s) (m : List Nat) (hm : IsMix s m) (ot : Option Addr) (cap : Nat) (ol : Option Addr) (cl : Nat) (w : World) (h : TinsAt w ot (ofSh s).tins) (hi : IntsAt w ol (upL m)) :
  Calls Tryz.prog 29 #[sheetV (ofSh s) ot cap, .slice ol m.length cl] w fun e w' => e = .returned (yearsV (yearsOf s m)) ∧ Ext w w' := by
 have hl : (ofSh s).tins.length ≤ 9223372036854775807 := by rw [tins_len]; have := g.len2; omega
 have hll : (upL m).length ≤ 1000 := by rw [upL_length, hm.len]; have := g.len2; omega
 have R72 := Lib.hid (fun W (hW : Ext w W) => isSheet_any (ofSh s) ot cap W (h.ext hW) hl)
 rw [sheet_of g] at R72
 have R73 := Lib.hid (fun W (hW : Ext w W) => isMix_any (ofSh s) ot cap (upL m) ol cl W (hi.ext hW) hll)
 rw [mix_of hm, upL_length] at R73
 have R83 := Lib.hid (fun W (hW : Ext w W) => years_any s g m hm ot cap ol cl W (h.ext hW) (hi.ext hW))
 obtain ⟨S, hS⟩ : ∃ S, S = ofSh s := ⟨_, rfl⟩
 rw [← hS] at R72 R73 ⊢
 have HSS := Lib.hid hS
 have hlen : (yearsOf s m).length ≤ 21 := by
  have := yearsTo_len s m (s.yhi + 1 - s.ylo)
  rw [yearsTo_end] at this
  have := g.yhi
  omega
 clear h hi hl hll g hm hS
 generalize hY : yearsOf s m = Y at *
 clear hY
 by_cases hY0 : Y.length = 0
 ·have H0 := Lib.hid (yearsV_none hY0)
  go_enter Tryz.func29, Tryz.ntmps29
  go_wp2_with (first | (go_at_call 72; refine (R72.out _ (((Ext.refl w).alloc _).alloc _)).mono ?_; rintro e w1 ⟨rfl, hE1⟩; have HE1 := Lib.hid ((((Ext.refl w).alloc (.cells (sheetC S ot cap) 28)).alloc (.cells #[.int .i64 0, .int .i64 0] 24)).trans hE1); have HS := Lib.hid (((SheetBox.new w S ot cap).ext ((Ext.refl _).alloc (.cells #[.int .i64 0, .int .i64 0] 24))).ext hE1); have HZ := Lib.hid ((zs_new1 w (.cells (sheetC S ot cap) 28)).ext hE1); clear hE1; have c0 := HS.out 0 _ rfl; have c1 := HS.out 1 _ rfl; have c2 := HS.out 2 _ rfl; have c3 := HS.out 3 _ rfl; have c4 := HS.out 4 _ rfl; have c5 := HS.out 5 _ rfl; have c6 := HS.out 6 _ rfl; have c7 := HS.out 7 _ rfl; have c8 := HS.out 8 _ rfl; have c9 := HS.out 9 _ rfl; have c10 := HS.out 10 _ rfl; have c11 := HS.out 11 _ rfl; have c12 := HS.out 12 _ rfl; have z0 := HZ.out.c0; have z1 := HZ.out.c1; have y0 := HZ.out.f0; have y1 := HZ.out.f1) | (go_at_call 73; refine (R73.out _ HE1.out).mono ?_; rintro e w2 ⟨rfl, hE2⟩; replace HS := Lib.hid (HS.out.ext hE2); replace HZ := Lib.hid (HZ.out.ext hE2); clear c0 c1 c2 c3 c4 c5 c6 c7 c8 c9 c10 c11 c12; clear z0 z1 y0 y1; have c0 := HS.out 0 _ rfl; have c1 := HS.out 1 _ rfl; have c2 := HS.out 2 _ rfl; have c3 := HS.out 3 _ rfl; have c4 := HS.out 4 _ rfl; have c5 := HS.out 5 _ rfl; have c6 := HS.out 6 _ rfl; have c7 := HS.out 7 _ rfl; have c8 := HS.out 8 _ rfl; have c9 := HS.out 9 _ rfl; have c10 := HS.out 10 _ rfl; have c11 := HS.out 11 _ rfl; have c12 := HS.out 12 _ rfl; have z0 := HZ.out.c0; have z1 := HZ.out.c1; have y0 := HZ.out.f0; have y1 := HZ.out.f1; replace HE1 := Lib.hid (HE1.out.trans hE2); clear hE2) | (go_at_call 83; rw [HSS.out]; refine (R83.out _ HE1.out).mono ?_; rintro e w3 ⟨⟨oy, cy, rfl, hy⟩, hE3⟩; have HE3 := Lib.hid (HE1.out.trans hE3); replace HZ := Lib.hid (HZ.out.ext hE3); clear c0 c1 c2 c3 c4 c5 c6 c7 c8 c9 c10 c11 c12; clear z0 z1 y0 y1; have z0 := HZ.out.c0; have z1 := HZ.out.c1; have y0 := HZ.out.f0; have y1 := HZ.out.f1; clear hE3 hy))
  refine bodyPost_ret (v := .tuple #[spanV 0 0, .int .i64 5]) (results_cellst (n := 2) rfl (by kernel_rfl) (by kernel_rfl) _ (w.heap.size + 1) [.int .i64 0, .int .i64 0] _ rfl (by simp) (by simp) (fun j v hv => ?_)) (by simp) ⟨by rw [H0.out], ext_set (ext_set HE3.out (by omega)) (by omega)⟩
  match j, hv with
  | 0, hv => cases hv; go_simp
  | 1, hv => cases hv; go_simp
 ·have H0 := Lib.hid (yearsV_some hY0)
  have hYi : ¬ (Y.length : Int) = 0 := by omega
  go_enter Tryz.func29, Tryz.ntmps29
  go_wp2_with (first | (go_at_call 72; refine (R72.out _ (((Ext.refl w).alloc _).alloc _)).mono ?_; rintro e w1 ⟨rfl, hE1⟩; have HE1 := Lib.hid ((((Ext.refl w).alloc (.cells (sheetC S ot cap) 28)).alloc (.cells #[.int .i64 0, .int .i64 0] 24)).trans hE1); have HS := Lib.hid (((SheetBox.new w S ot cap).ext ((Ext.refl _).alloc (.cells #[.int .i64 0, .int .i64 0] 24))).ext hE1); have HZ := Lib.hid ((zs_new1 w (.cells (sheetC S ot cap) 28)).ext hE1); clear hE1; have c0 := HS.out 0 _ rfl; have c1 := HS.out 1 _ rfl; have c2 := HS.out 2 _ rfl; have c3 := HS.out 3 _ rfl; have c4 := HS.out 4 _ rfl; have c5 := HS.out 5 _ rfl; have c6 := HS.out 6 _ rfl; have c7 := HS.out 7 _ rfl; have c8 := HS.out 8 _ rfl; have c9 := HS.out 9 _ rfl; have c10 := HS.out 10 _ rfl; have c11 := HS.out 11 _ rfl; have c12 := HS.out 12 _ rfl; have z0 := HZ.out.c0; have z1 := HZ.out.c1; have y0 := HZ.out.f0; have y1 := HZ.out.f1) | (go_at_call 73; refine (R73.out _ HE1.out).mono ?_; rintro e w2 ⟨rfl, hE2⟩; replace HS := Lib.hid (HS.out.ext hE2); replace HZ := Lib.hid (HZ.out.ext hE2); clear c0 c1 c2 c3 c4 c5 c6 c7 c8 c9 c10 c11 c12; clear z0 z1 y0 y1; have c0 := HS.out 0 _ rfl; have c1 := HS.out 1 _ rfl; have c2 := HS.out 2 _ rfl; have c3 := HS.out 3 _ rfl; have c4 := HS.out 4 _ rfl; have c5 := HS.out 5 _ rfl; have c6 := HS.out 6 _ rfl; have c7 := HS.out 7 _ rfl; have c8 := HS.out 8 _ rfl; have c9 := HS.out 9 _ rfl; have c10 := HS.out 10 _ rfl; have c11 := HS.out 11 _ rfl; have c12 := HS.out 12 _ rfl; have z0 := HZ.out.c0; have z1 := HZ.out.c1; have y0 := HZ.out.f0; have y1 := HZ.out.f1; replace HE1 := Lib.hid (HE1.out.trans hE2); clear hE2) | (go_at_call 83; rw [HSS.out]; refine (R83.out _ HE1.out).mono ?_; rintro e w3 ⟨⟨oy, cy, rfl, hy⟩, hE3⟩; have hzb := World.block_lt_of_cell? _ _ z0; simp only at hzb; have HE3 := Lib.hid (HE1.out.trans hE3); replace HZ := Lib.hid (HZ.out.ext hE3); clear c0 c1 c2 c3 c4 c5 c6 c7 c8 c9 c10 c11 c12; clear z0 z1 y0 y1; have z0 := HZ.out.c0; have z1 := HZ.out.c1; have y0 := HZ.out.f0; have y1 := HZ.out.f1; have Hy := Lib.hid (fresh_ends hy hY0); clear hE3 hy))
  obtain ⟨bo, ho, hbl, u0, u1⟩ := Hy.out
  subst ho
  obtain ⟨N, hN⟩ : ∃ N, N = Y.length - 1 := ⟨_, rfl⟩
  rw [← hN] at u1 H0
  obtain ⟨K, hK⟩ : ∃ K, K = Y.length := ⟨_, rfl⟩
  rw [← hK] at hN hlen hYi hY0 ⊢
  have q1 : IntKind.i64.wrap ((K : Int) - 1) = (N : Int) := by rw [IntWalk.i64_in _ (by omega)]; omega
  have hNK : N < K := by omega
  have hNKi : (N : Int) < (K : Int) := by omega
  have hK0 : 0 < K := by omega
  have hK0i : (0 : Int) < (K : Int) := by omega
  clear hK hN Hy
  generalize Y.getD 0 0 = A at *
  generalize Y.getD N 0 = B at *
  refine wp_region_plan (.take 0 <| .take 1 <| .take 2 <| .take 3 <| .take 4 <| .take 5 <| .take 6 <| .take 7 <| .take 8 <| .take 9 <| .only 10 <| .take 11 <| .done) (fun W => Turned (w.heap.size + 1) w3 W) mixed (by kernel_rfl) (by kernel_rfl) rfl (fun _ _ d _ _ h => by cases d <;> exact h) (Turned.of_ext (Ext.refl w3).drew) ?_
  repeat ((first | (refine plan_take (v := ?_) rfl rfl (fun W hW => ?_) ?_; rotate_left; (focus (have d0 := Turned.cell hW (p := ⟨bo, 0, none⟩) (by simp; omega) u0; have d1 := Turned.cell hW (p := ⟨bo, N, none⟩) (by simp; omega) u1; go_simp; first | exact rfl | (split <;> first | exact rfl | (exfalso; omega)) | done))) | refine plan_skip rfl rfl ?_); simp only [puts])
  refine plan_walk rfl ?_; intro K hK
  have HZd := HZ.out.ext (Ext.refl w3).drew
  have z0' := HZd.c0
  have z1' := HZd.c1
  have y0' := HZd.f0
  have y1' := HZd.f1
  clear HZd
  go_wp2
  refine hK _ _ (((Turned.of_ext (Ext.refl w3).drew).set 0 _).set 1 _) ?_
  repeat ((first | (refine plan_take (v := ?_) rfl rfl (fun W hW => ?_) ?_; rotate_left; (focus (skip; go_simp; first | exact rfl | (split <;> first | exact rfl | (exfalso; omega)) | done))) | refine plan_skip rfl rfl ?_); simp only [puts])
  refine plan_done ?_
  go_wp2
  refine bodyPost_ret (v := .tuple #[spanV A B, .int .i64 0]) (results_cellst (n := 2) rfl (by kernel_rfl) (by kernel_rfl) _ (w.heap.size + 1) [.int .i64 A, .int .i64 B] _ rfl (by simp) (by simp) (fun j v hv => ?_)) (by simp) ⟨by rw [H0.out], ext_set (ext_set HE3.out.drew (by omega)) (by omega)⟩
  match j, hv with
  | 0, hv => cases hv; go_simp
  | 1, hv => cases hv; go_simp

end Go.Proofs.YtjpekonfjihcoaaGreatDoor
/- Contracts: the reference's Truth, Sum. No condition beyond sheets as defined. -/
namespace Go.Proofs.YtjpekonfjihcoaaGreatDoor
open Go.RowKit Go.My Go.TintM

theorem TrisAt.cell {w : World} {oa : Option Addr} {t : TI} (h : TrisAt w oa t.tins) {k p : Nat} (hk : k < t.tins.length) (hp : p < 3) : ∃ b off, oa = some ⟨b, off, none⟩ ∧ b < w.heap.size ∧ w.cell? ⟨b, off + k * 3 + p, none⟩ = some (.int .i64 (t.x k p)) := by
 obtain ⟨b, off, x0, x1, x2, h1, h2, h3, h4, h5, h6⟩ := h.at hk
 refine ⟨b, off, h1, h2, ?_⟩
 rw [h3 p hp]
 match p, hp with
 | 0, _ => exact h4
 | 1, _ => exact h5
 | 2, _ => exact h6

theorem rTruth_any (s : Sh) (g : Fine s) (ot : Option Addr) (cap : Nat) (t : TI) (ol : Option Addr) (cl : Nat) (w : World) (h : TinsAt w ot (ofSh s).tins) (ht : TrisAt w ol t.tins) (hl : t.tins.length ≤ 9223372036854775807) :
  Calls Tryz.prog 26 #[sheetV (ofSh s) ot cap, truthV t ol cl] w fun e w' => e = .returned (.bool (truthB s t)) ∧ Ext w w' := by
 have R81 := Lib.hid rin_any
 have g4 := g.len2
 by_cases hq : t.tins.length = s.tins.length
 ·have hqI : ((t.tins.length : Int) == ((ofSh s).tins.length : Int)) = true := by simp [hq, tins_len]
  have hqJ : ((t.tins.length : Int) != ((ofSh s).tins.length : Int)) = false := by simp [hq, tins_len]
  cases hy : inB t.years (s.ylo : Nat) (s.yhi : Nat)
  ·have Hn := Lib.hid (truth_noyear hy)
   have Hy := Lib.hid hy
   clear h ht hq hy
   go_enter Tryz.func26, Tryz.ntmps26
   go_wp2_with (first | (go_at_call 81; refine (R81.out _ (s.ylo : Nat) (s.yhi : Nat) _).mono ?_; rw [Hy.out]; rintro e w1 ⟨rfl, rfl⟩))
   go_ret
   exact ⟨by rw [Hn.out]; rfl, ((Ext.refl w).alloc _).alloc _⟩
  ·have Hy := Lib.hid hy
   have Hq := Lib.hid hq
   have H := Lib.hid h
   have HT := Lib.hid ht
   have Hc := Lib.hid (fun W (hW : Ext w W) p (hp : p < 3) i (hi : i < s.tins.length) => tin_cell (H.out.ext hW) g (i := i) (p := p) hi hp)
   clear h ht hq hy
   go_enter Tryz.func26, Tryz.ntmps26
   go_wp2_with (first | (go_at_call 81; refine (R81.out _ (s.ylo : Nat) (s.yhi : Nat) _).mono ?_; rw [Hy.out]; rintro e w1 ⟨rfl, rfl⟩))
   clear hqI hqJ
   obtain ⟨w0, hw0⟩ : ∃ W, W = (w.alloc (.cells (sheetC (ofSh s) ot cap) 28)).alloc (.cells (truthC t ol cl) 32) := ⟨_, rfl⟩
   have HE0 := Lib.hid (show Ext w w0 by rw [hw0]; exact ((Ext.refl w).alloc _).alloc _)
   have HS0 := Lib.hid (show SheetBox w0 w.heap.size (ofSh s) ot cap by rw [hw0]; exact (SheetBox.new _ _ _ _).ext ((Ext.refl _).alloc _))
   have HB0 := Lib.hid (show TruthBox w0 (w.heap.size + 1) t ol cl by
    rw [hw0]
    have := TruthBox.new (w.alloc (.cells (sheetC (ofSh s) ot cap) 28)) t ol cl
    simpa only [World.size_alloc] using this)
   rw [← hw0]
   clear hw0
   go_loopg [5, 6, 7] 3 (fun g i a b wr => ∃ k : Nat, k + g = 3 ∧ i = .int .i64 k ∧ Ext w0 wr ∧ ∀ p, p < k → colT s t p = true)
   case atStart => exact ⟨0, by omega, rfl, Ext.refl _, fun p hp => by omega⟩
   case round =>
    obtain ⟨k, hk, rfl, hE, hall⟩ := hrel
    obtain ⟨g0, rfl⟩ : ∃ g0 : Nat, g0 = gk := ⟨_, rfl⟩
    have Hall := Lib.hid hall
    have HE := Lib.hid hE
    clear hE hall
    by_cases hk3 : k < 3
    ·have hkI : (k : Int) < 3 := by omega
     have b1 := (box_fade (HS0.out.ext HE.out) hk3).1
     have b2 := (box_fade (HS0.out.ext HE.out) hk3).2
     have b3 := (HB0.out.ext HE.out).fade hk3
     have b4 : wr.cell? ⟨w.heap.size + 1, 0, none⟩ = some (.slice ol t.tins.length cl) := (HB0.out.ext HE.out) 0 _ rfl
     go_wp2_with fail
     refine wp_region_plan (.take 0 <| .take 1 <| .take 2 <| .take 3 <| .take 4 <| .take 5 <| .take 6 <| .take 7 <| .take 8 <| .take 9 <| .take 10 <| .take 11 <| .take 12 <| .take 13 <| .only 14 <| .take 15 <| .done) (fun W => Ext wr W) mixed (by kernel_rfl) (by kernel_rfl) rfl (fun _ _ d _ _ h => by cases d <;> exact h) ((Ext.refl wr).drew) ?_
     repeat ((first | (refine plan_take (v := ?_) rfl rfl (fun W hW => ?_) ?_; rotate_left; (focus (have d1 := cell_ext hW b1; have d2 := cell_ext hW b2; have d3 := cell_ext hW b3; go_simp; first | exact rfl | (split <;> first | exact rfl | (exfalso; omega)) | done))) | refine plan_skip rfl rfl ?_); simp only [puts])
     refine plan_walk rfl ?_; intro K hK
     clear b1 b2 b3
     cases hf : inB (t.f k) (s.flo k : Nat) (s.fhi k : Nat)
     ·have Hf := Lib.hid hf
      have Hn := Lib.hid (truth_nofade hk3 hf)
      clear hf
      go_wp2_with (first | (go_at_call 81; refine (R81.out _ _ _ _).mono ?_; rw [Hf.out]; rintro e w1 ⟨rfl, rfl⟩))
      refine hK _ _ (Ext.refl wr).drew ?_
      repeat ((first | (refine plan_take (v := ?_) rfl rfl (fun W hW => ?_) ?_; rotate_left; (focus (skip; go_simp; first | exact rfl | (split <;> first | exact rfl | (exfalso; omega)) | done))) | refine plan_skip rfl rfl ?_); simp only [puts])
      refine plan_done ?_
      go_wp2
      go_ret
      exact ⟨by rw [Hn.out]; rfl, HE0.out.trans HE.out.drew⟩
     ·have Hf := Lib.hid hf
      clear hf
      go_wp2_with (first | (go_at_call 81; refine (R81.out _ _ _ _).mono ?_; rw [Hf.out]; rintro e w1 ⟨rfl, rfl⟩))
      refine hK _ _ (Ext.refl wr).drew ?_
      repeat ((first | (refine plan_take (v := ?_) rfl rfl (fun W hW => ?_) ?_; rotate_left; (focus (skip; go_simp; first | exact rfl | (split <;> first | exact rfl | (exfalso; omega)) | done))) | refine plan_skip rfl rfl ?_); simp only [puts])
      refine plan_done ?_
      have b5 : wr.drew.cell? ⟨w.heap.size + 1, 0, none⟩ = some (.slice ol t.tins.length cl) := cell_ext (Ext.refl wr).drew b4
      have HEd := Lib.hid HE.out.drew
      clear b4 HE
      generalize wr.drew = wd at *
      go_wp2
      clear b5
      go_loopg [6, 7] t.tins.length (fun g i b wr => ∃ j : Nat, j + g = t.tins.length ∧ i = .int .i64 j ∧ Ext w0 wr ∧ ∀ i, i < j → tinT s t k i = true)
      case atStart => exact ⟨0, by omega, rfl, HEd.out, fun i hi => by omega⟩
      case round =>
       obtain ⟨j, hj, rfl, hE, hin⟩ := hrel
       have HE := Lib.hid hE
       have Hin := Lib.hid hin
       clear hE hin
       by_cases hjn : j < t.tins.length
       ·have hjs : j < s.tins.length := by have := Hq.out; omega
        have hjI : (j : Int) < ((ofSh s).tins.length : Int) := by rw [tins_len]; omega
        have hjN : j < (ofSh s).tins.length := by rw [tins_len]; omega
        obtain ⟨bx, ox, hbx, hbl, y0⟩ := (HT.out.ext (HE0.out.trans HE.out)).cell hjn hk3
        obtain ⟨bt, o2, hbt, hbl2, u0, u1⟩ := Hc.out _ (HE0.out.trans HE.out) k hk3 j hjs
        have c12 : wr.cell? ⟨w.heap.size, 12, none⟩ = some (.slice ot (ofSh s).tins.length cap) := (HS0.out.ext HE.out) 12 _ rfl
        have c13 : wr.cell? ⟨w.heap.size + 1, 0, none⟩ = some (.slice ol t.tins.length cl) := (HB0.out.ext HE.out) 0 _ rfl
        subst hbx
        subst hbt
        have Htin := Lib.hid (show tinT s t k j = inB (t.x j k) (tlo (s.tins.getD j []) k : Nat) (thi (s.tins.getD j []) k : Nat) from rfl)
        generalize t.x j k = X at *
        generalize tlo (s.tins.getD j []) k = A at *
        generalize thi (s.tins.getD j []) k = B at *
        have l12 := World.block_lt_of_cell? _ _ c12
        have l13 := World.block_lt_of_cell? _ _ c13
        simp only at l12 l13
        go_wp2_with fail
        obtain ⟨w5, hw5⟩ : ∃ W, W = wr.alloc (.cells #[.int .i64 A, .int .i64 B] 24) := ⟨_, rfl⟩
        have hE5 : Ext wr w5 := by rw [hw5]; exact (Ext.refl wr).alloc _
        have e0 : w5.cell? ⟨wr.heap.size, 0, none⟩ = some (.int .i64 A) := by rw [hw5]; go_simp
        have e1 : w5.cell? ⟨wr.heap.size, 1, none⟩ = some (.int .i64 B) := by rw [hw5]; go_simp
        have e2 : w5.cell? ⟨bx, ox + j * 3 + k, none⟩ = some (.int .i64 X) := cell_ext hE5 y0
        have e3 : w5.cell? ⟨w.heap.size + 1, 0, none⟩ = some (.slice (some ⟨bx, ox, none⟩) t.tins.length cl) := cell_ext hE5 c13
        rw [← hw5]
        have HE5 := Lib.hid (HE.out.trans hE5)
        clear hw5 hE5 y0 u0 u1 c12 c13 l12 l13 hbl hbl2
        refine wp_region_plan (.take 0 <| .take 1 <| .take 2 <| .take 3 <| .take 4 <| .take 5 <| .take 6 <| .take 7 <| .take 8 <| .take 9 <| .take 10 <| .only 11 <| .take 12 <| .done) (fun W => Ext w5 W) mixed (by kernel_rfl) (by kernel_rfl) rfl (fun _ _ d _ _ h => by cases d <;> exact h) ((Ext.refl w5).drew) ?_
        repeat ((first | (refine plan_take (v := ?_) rfl rfl (fun W hW => ?_) ?_; rotate_left; (focus (have d0 := cell_ext hW e0; have d1 := cell_ext hW e1; have d2 := cell_ext hW e2; have d3 := cell_ext hW e3; go_simp; first | exact rfl | (split <;> first | exact rfl | (exfalso; omega)) | done))) | refine plan_skip rfl rfl ?_); simp only [puts])
        refine plan_walk rfl ?_; intro K hK
        clear e0 e1 e2 e3
        cases hf : inB X A B
        ·have Hf := Lib.hid hf
         have Hn := Lib.hid (truth_notin hk3 hjs (Htin.out.trans hf))
         clear hf
         go_wp2_with (first | (go_at_call 81; refine (R81.out _ _ _ _).mono ?_; rw [Hf.out]; rintro e w1 ⟨rfl, rfl⟩))
         refine hK _ _ (Ext.refl w5).drew ?_
         repeat ((first | (refine plan_take (v := ?_) rfl rfl (fun W hW => ?_) ?_; rotate_left; (focus (skip; go_simp; first | exact rfl | (split <;> first | exact rfl | (exfalso; omega)) | done))) | refine plan_skip rfl rfl ?_); simp only [puts])
         refine plan_done ?_
         go_wp2
         go_ret
         exact ⟨by rw [Hn.out]; rfl, HE0.out.trans HE5.out.drew⟩
        ·have Hf := Lib.hid hf
         have Hy := Lib.hid (Htin.out.trans hf)
         clear hf
         go_wp2_with (first | (go_at_call 81; refine (R81.out _ _ _ _).mono ?_; rw [Hf.out]; rintro e w1 ⟨rfl, rfl⟩))
         refine hK _ _ (Ext.refl w5).drew ?_
         repeat ((first | (refine plan_take (v := ?_) rfl rfl (fun W hW => ?_) ?_; rotate_left; (focus (skip; go_simp; first | exact rfl | (split <;> first | exact rfl | (exfalso; omega)) | done))) | refine plan_skip rfl rfl ?_); simp only [puts])
         refine plan_done ?_
         go_wp2
         go_roundg (gk - 1)
         case measure => omega
         case rel => exact ⟨j + 1, by omega, by go_num, HE5.out.drew, fun i hi => by
          rcases Nat.lt_succ_iff_lt_or_eq.1 hi with hi | rfl
          ·exact Hin.out i hi
          ·exact Hy.out⟩
       ·obtain rfl : j = t.tins.length := by omega
        have c13 : wr.cell? ⟨w.heap.size + 1, 0, none⟩ = some (.slice ol t.tins.length cl) := (HB0.out.ext HE.out) 0 _ rfl
        have Hcol := Lib.hid (col_yes Hf.out (fun i hi => Hin.out i (by rw [Hq.out]; exact hi)))
        go_wp2
        go_roundg (g0 - 1)
        case measure => omega
        case rel => exact ⟨k + 1, by omega, by go_num, HE.out, fun p hp => by
         rcases Nat.lt_succ_iff_lt_or_eq.1 hp with hp | rfl
         ·exact Hall.out p hp
         ·exact Hcol.out⟩
    ·obtain rfl : k = 3 := by omega
     have Hn := Lib.hid (truth_yes Hq.out Hy.out Hall.out)
     go_wp2
     go_ret
     exact ⟨by rw [Hn.out]; rfl, HE0.out.trans HE.out⟩
 ·have hqI : ((t.tins.length : Int) == ((ofSh s).tins.length : Int)) = false := by rw [tins_len]; simpa using (by omega : ¬ (t.tins.length : Int) = (s.tins.length : Int))
  have hqJ : ((t.tins.length : Int) != ((ofSh s).tins.length : Int)) = true := by rw [tins_len]; simpa using (by omega : ¬ (t.tins.length : Int) = (s.tins.length : Int))
  have Hn := Lib.hid (truth_nolen (t := t) hq)
  clear h ht hq
  go_enter Tryz.func26, Tryz.ntmps26
  go_wp2
  go_ret
  exact ⟨by rw [Hn.out]; rfl, ((Ext.refl w).alloc _).alloc _⟩

theorem truth_small {s : Sh} (g : Fine s) {T : Tr} (hT : GoodT s T) {i p : Nat} (hi : i < s.tins.length) (hp : p < 3) : (T.tins.getD i []).getD p 0 ≤ 99 := by
 have h1 := hT.tin i (by rw [hT.len]; exact hi) p hp
 have h2 := g.tin (s.tins.getD i []) (by simp [List.getD, hi]) p hp
 omega
theorem sumTo_small {s : Sh} (g : Fine s) {m : List Nat} (hm : IsMix s m) {T : Tr} (hT : GoodT s T) {p : Nat} (hp : p < 3) : ∀ k, k ≤ m.length → sumTo m T p k ≤ 792 * k := by
 intro k
 induction k with
 | zero => intro _; simp [sumTo]
 | succ k ih =>
  intro hk
  have h1 := ih (by omega)
  have h2 := truth_small g hT (i := k) (p := p) (by have := hm.len; omega) hp
  have h3 : m.getD k 0 ≤ 8 := by
   rw [show m.getD k 0 = m[k] by simp [List.getD, show k < m.length by omega]]; exact hm.le _ (List.getElem_mem _)
  have h4 := Nat.mul_le_mul h3 h2
  rw [sumTo_succ]
  omega

theorem rSum_any (s : Sh) (g : Fine s) (m : List Nat) (hm : IsMix s m) (T : Tr) (hT : GoodT s T) (om : Option Addr) (cm : Nat) (ol : Option Addr) (cl p : Nat) (hp : p < 3) (w : World) (hi : IntsAt w om (upL m)) (ht : TrisAt w ol (ofTr T).tins) :
  Calls Tryz.prog 36 #[.slice om m.length cm, truthV (ofTr T) ol cl, .int .i64 p] w fun e w' => e = .returned (.int .i64 (sumT m T p : Nat)) ∧ Ext w w' := by
 have hpI : (p : Int) < 3 := by omega
 have hm4 : m.length ≤ 4 := by have := hm.len; have := g.len2; omega
 have hlen : (ofTr T).tins.length = m.length := by simp [ofTr, hT.len, hm.len]
 have H := Lib.hid hi
 have HT := Lib.hid ht
 have Hsm := Lib.hid (fun k (hk : k ≤ m.length) => sumTo_small g hm hT hp k hk)
 have Hsu := Lib.hid (fun k => sumTo_succ m T p k)
 have Hxs := Lib.hid (fun k (hk : k < m.length) => truth_small g hT (i := k) (p := p) (by have := hm.len; omega) hp)
 have Hms := Lib.hid (fun k (hk : k < m.length) => (show m.getD k 0 ≤ 8 by
  rw [show m.getD k 0 = m[k] by simp [List.getD, show k < m.length by omega]]; exact hm.le _ (List.getElem_mem _)))
 have Hlen := Lib.hid hlen
 have Hto := Lib.hid (show sumT m T p = sumTo m T p m.length from rfl)
 have H0 : sumTo m T p 0 = 0 := by simp [sumTo]
 clear hi ht hm g hT hlen
 go_enter Tryz.func36, Tryz.ntmps36
 go_wp2
 obtain ⟨w0, hw0⟩ : ∃ W, W = w.alloc (.cells (truthC (ofTr T) ol cl) 32) := ⟨_, rfl⟩
 have HE0 := Lib.hid (show Ext w w0 by rw [hw0]; exact (Ext.refl w).alloc _)
 have HB0 := Lib.hid (show TruthBox w0 w.heap.size (ofTr T) ol cl by rw [hw0]; exact TruthBox.new _ _ _ _)
 rw [← hw0]
 clear hw0
 go_loopg [7, 8] m.length (fun g v i wr => ∃ k : Nat, k + g = m.length ∧ i = .int .i64 k ∧ Ext w0 wr ∧ v = .int .i64 (sumTo m T p k : Nat))
 case atStart => exact ⟨0, by omega, rfl, Ext.refl _, by rw [H0]; rfl⟩
 case round =>
  obtain ⟨k, hk, rfl, hE, rfl⟩ := hrel
  have HE := Lib.hid hE
  clear hE
  by_cases hlt : k < m.length
  ·obtain ⟨bm, o2, hbm, _, hcm⟩ := (H.out.ext (HE0.out.trans HE.out)).at (k := k) (by rw [upL_length]; exact hlt)
   subst hbm
   rw [show (upL m)[k]'(by rw [upL_length]; exact hlt) = ((m.getD k 0 : Nat) : Int) by simp [upL, List.getD, hlt]] at hcm
   have hkt : k < (ofTr T).tins.length := by rw [Hlen.out]; exact hlt
   have hktI : (k : Int) < ((ofTr T).tins.length : Int) := by omega
   obtain ⟨bx, ox, hbx, _, hcx⟩ := (HT.out.ext (HE0.out.trans HE.out)).cell hkt hp
   subst hbx
   rw [ofTr_x] at hcx
   have c0 : wr.cell? ⟨w.heap.size, 0, none⟩ = some (.slice (some ⟨bx, ox, none⟩) (ofTr T).tins.length cl) := (HB0.out.ext HE.out) 0 _ rfl
   have h8 := Hms.out k hlt
   have h9 := Hxs.out k hlt
   have hsm := Hsm.out k (by omega)
   have hmul := Nat.mul_le_mul h8 h9
   have Hs := Lib.hid (Hsu.out k)
   generalize m.getD k 0 = X at *
   generalize (T.tins.getD k []).getD p 0 = Y at *
   have hmi : ((X * Y : Nat) : Int) = (X : Int) * (Y : Int) := Int.natCast_mul X Y
   have q1 : IntKind.i64.wrap ((X : Int) * (Y : Int)) = ((X * Y : Nat) : Int) := by rw [← hmi, IntWalk.i64_in _ (by omega)]
   clear hmi
   generalize X * Y = Z at *
   generalize sumTo m T p k = V at *
   have q2 : IntKind.i64.wrap ((V : Int) + (Z : Int)) = ((V + Z : Nat) : Int) := by rw [IntWalk.i64_in _ (by omega)]; omega
   have hcm' := cell_ext (Ext.refl wr).drew hcm
   clear H0 Hsm Hms Hxs
   go_wp2_with fail
   refine wp_region_plan (.take 0 <| .take 1 <| .take 2 <| .take 3 <| .take 4 <| .take 5 <| .take 6 <| .take 7 <| .take 8 <| .take 9 <| .take 10 <| .take 11 <| .take 12 <| .take 13 <| .take 14 <| .done) (fun W => Ext wr W) mixed (by kernel_rfl) (by kernel_rfl) rfl (fun _ _ d _ _ h => by cases d <;> exact h) ((Ext.refl wr).drew) ?_
   repeat ((first | (refine plan_take (v := ?_) rfl rfl (fun W hW => ?_) ?_; rotate_left; (focus (have d0 := cell_ext hW c0; have d1 := cell_ext hW hcm; have d2 := cell_ext hW hcx; go_simp; first | exact rfl | (split <;> first | exact rfl | (exfalso; omega)) | done))) | refine plan_skip rfl rfl ?_); simp only [puts])
   refine plan_done ?_
   clear hcm hcx hcm' c0
   go_wp2
   go_roundg (gk - 1)
   case measure => omega
   case rel => exact ⟨k + 1, by omega, by go_num, HE.out.drew, by rw [Hs.out, Int.natCast_add]⟩
  ·obtain rfl : k = m.length := by omega
   have hT := Hto.out
   generalize sumTo m T p m.length = V at *
   go_wp2
   go_ret
   exact ⟨by rw [hT]; rfl, HE0.out.trans HE.out⟩

end Go.Proofs.YtjpekonfjihcoaaGreatDoor
/- Contract: the reference's True. No condition beyond sheets, mixtures and truths as defined. -/
namespace Go.Proofs.YtjpekonfjihcoaaGreatDoor
open Go.RowKit Go.My Go.TintM

theorem trueOf_no {s : Sh} {m : List Nat} {t : Tr} {p : Nat} (hp : p < 3) (h : trueP s m t p = false) : trueOf s m t = false := by
 match p, hp with
 | 0, _ => simp [trueOf, h]
 | 1, _ => simp [trueOf, h]
 | 2, _ => simp [trueOf, h]


theorem rTrue_any (s : Sh) (g : Fine s) (m : List Nat) (hm : IsMix s m) (T : Tr) (hT : GoodT s T) (ot : Option Addr) (cap : Nat) (om : Option Addr) (cm : Nat) (ol : Option Addr) (cl : Nat) (w : World) (hi : IntsAt w om (upL m)) (ht : TrisAt w ol (ofTr T).tins) :
  Calls Tryz.prog 27 #[sheetV (ofSh s) ot cap, .slice om m.length cm, truthV (ofTr T) ol cl] w fun e w' => e = .returned (.bool (trueOf s m T)) ∧ Ext w w' := by
 have hml : (upL m).length ≤ 1000 := by rw [upL_length, hm.len]; have := g.len2; omega
 have h8 : (upL m).all in8 = true := by
  rw [List.all_eq_true]
  intro x hx
  obtain ⟨n, hn, rfl⟩ := List.mem_map.1 hx
  have := hm.le n hn
  rw [in8, inB_iff]; omega
 have R59 := Lib.hid (fun W (hW : Ext w W) => parts_any (upL m) om cm W (hi.ext hW) hml h8)
 rw [upL_length, sum_up] at R59
 have R36 := Lib.hid (fun p (hp : p < 3) W (hW : Ext w W) => rSum_any s g m hm T hT om cm ol cl p hp W (hi.ext hW) (ht.ext hW))
 have hyy : T.years ≤ 20 := Nat.le_trans hT.y2 g.yhi
 have R35 := Lib.hid (fun p (hp : p < 3) W => faded_any s g ot cap p T.years (T.fade p) hp hyy (Nat.le_trans (hT.f2 p hp) (g.fhi p hp)) W)
 have Hno := Lib.hid (fun p (hp : p < 3) (h : trueP s m T p = false) => trueOf_no hp h)
 have Hyes := Lib.hid (fun (h : ∀ p, p < 3 → trueP s m T p = true) => trueOf_iff.2 h)
 have Hp := Lib.hid (fun p => (show trueP s m T p = (decide (sumT m T p ≤ m.sum * leftT s T p + m.sum * s.off) && decide (m.sum * leftT s T p ≤ sumT m T p + m.sum * s.off)) from rfl))
 have hs8 := hm.sum
 have Hsm := Lib.hid (fun p (hp : p < 3) => sumTo_small g hm hT hp m.length (Nat.le_refl _))
 have Hle := Lib.hid (fun p (hp : p < 3) => Nat.mul_le_mul hm.sum (Nat.le_trans (left_le (s.old p) T.years (T.fade p)) (g.old p hp)))
 have hso := Nat.mul_le_mul hm.sum g.off2
 have hm4 : m.length ≤ 4 := by have := hm.len; have := g.len2; omega
 clear hi ht hml h8 hm g hT
 go_enter Tryz.func27, Tryz.ntmps27
 go_wp2
 obtain ⟨w0, hw0⟩ : ∃ W, W = (w.alloc (.cells (sheetC (ofSh s) ot cap) 28)).alloc (.cells (truthC (ofTr T) ol cl) 32) := ⟨_, rfl⟩
 have HE0 := Lib.hid (show Ext w w0 by rw [hw0]; exact ((Ext.refl w).alloc _).alloc _)
 have HS0 := Lib.hid (show SheetBox w0 w.heap.size (ofSh s) ot cap by rw [hw0]; exact (SheetBox.new _ _ _ _).ext ((Ext.refl _).alloc _))
 have HB0 := Lib.hid (show TruthBox w0 (w.heap.size + 1) (ofTr T) ol cl by
  rw [hw0]
  have := TruthBox.new (w.alloc (.cells (sheetC (ofSh s) ot cap) 28)) (ofTr T) ol cl
  simpa only [World.size_alloc] using this)
 rw [← hw0]
 clear hw0
 go_loopg [7, 8] 3 (fun g i v wr => ∃ k : Nat, k + g = 3 ∧ i = .int .i64 k ∧ Ext w0 wr ∧ ∀ p, p < k → trueP s m T p = true)
 case atStart => exact ⟨0, by omega, rfl, Ext.refl _, fun p hp => by omega⟩
 case round =>
  obtain ⟨k, hk, rfl, hE, hall⟩ := hrel
  have Hall := Lib.hid hall
  have HE := Lib.hid hE
  clear hE hall
  by_cases hk3 : k < 3
  ·have hkI : (k : Int) < 3 := by omega
   have HW := Lib.hid (HE0.out.trans HE.out)
   have HS := Lib.hid (HS0.out.ext HE.out)
   have HB := Lib.hid (HB0.out.ext HE.out)
   have c0 := HS.out 0 _ rfl; have c1 := HS.out 1 _ rfl; have c2 := HS.out 2 _ rfl; have c3 := HS.out 3 _ rfl; have c4 := HS.out 4 _ rfl; have c5 := HS.out 5 _ rfl; have c6 := HS.out 6 _ rfl; have c7 := HS.out 7 _ rfl; have c8 := HS.out 8 _ rfl; have c9 := HS.out 9 _ rfl; have c10 := HS.out 10 _ rfl; have c11 := HS.out 11 _ rfl; have c12 := HS.out 12 _ rfl
   have v0 : World.cell? wr ⟨w.heap.size + 1, 0, none⟩ = some (.slice ol (ofTr T).tins.length cl) := HB.out 0 _ rfl; have v1 := HB.out 1 _ rfl; have v2 := HB.out 2 _ rfl; have v3 := HB.out 3 _ rfl; have v4 := HB.out 4 _ rfl
   have vf : wr.cell? ⟨w.heap.size + 1, 2 + k, none⟩ = some (.int .i64 (T.fade k : Nat)) := by rw [HB.out.fade hk3, ofTr_f T hk3]
   replace v1 : wr.cell? ⟨w.heap.size + 1, 1, none⟩ = some (.int .i64 (T.years : Nat)) := v1
   have hhp := Hp.out k
   have hlf : leftT s T k = left (s.old k) T.years (T.fade k) := rfl
   have hsm := Hsm.out k hk3
   have hle := Hle.out k hk3
   have hst : sumT m T k = sumTo m T k m.length := rfl
   rw [← hst] at hsm
   have r36 := Lib.hid (R36.out k hk3)
   have r35 := Lib.hid (R35.out k hk3)
   rw [← hlf] at hle r35
   clear hst hlf Hsm Hle
   generalize sumT m T k = A at *
   generalize leftT s T k = B at *
   generalize m.sum = N at *
   have i1 : ((N * B : Nat) : Int) = (N : Int) * (B : Int) := Int.natCast_mul N B
   have i2 : ((N * s.off : Nat) : Int) = (N : Int) * (s.off : Int) := Int.natCast_mul N s.off
   have q1 : IntKind.i64.wrap ((N : Int) * (B : Int)) = ((N * B : Nat) : Int) := by rw [← i1, IntWalk.i64_in _ (by omega)]
   have q2 : IntKind.i64.wrap ((N : Int) * (s.off : Int)) = ((N * s.off : Nat) : Int) := by rw [← i2, IntWalk.i64_in _ (by omega)]
   clear i1 i2
   generalize N * B = X at *
   generalize hZ : N * s.off = Z at *
   obtain ⟨D, hD⟩ : ∃ D, D = (A : Int) - (X : Int) := ⟨_, rfl⟩
   have q3 : IntKind.i64.wrap ((A : Int) - (X : Int)) = D := by rw [IntWalk.i64_in _ (by omega)]; exact hD.symm
   have q4 : IntKind.i64.wrap (-D) = -D := by rw [IntWalk.i64_in _ (by omega)]
   clear hZ
   have c11' : wr.cell? ⟨w.heap.size, 11, none⟩ = some (.int .i64 (s.off : Nat)) := c11
   have hres : (decide (A ≤ X + Z) && decide (X ≤ A + Z)) = !decide (max D (-D) > (Z : Int)) := by
    have h1 : (A ≤ X + Z) ↔ D ≤ Z := by omega
    have h2 : (X ≤ A + Z) ↔ -D ≤ (Z : Int) := by omega
    by_cases a1 : D ≤ (Z : Int) <;> by_cases a2 : -D ≤ (Z : Int)
    ·simp [h1, h2, a1, a2]; omega
    ·simp [h1, h2, a1, a2]; omega
    ·simp [h1, h2, a1, a2]; omega
    ·simp [h1, h2, a1, a2]; omega
   rw [hres] at hhp
   clear hres
   obtain ⟨M, hM⟩ : ∃ M, max D (-D) = M := ⟨_, rfl⟩
   rw [hM] at hhp
   have Hhp := Lib.hid hhp
   clear hhp hD hle hsm hso hs8 hm4 c11
   go_wp2_with fail
   refine wp_region_plan (.take 0 <| .take 1 <| .take 2 <| .take 4 <| .take 6 <| .take 7 <| .take 8 <| .take 9 <| .take 10 <| .take 11 <| .take 12 <| .take 13 <| .only 3 <| .only 5 <| .only 14 <| .take 15 <| .take 16 <| .take 17 <| .done) (fun W => Ext wr W) mixed (by kernel_rfl) (by kernel_rfl) rfl (fun _ _ d _ _ h => by cases d <;> exact h) ((Ext.refl wr).drew) ?_
   repeat ((first | (refine plan_take (v := ?_) rfl rfl (fun W hW => ?_) ?_; rotate_left; (focus (have d0 := cell_ext hW c0; have d1 := cell_ext hW c1; have d2 := cell_ext hW c2; have d3 := cell_ext hW c3; have d4 := cell_ext hW c4; have d5 := cell_ext hW c5; have d6 := cell_ext hW c6; have d7 := cell_ext hW c7; have d8 := cell_ext hW c8; have d9 := cell_ext hW c9; have d10 := cell_ext hW c10; have d11 := cell_ext hW c11'; have d12 := cell_ext hW c12; have e0 := cell_ext hW v0; have e1 := cell_ext hW v1; have e2 := cell_ext hW v2; have e3 := cell_ext hW v3; have e4 := cell_ext hW v4; have e5 := cell_ext hW vf; go_simp; first | exact rfl | (split <;> first | exact rfl | (exfalso; omega)) | done))) | refine plan_skip rfl rfl ?_); simp only [puts])
   refine plan_walk rfl ?_; intro K hK
   go_wp2_with (first | (go_at_call 36; refine (r36.out _ HW.out.drew).mono ?_; rintro e w1 ⟨rfl, hE1⟩))
   have hX1 := (Ext.refl wr).drew.trans hE1
   refine hK _ _ hX1 ?_
   refine plan_walk rfl ?_; intro K hK
   go_wp2_with (first | (go_at_call 59; refine (R59.out _ (HW.out.trans hX1)).mono ?_; rintro e w2 ⟨rfl, rfl⟩))
   refine hK _ _ hX1 ?_
   refine plan_walk rfl ?_; intro K hK
   go_wp2_with (first | (go_at_call 35; refine (r35.out _).mono ?_; rintro e w2 ⟨rfl, hE2⟩))
   have hX2 := hX1.trans hE2
   refine hK _ _ hX2 ?_
   repeat ((first | (refine plan_take (v := ?_) rfl rfl (fun W hW => ?_) ?_; rotate_left; (focus (skip; go_simp; first | exact rfl | (split <;> first | exact rfl | (exfalso; omega)) | done))) | refine plan_skip rfl rfl ?_); simp only [puts])
   refine plan_done ?_
   have c11 := cell_ext hX2 c11'
   have HX2 := Lib.hid hX2
   clear hE1 hX1 hE2 hX2 c0 c1 c2 c3 c4 c5 c6 c7 c8 c9 c10 c11' c12 v0 v1 v2 v3 v4 vf
   have hcase : (-D ≤ D ∧ ¬ D < -D ∧ ¬ -D > D ∧ M = D) ∨ (D < -D ∧ ¬ -D ≤ D ∧ -D > D ∧ M = -D) := by omega
   clear hM
   have Hf := Lib.hid (fun (hb : (Z : Int) < M) => (show trueP s m T k = false by rw [Hhp.out, decide_eq_true hb]; rfl))
   have Ht := Lib.hid (fun (hb : ¬ (Z : Int) < M) => (show trueP s m T k = true by rw [Hhp.out, decide_eq_false hb]; rfl))
   clear Hhp
   rcases hcase with ⟨hd1, hd2, hd3, rfl⟩ | ⟨hd1, hd2, hd3, rfl⟩
   ·go_wp2_with fail
    refine wp_region_plan (.take 0 <| .take 1 <| .take 2 <| .take 3 <| .take 4 <| .take 6 <| .take 7 <| .only 5 <| .take 8 <| .take 9 <| .done) (fun W => Ext w2 W) mixed (by kernel_rfl) (by kernel_rfl) rfl (fun _ _ d _ _ h => by cases d <;> exact h) ((Ext.refl w2).drew) ?_
    repeat ((first | (refine plan_take (v := ?_) rfl rfl (fun W hW => ?_) ?_; rotate_left; (focus (have d0 := cell_ext hW c11; go_simp; first | exact rfl | (split <;> first | exact rfl | (exfalso; omega)) | done))) | refine plan_skip rfl rfl ?_); simp only [puts])
    refine plan_walk rfl ?_; intro K hK
    go_wp2_with (first | (go_at_call 59; refine (R59.out _ (HW.out.trans HX2.out).drew).mono ?_; rintro e w3 ⟨rfl, rfl⟩))
    refine hK _ _ (Ext.refl w2).drew ?_
    repeat ((first | (refine plan_take (v := ?_) rfl rfl (fun W hW => ?_) ?_; rotate_left; (focus (skip; go_simp; first | exact rfl | (split <;> first | exact rfl | (exfalso; omega)) | done))) | refine plan_skip rfl rfl ?_); simp only [puts])
    refine plan_done ?_
    clear c11
    by_cases hb : (Z : Int) < M
    ·have Hn := Lib.hid (Hno.out k hk3 (Hf.out hb))
     have HX3 := Lib.hid (HW.out.trans HX2.out).drew
     go_wp2
     go_ret
     exact ⟨by rw [Hn.out]; rfl, HX3.out⟩
    ·have Hn := Lib.hid (Ht.out (by omega))
     have HX3 := Lib.hid (HE.out.trans HX2.out).drew
     go_wp2
     go_roundg (gk - 1)
     case measure => omega
     case rel => exact ⟨k + 1, by omega, by go_num, HX3.out, fun p hp => by
      rcases Nat.lt_succ_iff_lt_or_eq.1 hp with hp | rfl
      ·exact Hall.out p hp
      ·exact Hn.out⟩
   ·go_wp2_with fail
    refine wp_region_plan (.take 0 <| .take 1 <| .take 2 <| .take 3 <| .take 4 <| .take 6 <| .take 7 <| .only 5 <| .take 8 <| .take 9 <| .done) (fun W => Ext w2 W) mixed (by kernel_rfl) (by kernel_rfl) rfl (fun _ _ d _ _ h => by cases d <;> exact h) ((Ext.refl w2).drew) ?_
    repeat ((first | (refine plan_take (v := ?_) rfl rfl (fun W hW => ?_) ?_; rotate_left; (focus (have d0 := cell_ext hW c11; go_simp; first | exact rfl | (split <;> first | exact rfl | (exfalso; omega)) | done))) | refine plan_skip rfl rfl ?_); simp only [puts])
    refine plan_walk rfl ?_; intro K hK
    go_wp2_with (first | (go_at_call 59; refine (R59.out _ (HW.out.trans HX2.out).drew).mono ?_; rintro e w3 ⟨rfl, rfl⟩))
    refine hK _ _ (Ext.refl w2).drew ?_
    repeat ((first | (refine plan_take (v := ?_) rfl rfl (fun W hW => ?_) ?_; rotate_left; (focus (skip; go_simp; first | exact rfl | (split <;> first | exact rfl | (exfalso; omega)) | done))) | refine plan_skip rfl rfl ?_); simp only [puts])
    refine plan_done ?_
    clear c11
    by_cases hb : (Z : Int) < -D
    ·have Hn := Lib.hid (Hno.out k hk3 (Hf.out hb))
     have HX3 := Lib.hid (HW.out.trans HX2.out).drew
     go_wp2
     go_ret
     exact ⟨by rw [Hn.out]; rfl, HX3.out⟩
    ·have Hn := Lib.hid (Ht.out (by omega))
     have HX3 := Lib.hid (HE.out.trans HX2.out).drew
     go_wp2
     go_roundg (gk - 1)
     case measure => omega
     case rel => exact ⟨k + 1, by omega, by go_num, HX3.out, fun p hp => by
      rcases Nat.lt_succ_iff_lt_or_eq.1 hp with hp | rfl
      ·exact Hall.out p hp
      ·exact Hn.out⟩
  ·obtain rfl : k = 3 := by omega
   have Hn := Lib.hid (Hyes.out Hall.out)
   go_wp2
   go_ret
   exact ⟨by rw [Hn.out]; rfl, HE0.out.trans HE.out⟩

end Go.Proofs.YtjpekonfjihcoaaGreatDoor
/- Contract: isTruth. No condition beyond sheets as defined. -/
namespace Go.Proofs.YtjpekonfjihcoaaGreatDoor
open Go.RowKit Go.My Go.TintM

theorem isTruth_any (s : Sh) (g : Fine s) (ot : Option Addr) (cap : Nat) (t : TI) (ol : Option Addr) (cl : Nat) (w : World) (h : TinsAt w ot (ofSh s).tins) (ht : TrisAt w ol t.tins) (hl : t.tins.length ≤ 9223372036854775807) :
  Calls Tryz.prog 74 #[sheetV (ofSh s) ot cap, truthV t ol cl] w fun e w' => e = .returned (.bool (truthB s t)) ∧ Ext w w' := by
 have R79 := Lib.hid in_any
 have g4 := g.len2
 by_cases hq : t.tins.length = s.tins.length
 ·have hqI : ((t.tins.length : Int) == ((ofSh s).tins.length : Int)) = true := by simp [hq, tins_len]
  have hqJ : ((t.tins.length : Int) != ((ofSh s).tins.length : Int)) = false := by simp [hq, tins_len]
  cases hy : inB t.years (s.ylo : Nat) (s.yhi : Nat)
  ·have Hn := Lib.hid (truth_noyear hy)
   have Hy := Lib.hid hy
   clear h ht hq hy
   go_enter Tryz.func74, Tryz.ntmps74
   go_wp2_with (first | (go_at_call 79; refine (R79.out _ (s.ylo : Nat) (s.yhi : Nat) _).mono ?_; rw [Hy.out]; rintro e w1 ⟨rfl, rfl⟩))
   go_ret
   exact ⟨by rw [Hn.out]; rfl, ((Ext.refl w).alloc _).alloc _⟩
  ·have Hy := Lib.hid hy
   have Hq := Lib.hid hq
   have H := Lib.hid h
   have HT := Lib.hid ht
   have Hc := Lib.hid (fun W (hW : Ext w W) p (hp : p < 3) i (hi : i < s.tins.length) => tin_cell (H.out.ext hW) g (i := i) (p := p) hi hp)
   clear h ht hq hy
   go_enter Tryz.func74, Tryz.ntmps74
   go_wp2_with (first | (go_at_call 79; refine (R79.out _ (s.ylo : Nat) (s.yhi : Nat) _).mono ?_; rw [Hy.out]; rintro e w1 ⟨rfl, rfl⟩))
   clear hqI hqJ
   obtain ⟨w0, hw0⟩ : ∃ W, W = (w.alloc (.cells (sheetC (ofSh s) ot cap) 28)).alloc (.cells (truthC t ol cl) 32) := ⟨_, rfl⟩
   have HE0 := Lib.hid (show Ext w w0 by rw [hw0]; exact ((Ext.refl w).alloc _).alloc _)
   have HS0 := Lib.hid (show SheetBox w0 w.heap.size (ofSh s) ot cap by rw [hw0]; exact (SheetBox.new _ _ _ _).ext ((Ext.refl _).alloc _))
   have HB0 := Lib.hid (show TruthBox w0 (w.heap.size + 1) t ol cl by
    rw [hw0]
    have := TruthBox.new (w.alloc (.cells (sheetC (ofSh s) ot cap) 28)) t ol cl
    simpa only [World.size_alloc] using this)
   rw [← hw0]
   clear hw0
   go_loopg [5, 6, 28, 50] 3 (fun g a b i j wr => ∃ k : Nat, k + g = 3 ∧ i = .int .i64 k ∧ Ext w0 wr ∧ ∀ p, p < k → colT s t p = true)
   case atStart => exact ⟨0, by omega, rfl, Ext.refl _, fun p hp => by omega⟩
   case round =>
    obtain ⟨k, hk, rfl, hE, hall⟩ := hrel
    obtain ⟨g0, rfl⟩ : ∃ g0 : Nat, g0 = gk := ⟨_, rfl⟩
    have Hall := Lib.hid hall
    have HE := Lib.hid hE
    clear hE hall
    by_cases hk3 : k < 3
    ·have hkI : (k : Int) < 3 := by omega
     have b1 := (box_fade (HS0.out.ext HE.out) hk3).1
     have b2 := (box_fade (HS0.out.ext HE.out) hk3).2
     have b3 := (HB0.out.ext HE.out).fade hk3
     have b4 : wr.cell? ⟨w.heap.size + 1, 0, none⟩ = some (.slice ol t.tins.length cl) := (HB0.out.ext HE.out) 0 _ rfl
     go_wp2_with fail
     refine wp_region_plan (.take 0 <| .take 1 <| .take 2 <| .take 3 <| .take 4 <| .take 5 <| .take 6 <| .take 7 <| .take 8 <| .take 9 <| .take 10 <| .take 11 <| .take 12 <| .take 13 <| .only 14 <| .take 15 <| .done) (fun W => Ext wr W) mixed (by kernel_rfl) (by kernel_rfl) rfl (fun _ _ d _ _ h => by cases d <;> exact h) ((Ext.refl wr).drew) ?_
     repeat ((first | (refine plan_take (v := ?_) rfl rfl (fun W hW => ?_) ?_; rotate_left; (focus (have d1 := cell_ext hW b1; have d2 := cell_ext hW b2; have d3 := cell_ext hW b3; go_simp; first | exact rfl | (split <;> first | exact rfl | (exfalso; omega)) | done))) | refine plan_skip rfl rfl ?_); simp only [puts])
     refine plan_walk rfl ?_; intro K hK
     clear b1 b2 b3
     cases hf : inB (t.f k) (s.flo k : Nat) (s.fhi k : Nat)
     ·have Hf := Lib.hid hf
      have Hn := Lib.hid (truth_nofade hk3 hf)
      clear hf
      go_wp2_with (first | (go_at_call 79; refine (R79.out _ _ _ _).mono ?_; rw [Hf.out]; rintro e w1 ⟨rfl, rfl⟩))
      refine hK _ _ (Ext.refl wr).drew ?_
      repeat ((first | (refine plan_take (v := ?_) rfl rfl (fun W hW => ?_) ?_; rotate_left; (focus (skip; go_simp; first | exact rfl | (split <;> first | exact rfl | (exfalso; omega)) | done))) | refine plan_skip rfl rfl ?_); simp only [puts])
      refine plan_done ?_
      go_wp2
      go_ret
      exact ⟨by rw [Hn.out]; rfl, HE0.out.trans HE.out.drew⟩
     ·have Hf := Lib.hid hf
      clear hf
      go_wp2_with (first | (go_at_call 79; refine (R79.out _ _ _ _).mono ?_; rw [Hf.out]; rintro e w1 ⟨rfl, rfl⟩))
      refine hK _ _ (Ext.refl wr).drew ?_
      repeat ((first | (refine plan_take (v := ?_) rfl rfl (fun W hW => ?_) ?_; rotate_left; (focus (skip; go_simp; first | exact rfl | (split <;> first | exact rfl | (exfalso; omega)) | done))) | refine plan_skip rfl rfl ?_); simp only [puts])
      refine plan_done ?_
      have b5 : wr.drew.cell? ⟨w.heap.size + 1, 0, none⟩ = some (.slice ol t.tins.length cl) := cell_ext (Ext.refl wr).drew b4
      have HEd := Lib.hid HE.out.drew
      clear b4 HE
      generalize wr.drew = wd at *
      go_wp2
      clear b5
      go_loopg [6, 50] t.tins.length (fun g b i wr => ∃ j : Nat, j + g = t.tins.length ∧ i = .int .i64 j ∧ Ext w0 wr ∧ ∀ i, i < j → tinT s t k i = true)
      case atStart => exact ⟨0, by omega, rfl, HEd.out, fun i hi => by omega⟩
      case round =>
       obtain ⟨j, hj, rfl, hE, hin⟩ := hrel
       have HE := Lib.hid hE
       have Hin := Lib.hid hin
       clear hE hin
       by_cases hjn : j < t.tins.length
       ·have hjs : j < s.tins.length := by have := Hq.out; omega
        have hjI : (j : Int) < ((ofSh s).tins.length : Int) := by rw [tins_len]; omega
        have hjN : j < (ofSh s).tins.length := by rw [tins_len]; omega
        obtain ⟨bx, ox, x0, x1, x2, hbx, hbl, hxp, y0, y1, y2⟩ := (HT.out.ext (HE0.out.trans HE.out)).at hjn
        obtain ⟨bt, o2, hbt, hbl2, u0, u1⟩ := Hc.out _ (HE0.out.trans HE.out) k hk3 j hjs
        have c12 : wr.cell? ⟨w.heap.size, 12, none⟩ = some (.slice ot (ofSh s).tins.length cap) := (HS0.out.ext HE.out) 12 _ rfl
        have c13 : wr.cell? ⟨w.heap.size + 1, 0, none⟩ = some (.slice ol t.tins.length cl) := (HB0.out.ext HE.out) 0 _ rfl
        subst hbx
        subst hbt
        have Hx := Lib.hid (hxp k hk3)
        have Htin := Lib.hid (show tinT s t k j = inB (t.x j k) (tlo (s.tins.getD j []) k : Nat) (thi (s.tins.getD j []) k : Nat) from rfl)
        clear hxp
        generalize tlo (s.tins.getD j []) k = A at *
        generalize thi (s.tins.getD j []) k = B at *
        have l12 := World.block_lt_of_cell? _ _ c12
        have l13 := World.block_lt_of_cell? _ _ c13
        simp only at l12 l13
        go_wp2_with fail
        obtain ⟨w5, hw5⟩ : ∃ W, W = (wr.alloc (.cells #[.int .i64 x0, .int .i64 x1, .int .i64 x2] 22)).alloc (.cells #[.int .i64 A, .int .i64 B] 24) := ⟨_, rfl⟩
        have hE5 : Ext wr w5 := by rw [hw5]; exact ((Ext.refl wr).alloc _).alloc _
        have e0 : w5.cell? ⟨wr.heap.size + 1, 0, none⟩ = some (.int .i64 A) := by rw [hw5]; go_simp
        have e1 : w5.cell? ⟨wr.heap.size + 1, 1, none⟩ = some (.int .i64 B) := by rw [hw5]; go_simp
        have e2 : w5.cell? ⟨wr.heap.size, k, none⟩ = some (.int .i64 (t.x j k)) := by
         rw [hw5, Hx.out]
         match k, hk3 with
         | 0, _ => go_simp
         | 1, _ => go_simp
         | 2, _ => go_simp
        rw [← hw5]
        have HE5 := Lib.hid (HE.out.trans hE5)
        clear hw5 hE5 y0 y1 y2 u0 u1 c12 c13 l12 l13 hbl hbl2
        generalize t.x j k = X at *
        refine wp_region_plan (.take 0 <| .take 1 <| .take 2 <| .take 3 <| .take 4 <| .take 5 <| .take 6 <| .only 7 <| .take 8 <| .done) (fun W => Ext w5 W) mixed (by kernel_rfl) (by kernel_rfl) rfl (fun _ _ d _ _ h => by cases d <;> exact h) ((Ext.refl w5).drew) ?_
        repeat ((first | (refine plan_take (v := ?_) rfl rfl (fun W hW => ?_) ?_; rotate_left; (focus (have d0 := cell_ext hW e0; have d1 := cell_ext hW e1; have d2 := cell_ext hW e2; go_simp; first | exact rfl | (split <;> first | exact rfl | (exfalso; omega)) | done))) | refine plan_skip rfl rfl ?_); simp only [puts])
        refine plan_walk rfl ?_; intro K hK
        clear e0 e1 e2
        cases hf : inB X A B
        ·have Hf := Lib.hid hf
         have Hn := Lib.hid (truth_notin hk3 hjs (Htin.out.trans hf))
         clear hf
         go_wp2_with (first | (go_at_call 79; refine (R79.out _ _ _ _).mono ?_; rw [Hf.out]; rintro e w1 ⟨rfl, rfl⟩))
         refine hK _ _ (Ext.refl w5).drew ?_
         repeat ((first | (refine plan_take (v := ?_) rfl rfl (fun W hW => ?_) ?_; rotate_left; (focus (skip; go_simp; first | exact rfl | (split <;> first | exact rfl | (exfalso; omega)) | done))) | refine plan_skip rfl rfl ?_); simp only [puts])
         refine plan_done ?_
         go_wp2
         go_ret
         exact ⟨by rw [Hn.out]; rfl, HE0.out.trans HE5.out.drew⟩
        ·have Hf := Lib.hid hf
         have Hy := Lib.hid (Htin.out.trans hf)
         clear hf
         go_wp2_with (first | (go_at_call 79; refine (R79.out _ _ _ _).mono ?_; rw [Hf.out]; rintro e w1 ⟨rfl, rfl⟩))
         refine hK _ _ (Ext.refl w5).drew ?_
         repeat ((first | (refine plan_take (v := ?_) rfl rfl (fun W hW => ?_) ?_; rotate_left; (focus (skip; go_simp; first | exact rfl | (split <;> first | exact rfl | (exfalso; omega)) | done))) | refine plan_skip rfl rfl ?_); simp only [puts])
         refine plan_done ?_
         go_wp2
         go_roundg (gk - 1)
         case measure => omega
         case rel => exact ⟨j + 1, by omega, by go_num, HE5.out.drew, fun i hi => by
          rcases Nat.lt_succ_iff_lt_or_eq.1 hi with hi | rfl
          ·exact Hin.out i hi
          ·exact Hy.out⟩
       ·obtain rfl : j = t.tins.length := by omega
        have Hcol := Lib.hid (col_yes Hf.out (fun i hi => Hin.out i (by rw [Hq.out]; exact hi)))
        go_wp2
        go_roundg (g0 - 1)
        case measure => omega
        case rel => exact ⟨k + 1, by omega, by go_num, HE.out, fun p hp => by
         rcases Nat.lt_succ_iff_lt_or_eq.1 hp with hp | rfl
         ·exact Hall.out p hp
         ·exact Hcol.out⟩
    ·obtain rfl : k = 3 := by omega
     have Hn := Lib.hid (truth_yes Hq.out Hy.out Hall.out)
     go_wp2
     go_ret
     exact ⟨by rw [Hn.out]; rfl, HE0.out.trans HE.out⟩
 ·have hqI : ((t.tins.length : Int) == ((ofSh s).tins.length : Int)) = false := by rw [tins_len]; simpa using (by omega : ¬ (t.tins.length : Int) = (s.tins.length : Int))
  have hqJ : ((t.tins.length : Int) != ((ofSh s).tins.length : Int)) = true := by rw [tins_len]; simpa using (by omega : ¬ (t.tins.length : Int) = (s.tins.length : Int))
  have Hn := Lib.hid (truth_nolen (t := t) hq)
  clear h ht hq
  go_enter Tryz.func74, Tryz.ntmps74
  go_wp2
  go_ret
  exact ⟨by rw [Hn.out]; rfl, ((Ext.refl w).alloc _).alloc _⟩

end Go.Proofs.YtjpekonfjihcoaaGreatDoor
