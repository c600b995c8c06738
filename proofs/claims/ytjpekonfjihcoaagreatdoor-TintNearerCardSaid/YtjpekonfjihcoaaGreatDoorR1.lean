/- Contract: the reference's Sums. No condition beyond sheets and mixtures as defined. -/
import Derived.Below
import Derived.BigQuiet
import Derived.Deep.DeepCutAuto
import Derived.Deep.DeepFit
import Derived.Deep.LoopGhost
import Derived.Deep.QuietTactic
import Derived.Deep.RegionHeld
import Derived.Deep.RegionHeld3
import Derived.Deep.RegionWith
import Derived.Laws.EntriesVeiled
import Derived.Lib.Hide
import Derived.OrdersHeld
import Derived.Test.YtjpekonfjihcoaaGreatDoorProg
import Derived.WalkKit
import Derived.WalkLawsBesides
import Derived.WalkSpells
import Derived.Test.YtjpekonfjihcoaaGreatDoorM2
import Derived.Test.YtjpekonfjihcoaaGreatDoorM4
import Derived.Test.YtjpekonfjihcoaaGreatDoorM3
import Derived.Test.YtjpekonfjihcoaaGreatDoorM15
import Derived.Test.YtjpekonfjihcoaaGreatDoorM1
namespace Go.TintM
end Go.TintM
set_option maxRecDepth 100000
set_option maxHeartbeats 64000000
set_option linter.unusedVariables false
set_option linter.unusedSimpArgs false
namespace Go.Proofs.YtjpekonfjihcoaaGreatDoor
open Go.RowKit Go.My Go.TintM

abbrev partF (s : Sh) (m : List Nat) (k j : Nat) : List Int := fillL (fun p => ((if p < k then lowS s m p else lowTo s m p j : Nat) : Int)) (fun p => ((if p < k then highS s m p else highTo s m p j : Nat) : Int)) (k + 1)
theorem part_zero (s : Sh) (m : List Nat) (k : Nat) : partF s m k 0 = sumF s m k := by
 unfold partF sumF fillL
 refine List.map_congr_left fun i hi => ?_
 simp only [lowTo, highTo, List.range_zero, List.map_nil, List.sum_nil]
 by_cases h1 : i / 2 < k
 ·simp [h1, show i / 2 < k + 1 by omega]
 ·simp [h1]
theorem part_end (s : Sh) (m : List Nat) (k : Nat) : partF s m k m.length = sumF s m (k + 1) := by
 unfold partF sumF fillL
 refine List.map_congr_left fun i hi => ?_
 have e1 : ∀ p, (if p < k then lowS s m p else lowTo s m p m.length) = lowS s m p := fun p => by split <;> rfl
 have e2 : ∀ p, (if p < k then highS s m p else highTo s m p m.length) = highS s m p := fun p => by split <;> rfl
 simp only [e1, e2]
theorem part_step (s : Sh) (m : List Nat) {k : Nat} (j : Nat) (hk : k < 3) : (partF s m k j)[k * 2]? = some ((lowTo s m k j : Nat) : Int) ∧ (partF s m k j)[k * 2 + 1]? = some ((highTo s m k j : Nat) : Int) ∧ ∀ i, i ≠ k * 2 → i ≠ k * 2 + 1 → (partF s m k (j + 1))[i]? = (partF s m k j)[i]? := by
 refine ⟨?_, ?_, fun i h1 h2 => ?_⟩
 ·rw [fill_get _ _ _ (by omega), if_pos (by omega), if_pos (by omega), show k * 2 / 2 = k by omega, if_neg (by omega)]
 ·rw [fill_get _ _ _ (by omega), if_pos (by omega), if_neg (by omega), show (k * 2 + 1) / 2 = k by omega, if_neg (by omega)]
 ·by_cases hj : i < 6
  ·rw [fill_get _ _ _ hj, fill_get _ _ _ hj]
   by_cases hq : i / 2 < k + 1
   ·rw [if_pos hq, if_pos hq, if_pos (show i / 2 < k by omega), if_pos (show i / 2 < k by omega), if_pos (show i / 2 < k by omega), if_pos (show i / 2 < k by omega)]
   ·rw [if_neg hq, if_neg hq]
  ·simp [fillL, hj]
theorem sums_small {s : Sh} (g : Fine s) {m : List Nat} (hm : IsMix s m) {p : Nat} (hp : p < 3) (k : Nat) (hk : k ≤ m.length) : lowTo s m p k ≤ 792 * k ∧ highTo s m p k ≤ 792 * k := by
 induction k with
 | zero => simp [lowTo, highTo]
 | succ k ih =>
  have h1 := ih (by omega)
  have h2 := g.tin (s.tins.getD k []) (by rw [show s.tins.getD k [] = s.tins[k]'(by have := hm.len; omega) by simp [List.getD, show k < s.tins.length by have := hm.len; omega]]; exact List.getElem_mem _) p hp
  have h3 : m.getD k 0 ≤ 8 := by
   rw [show m.getD k 0 = m[k] by simp [List.getD, show k < m.length by omega]]; exact hm.le _ (List.getElem_mem _)
  have h4 := Nat.mul_le_mul h3 (show tlo (s.tins.getD k []) p ≤ 99 by omega)
  have h5 := Nat.mul_le_mul h3 (show thi (s.tins.getD k []) p ≤ 99 by omega)
  rw [lowTo_succ, highTo_succ]
  omega

theorem rSums_any (s : Sh) (g : Fine s) (m : List Nat) (hm : IsMix s m) (ot : Option Addr) (cap : Nat) (om : Option Addr) (cm : Nat) (w : World) (h : TinsAt w ot (ofSh s).tins) (hi : IntsAt w om (upL m)) :
  Calls Tryz.prog 62 #[sheetV (ofSh s) ot cap, .slice om m.length cm] w fun e w' => e = .returned (sumsV s m) ∧ Ext w w' := by
 have hm4 : m.length ≤ 4 := by have := g.len2; have := hm.len; omega
 have Hml := Lib.hid hm.len
 have H := Lib.hid h
 have Hi := Lib.hid hi
 have Hc := Lib.hid (fun W (hW : Ext w W) i (hi : i < m.length) p (hp : p < 3) => tin_cell (H.out.ext hW) g (i := i) (p := p) (by have := Hml.out; omega) hp)
 have Hm8 := Lib.hid (fun i (hi : i < m.length) => (show m.getD i 0 ≤ 8 from by have := hm.le m[i] (List.getElem_mem hi); simpa [List.getD, hi] using this))
 have Ht9 := Lib.hid (fun i (hi : i < m.length) p (hp : p < 3) => (show tlo (s.tins.getD i []) p ≤ 99 ∧ thi (s.tins.getD i []) p ≤ 99 from by
  have hi' : i < s.tins.length := by have := Hml.out; omega
  have := g.tin (s.tins.getD i []) (by simp [List.getD, hi']) p hp
  omega))
 have Hsm := Lib.hid (fun p (hp : p < 3) k (hk : k ≤ m.length) => sums_small g hm hp k hk)
 clear h hi hm g
 go_enter Tryz.func62, Tryz.ntmps62
 go_wp2
 obtain ⟨w0, hw0⟩ : ∃ w0, w0 = ((w.alloc (.cells (sheetC (ofSh s) ot cap) 28)).alloc (.cells #[.int .i64 0, .int .i64 0, .int .i64 0, .int .i64 0, .int .i64 0, .int .i64 0] 25)).alloc (.cells #[.int .i64 0, .int .i64 0, .int .i64 0, .int .i64 0, .int .i64 0, .int .i64 0] 25) := ⟨_, rfl⟩
 have hE0 : Ext w w0 := by rw [hw0]; exact (((Ext.refl w).alloc _).alloc _).alloc _
 have C12 := Lib.hid (show w0.cell? ⟨w.heap.size, 12, none⟩ = some (.slice ot s.tins.length cap) by rw [hw0, ← tins_len s]; exact cell_ext (((Ext.refl _).alloc _).alloc _) (sheet_box s ot cap w 12 _ rfl))
 have hob : OBx (w.heap.size + 1 + 1) w0 w0 (sumF s m 0) := by
  refine ⟨Turned.refl _ _, fun j x hj => ?_, fun j hj => ?_⟩
  ·have hj6 : j < 6 := by have := (List.getElem?_eq_some_iff.1 hj).1; rw [fill_len] at this; exact this
   rw [fill_get _ _ 0 hj6] at hj
   rw [hw0]
   match j, hj6 with
   | 0, _ => cases hj; go_simp
   | 1, _ => cases hj; go_simp
   | 2, _ => cases hj; go_simp
   | 3, _ => cases hj; go_simp
   | 4, _ => cases hj; go_simp
   | 5, _ => cases hj; go_simp
  ·rw [hw0]; go_simp
 have Hob := Lib.hid hob
 have Hr0 := Lib.hid (show ∀ j, j < 6 → w0.cell? ⟨w.heap.size + 1, j, none⟩ = some (.int .i64 0) from fun j hj => by
  rw [hw0]
  match j, hj with
  | 0, _ => go_simp
  | 1, _ => go_simp
  | 2, _ => go_simp
  | 3, _ => go_simp
  | 4, _ => go_simp
  | 5, _ => go_simp)
 have Hq0 := Lib.hid (show ∀ j, j < 6 → w0.frozen? ⟨w.heap.size + 1, j, none⟩ = false from fun j hj => by rw [hw0]; go_simp)
 have HE0 := Lib.hid hE0
 have hw0l : w.heap.size + 2 < w0.heap.size := by rw [hw0]; simp
 rw [← hw0]
 clear hw0 hob hE0
 go_loopg [6, 7, 8] 3 (fun g i a b wr => ∃ k : Nat, k + g = 3 ∧ i = .int .i64 k ∧ OBx (w.heap.size + 1 + 1) w0 wr (sumF s m k))
 case atStart => exact ⟨0, by simp, rfl, Hob.out⟩
 case round =>
  obtain ⟨k, hk, rfl, hob⟩ := hrel
  have Ob := Lib.hid hob
  clear hob Hob
  obtain ⟨g0, rfl⟩ : ∃ g0 : Nat, g0 = gk := ⟨_, rfl⟩
  by_cases hlt : k < 3
  ·have hkI : (k : Int) < 3 := by omega
   have Hob1 := Lib.hid (show OBx (w.heap.size + 1 + 1) w0 wr (partF s m k 0) by rw [part_zero]; exact Ob.out)
   clear Ob
   go_wp2
   go_loopg [7, 8] m.length (fun g i b wr => ∃ j : Nat, j + g = m.length ∧ i = .int .i64 j ∧ OBx (w.heap.size + 1 + 1) w0 wr (partF s m k j))
   case atStart => exact ⟨0, by omega, rfl, Hob1.out⟩
   case round =>
    clear Hob1
    obtain ⟨j, hj, rfl, hob⟩ := hrel
    have Ob := Lib.hid hob
    have hE := ext_own HE0.out hob.turned (by omega)
    have HE := Lib.hid hE
    have hsz := hob.turned.size
    clear hob
    by_cases hlt2 : j < m.length
    ·obtain ⟨bm, om2, hbm, hbl, hcm0⟩ := Hi.out.at (k := j) (by rw [upL_length]; exact hlt2)
     subst hbm
     rw [show (upL m)[j]'(by rw [upL_length]; exact hlt2) = ((m.getD j 0 : Nat) : Int) by simp [upL, List.getD, hlt2]] at hcm0
     have hcm := cell_ext hE hcm0
     clear hcm0
     obtain ⟨bt, ot2, hbt, _, u0, u1⟩ := Hc.out _ hE j hlt2 k hlt
     subst hbt
     have c12 : wr.cell? ⟨w.heap.size, 12, none⟩ = some (.slice (some ⟨bt, ot2, none⟩) s.tins.length cap) := Turned.cell Ob.out.turned (by simp <;> omega) C12.out
     have ha := Ob.out.c (k * 2) _ (part_step s m j hlt).1
     have hb := Ob.out.c (k * 2 + 1) _ (part_step s m j hlt).2.1
     have fa := Ob.out.f (k * 2) (by omega)
     have fb := Ob.out.f (k * 2 + 1) (by omega)
     have h8 := Hm8.out j hlt2
     have h9 := Ht9.out j hlt2 k hlt
     have hmul := Nat.mul_le_mul h8 h9.1
     have hmul2 := Nat.mul_le_mul h8 h9.2
     have hsm := Hsm.out k hlt j (by omega)
     have htk : (j : Int) < (s.tins.length : Int) := by have := Hml.out; omega
     have Hs := Lib.hid (lowTo_succ s m k j)
     have Hs2 := Lib.hid (highTo_succ s m k j)
     have Hst := Lib.hid (part_step s m (k := k) j hlt).2.2
     have Hst1 := Lib.hid (part_step s m (k := k) (j + 1) hlt)
     have Hg0 := Lib.hid (show ∃ x, (partF s m k j)[0]? = some x from ⟨_, fill_get _ _ _ (by omega)⟩)
     have Hl1 := Lib.hid (show (partF s m k j).length = 6 from fill_len _ _ _)
     have Hl2 := Lib.hid (show (partF s m k (j + 1)).length = 6 from fill_len _ _ _)
     obtain ⟨P1, hP1⟩ : ∃ P, P = partF s m k (j + 1) := ⟨_, rfl⟩
     rw [← hP1] at Hst Hst1 Hl2
     have HP1 := Lib.hid hP1
     clear hP1
     generalize partF s m k j = P0 at *
     generalize lowTo s m k (j + 1) = V1 at *
     generalize highTo s m k (j + 1) = V2 at *
     generalize lowTo s m k j = V at *
     generalize highTo s m k j = U at *
     generalize m.getD j 0 = X at *
     generalize tlo (s.tins.getD j []) k = Y at *
     generalize thi (s.tins.getD j []) k = Z at *
     have e1 : IntKind.i64.wrap ((X : Int) * (Y : Int)) = ((X * Y : Nat) : Int) := by rw [← Int.natCast_mul, IntWalk.i64_in _ (by omega)]
     have e2 : IntKind.i64.wrap ((X : Int) * (Z : Int)) = ((X * Z : Nat) : Int) := by rw [← Int.natCast_mul, IntWalk.i64_in _ (by omega)]
     generalize X * Y = XY at *
     generalize X * Z = XZ at *
     have e3 : IntKind.i64.wrap ((V : Int) + (XY : Int)) = ((V + XY : Nat) : Int) := by rw [IntWalk.i64_in _ (by omega)]; omega
     have e4 : IntKind.i64.wrap ((U : Int) + (XZ : Int)) = ((U + XZ : Nat) : Int) := by rw [IntWalk.i64_in _ (by omega)]; omega
     go_wp2_with fail
     obtain ⟨wb, hwb⟩ : ∃ W, W = wr.alloc (.cells #[.int .i64 (Y : Nat), .int .i64 (Z : Nat)] 24) := ⟨_, rfl⟩
     have hEb : Ext wr wb := by rw [hwb]; exact (Ext.refl _).alloc _
     have v0 : wb.cell? ⟨wr.heap.size, 0, none⟩ = some (.int .i64 (Y : Nat)) := by rw [hwb]; go_simp
     have v1 : wb.cell? ⟨wr.heap.size, 1, none⟩ = some (.int .i64 (Z : Nat)) := by rw [hwb]; go_simp
     rw [← hwb]
     have Obb := Lib.hid (Ob.out.next hEb Hg0.out)
     have ha2 := cell_ext hEb ha
     have hb2 := cell_ext hEb hb
     have hcm2 := cell_ext hEb hcm
     clear hwb u0 u1 c12 ha hb hcm fa fb hE
     have Od := Lib.hid (Obb.out.next (Ext.refl wb).drew Hg0.out)
     have HTd := Lib.hid (Turned.of_ext (b := w.heap.size + 1 + 1) (Ext.refl wb).drew)
     have r0 : wb.drew.cell? ⟨w.heap.size + 1 + 1, k * 2, none⟩ = _ := cell_ext (Ext.refl wb).drew ha2
     have r1 : wb.drew.cell? ⟨w.heap.size + 1 + 1, k * 2 + 1, none⟩ = _ := cell_ext (Ext.refl wb).drew hb2
     have fa := Od.out.f (k * 2) (by omega)
     have fb := Od.out.f (k * 2 + 1) (by omega)
     have rr1 : ∀ v, (wb.drew.setCell ⟨w.heap.size + 1 + 1, k * 2, none⟩ v).cell? ⟨w.heap.size + 1 + 1, k * 2 + 1, none⟩ = some (.int .i64 (U : Nat)) := fun v => (World.cell?_setCell_other _ _ _ _ (by simp)).trans r1
     have ff1 : ∀ v, (wb.drew.setCell ⟨w.heap.size + 1 + 1, k * 2, none⟩ v).frozen? ⟨w.heap.size + 1 + 1, k * 2 + 1, none⟩ = false := fun v => by rw [World.frozen?_setCell]; exact fb
     refine wp_region_plan (.take 0 <| .take 1 <| .take 2 <| .take 3 <| .take 4 <| .take 6 <| .take 7 <| .take 8 <| .take 9 <| .take 10 <| .take 11 <| .take 12 <| .take 14 <| .take 15 <| .take 16 <| .take 18 <| .take 19 <| .take 20 <| .take 21 <| .take 22 <| .take 23 <| .take 24 <| .two 5 17 (.take 13 <| .only 17 <| .take 25 <| .take 26 <| .take 27 <| .only 28 <| .take 29 <| .take 30 <| .only 31 <| .done) (.take 25 <| .only 5 <| .take 13 <| .take 26 <| .take 27 <| .only 28 <| .take 29 <| .take 30 <| .only 31 <| .done)) (fun W => Turned (w.heap.size + 1 + 1) wb W) mixed (by kernel_rfl) (by kernel_rfl) rfl (fun _ _ d _ _ h => by cases d <;> exact h) (HTd.out) ?_
     clear hEb ha2 hb2
     generalize wb.drew = wd at *
     repeat ((first | (refine plan_take (v := ?_) rfl rfl (fun W hW => ?_) ?_; rotate_left; (focus (have d2 := Turned.cell hW (by simp <;> omega) hcm2; have d3 := Turned.cell hW (by simp <;> omega) v0; have d4 := Turned.cell hW (by simp <;> omega) v1; go_simp; first | exact rfl | (split <;> first | exact rfl | (exfalso; omega)) | done))) | refine plan_skip rfl rfl ?_); simp only [puts])
     refine plan_two rfl rfl ?_ ?_
     ·intro K hK
      go_wp2
      refine hK _ _ HTd.out ?_
      repeat ((first | (refine plan_take (v := ?_) rfl rfl (fun W hW => ?_) ?_; rotate_left; (focus (have d2 := Turned.cell hW (by simp <;> omega) hcm2; have d3 := Turned.cell hW (by simp <;> omega) v0; have d4 := Turned.cell hW (by simp <;> omega) v1; go_simp; first | exact rfl | (split <;> first | exact rfl | (exfalso; omega)) | done))) | refine plan_skip rfl rfl ?_); simp only [puts])
      refine plan_walk rfl ?_; intro K hK
      go_wp2
      refine hK _ _ HTd.out ?_
      repeat ((first | (refine plan_take (v := ?_) rfl rfl (fun W hW => ?_) ?_; rotate_left; (focus (have d2 := Turned.cell hW (by simp <;> omega) hcm2; have d3 := Turned.cell hW (by simp <;> omega) v0; have d4 := Turned.cell hW (by simp <;> omega) v1; go_simp; first | exact rfl | (split <;> first | exact rfl | (exfalso; omega)) | done))) | refine plan_skip rfl rfl ?_); simp only [puts])
      refine plan_walk rfl ?_; intro K hK
      clear hcm2 v0 v1
      go_wp2
      refine hK _ _ (HTd.out.set (k * 2) _) ?_
      repeat ((first | (refine plan_take (v := ?_) rfl rfl (fun W hW => ?_) ?_; rotate_left; (focus (skip; go_simp; first | exact rfl | (split <;> first | exact rfl | (exfalso; omega)) | done))) | refine plan_skip rfl rfl ?_); simp only [puts])
      refine plan_walk rfl ?_; intro K hK
      go_wp2
      refine hK _ _ ((HTd.out.set (k * 2) _).set (k * 2 + 1) _) ?_
      refine plan_done ?_
      have Ose := Lib.hid (Od.out.set (ys := P1) (k * 2) ((V : Int) + (XY : Int)) ((U : Int) + (XZ : Int)) (by omega) Hl1.out Hl2.out (by rw [Hst1.out.1, Hs.out, Int.natCast_add]) (by rw [Hst1.out.2.1, Hs2.out, Int.natCast_add]) Hst.out)
      clear r0 r1 fa fb rr1 ff1
      go_wp2
      go_roundg (gk - 1)
      case measure => omega
      case rel => exact ⟨j + 1, by omega, by go_num, by rw [← HP1.out]; exact Ose.out⟩
     ·intro K hK
      go_wp2
      refine hK _ _ HTd.out ?_
      repeat ((first | (refine plan_take (v := ?_) rfl rfl (fun W hW => ?_) ?_; rotate_left; (focus (have d2 := Turned.cell hW (by simp <;> omega) hcm2; have d3 := Turned.cell hW (by simp <;> omega) v0; have d4 := Turned.cell hW (by simp <;> omega) v1; go_simp; first | exact rfl | (split <;> first | exact rfl | (exfalso; omega)) | done))) | refine plan_skip rfl rfl ?_); simp only [puts])
      refine plan_walk rfl ?_; intro K hK
      go_wp2
      refine hK _ _ HTd.out ?_
      repeat ((first | (refine plan_take (v := ?_) rfl rfl (fun W hW => ?_) ?_; rotate_left; (focus (have d2 := Turned.cell hW (by simp <;> omega) hcm2; have d3 := Turned.cell hW (by simp <;> omega) v0; have d4 := Turned.cell hW (by simp <;> omega) v1; go_simp; first | exact rfl | (split <;> first | exact rfl | (exfalso; omega)) | done))) | refine plan_skip rfl rfl ?_); simp only [puts])
      refine plan_walk rfl ?_; intro K hK
      clear hcm2 v0 v1
      go_wp2
      refine hK _ _ (HTd.out.set (k * 2) _) ?_
      repeat ((first | (refine plan_take (v := ?_) rfl rfl (fun W hW => ?_) ?_; rotate_left; (focus (skip; go_simp; first | exact rfl | (split <;> first | exact rfl | (exfalso; omega)) | done))) | refine plan_skip rfl rfl ?_); simp only [puts])
      refine plan_walk rfl ?_; intro K hK
      go_wp2
      refine hK _ _ ((HTd.out.set (k * 2) _).set (k * 2 + 1) _) ?_
      refine plan_done ?_
      have Ose := Lib.hid (Od.out.set (ys := P1) (k * 2) ((V : Int) + (XY : Int)) ((U : Int) + (XZ : Int)) (by omega) Hl1.out Hl2.out (by rw [Hst1.out.1, Hs.out, Int.natCast_add]) (by rw [Hst1.out.2.1, Hs2.out, Int.natCast_add]) Hst.out)
      clear r0 r1 fa fb rr1 ff1
      go_wp2
      go_roundg (gk - 1)
      case measure => omega
      case rel => exact ⟨j + 1, by omega, by go_num, by rw [← HP1.out]; exact Ose.out⟩
    ·obtain rfl : j = m.length := by omega
     have hob2 := Lib.hid (show OBx (w.heap.size + 1 + 1) w0 wr (sumF s m (k + 1)) by rw [← part_end]; exact Ob.out)
     clear Ob
     go_wp2
     go_roundg (g0 - 1)
     case measure => omega
     case rel => exact ⟨k + 1, by omega, by go_num, hob2.out⟩
  ·obtain rfl : k = 3 := by omega
   have b0 : wr.cell? ⟨w.heap.size + 1 + 1, 0, none⟩ = some (.int .i64 (lowS s m 0 : Nat)) := Ob.out.c 0 _ (by rw [fill_get _ _ 3 (by omega)]; rfl)
   have z0 : wr.cell? ⟨w.heap.size + 1, 0, none⟩ = some (.int .i64 0) := Turned.cell Ob.out.turned (by simp <;> omega) (Hr0.out 0 (by omega))
   have y0 : wr.frozen? ⟨w.heap.size + 1, 0, none⟩ = false := (Turned.frozen Ob.out.turned (by simp <;> omega) (by simp; omega)).trans (Hq0.out 0 (by omega))
   have b1 : wr.cell? ⟨w.heap.size + 1 + 1, 1, none⟩ = some (.int .i64 (highS s m 0 : Nat)) := Ob.out.c 1 _ (by rw [fill_get _ _ 3 (by omega)]; rfl)
   have z1 : wr.cell? ⟨w.heap.size + 1, 1, none⟩ = some (.int .i64 0) := Turned.cell Ob.out.turned (by simp <;> omega) (Hr0.out 1 (by omega))
   have y1 : wr.frozen? ⟨w.heap.size + 1, 1, none⟩ = false := (Turned.frozen Ob.out.turned (by simp <;> omega) (by simp; omega)).trans (Hq0.out 1 (by omega))
   have b2 : wr.cell? ⟨w.heap.size + 1 + 1, 2, none⟩ = some (.int .i64 (lowS s m 1 : Nat)) := Ob.out.c 2 _ (by rw [fill_get _ _ 3 (by omega)]; rfl)
   have z2 : wr.cell? ⟨w.heap.size + 1, 2, none⟩ = some (.int .i64 0) := Turned.cell Ob.out.turned (by simp <;> omega) (Hr0.out 2 (by omega))
   have y2 : wr.frozen? ⟨w.heap.size + 1, 2, none⟩ = false := (Turned.frozen Ob.out.turned (by simp <;> omega) (by simp; omega)).trans (Hq0.out 2 (by omega))
   have b3 : wr.cell? ⟨w.heap.size + 1 + 1, 3, none⟩ = some (.int .i64 (highS s m 1 : Nat)) := Ob.out.c 3 _ (by rw [fill_get _ _ 3 (by omega)]; rfl)
   have z3 : wr.cell? ⟨w.heap.size + 1, 3, none⟩ = some (.int .i64 0) := Turned.cell Ob.out.turned (by simp <;> omega) (Hr0.out 3 (by omega))
   have y3 : wr.frozen? ⟨w.heap.size + 1, 3, none⟩ = false := (Turned.frozen Ob.out.turned (by simp <;> omega) (by simp; omega)).trans (Hq0.out 3 (by omega))
   have b4 : wr.cell? ⟨w.heap.size + 1 + 1, 4, none⟩ = some (.int .i64 (lowS s m 2 : Nat)) := Ob.out.c 4 _ (by rw [fill_get _ _ 3 (by omega)]; rfl)
   have z4 : wr.cell? ⟨w.heap.size + 1, 4, none⟩ = some (.int .i64 0) := Turned.cell Ob.out.turned (by simp <;> omega) (Hr0.out 4 (by omega))
   have y4 : wr.frozen? ⟨w.heap.size + 1, 4, none⟩ = false := (Turned.frozen Ob.out.turned (by simp <;> omega) (by simp; omega)).trans (Hq0.out 4 (by omega))
   have b5 : wr.cell? ⟨w.heap.size + 1 + 1, 5, none⟩ = some (.int .i64 (highS s m 2 : Nat)) := Ob.out.c 5 _ (by rw [fill_get _ _ 3 (by omega)]; rfl)
   have z5 : wr.cell? ⟨w.heap.size + 1, 5, none⟩ = some (.int .i64 0) := Turned.cell Ob.out.turned (by simp <;> omega) (Hr0.out 5 (by omega))
   have y5 : wr.frozen? ⟨w.heap.size + 1, 5, none⟩ = false := (Turned.frozen Ob.out.turned (by simp <;> omega) (by simp; omega)).trans (Hq0.out 5 (by omega))
   have HEw := Lib.hid (ext_own HE0.out Ob.out.turned (by omega))
   clear Ob
   go_wp2
   refine bodyPost_ret (v := sumsV s m) (results_cells (n := 6) rfl (by kernel_rfl) (by kernel_rfl) _ (w.heap.size + 1) [.int .i64 (lowS s m 0 : Nat), .int .i64 (highS s m 0 : Nat), .int .i64 (lowS s m 1 : Nat), .int .i64 (highS s m 1 : Nat), .int .i64 (lowS s m 2 : Nat), .int .i64 (highS s m 2 : Nat)] rfl (by simp) (fun j v hv => ?_)) (by simp) ⟨rfl, ?_⟩
   ·match j, hv with
    | 0, hv => cases hv; go_simp
    | 1, hv => cases hv; go_simp
    | 2, hv => cases hv; go_simp
    | 3, hv => cases hv; go_simp
    | 4, hv => cases hv; go_simp
    | 5, hv => cases hv; go_simp
   ·exact ext_set (ext_set (ext_set (ext_set (ext_set (ext_set HEw.out (by omega)) (by omega)) (by omega)) (by omega)) (by omega)) (by omega)

end Go.Proofs.YtjpekonfjihcoaaGreatDoor
