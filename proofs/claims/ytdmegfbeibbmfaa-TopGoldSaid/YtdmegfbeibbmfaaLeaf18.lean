/- Contracts: bests, Cut. No condition beyond jobs as defined. -/
import Derived.Test.YtdmegfbeibbmfaaLeaf17
import Derived.Test.YtdmegfbeibbmfaaG2
set_option linter.unusedVariables false
set_option linter.unusedSimpArgs false
namespace Go.Proofs.Ytdmegfbeibbmfaa
open Go.RowKit Go.My Go.GoldM

set_option maxHeartbeats 1000000 in
theorem cuttings32 (j : Jb) (og op : Option Addr) (cg cp : Nat) (w : World) : Calls Try.prog 32 #[jobV j og cg op cp] w fun e w' => e = .returned (.func (.func 52) #[] #[.pointer (some ⟨w.heap.size, 0, none⟩)]) ∧ w' = w.alloc (.cells (jobL' j og cg op cp).toArray 30) := by
  go_enter Try.func32, Try.ntmps32
  go_wp2
  go_ret
  exact ⟨rfl, rfl⟩

set_option maxRecDepth 100000 in
set_option maxHeartbeats 1000000 in
theorem bests14 (j : Jb) (f : Fine j) (og op : Option Addr) (cg cp : Nat) (w : World) (hp : PcsAt w op j.pieces) :
    Calls Try.prog 14 #[jobV j og cg op cp] w fun e w' => ∃ v, e = .returned v ∧ CutsV w' v (bests j) ∧ Ext w w' := by
  have R31 := Lib.hid (fun W (hE : Ext w W) (bj : Nat) (hb : bj < W.heap.size) (hv : VB W bj (jobL' j og cg op cp)) => best31 j f og op cg cp bj W hb hv (hp.ext hE))
  clear hp f
  go_enter Try.func14, Try.ntmps14
  go_wp2_with (first | (go_at_call 32; refine (cuttings32 j og op cg cp _).mono ?_; rintro e w1 ⟨rfl, h1⟩; have H1 := Lib.hid h1; clear h1) | (go_at_call 31; refine (R31.out _ (by rw [H1.out]; exact ((Ext.refl w).alloc _).alloc _) _ (by rw [H1.out]; simp) (by rw [H1.out]; have h9 := VB.new (w.alloc (.cells (jobL' j og cg op cp).toArray 30)) (jobL' j og cg op cp) 30; simpa only [World.size_alloc] using h9)).mono ?_; rintro e w2 ⟨v, rfl, h2, h3⟩; have H2 := Lib.hid h2; have H3 := Lib.hid h3; clear h2 h3))
  go_ret
  exact ⟨_, rfl, H2.out, by have := H3.out; rw [H1.out] at this; exact (((Ext.refl w).alloc _).alloc _).trans this⟩

/-- The head's cells. -/
theorem CutsV.head {W : World} {v : Value} {L : List (List Nat × Nat)} (h : CutsV W v L) {x : List Nat × Nat} (hx : L[0]? = some x) : ∃ g n cap om cm, v = .slice (some ⟨g, 0, none⟩) (n + 1) cap ∧ n + 1 ≤ cap ∧ W.cell? ⟨g, 0, none⟩ = some (.slice om x.1.length cm) ∧ W.cell? ⟨g, 1, none⟩ = some (.int .i64 (x.2 : Nat)) ∧ IntsAt W om (upL x.1) := by
  obtain ⟨B, xs, hrow, hel⟩ := h
  obtain ⟨om, cm, h1, h2, _⟩ := hel x hx
  have hl := (List.getElem?_eq_some_iff.1 hx).1
  rcases id hrow.2 with ⟨_, h0⟩ | ⟨g, cap, cur, rfl, hb, hh, k1, k2, _⟩
  · omega
  · have hc := hrow.cells (g := g) rfl
    have x0 := hc _ _ (h1 0 _ rfl)
    have x1 := hc _ _ (h1 1 _ rfl)
    rw [add_none] at x0 x1
    obtain ⟨n, hn⟩ : ∃ n, L.length = n + 1 := ⟨L.length - 1, by omega⟩
    exact ⟨g, n, cap, om, cm, by rw [hn], by omega, x0, x1, (own_nats h2).2.2⟩

set_option maxRecDepth 100000 in
set_option maxHeartbeats 2000000 in
theorem cut5 (j : Jb) (f : Fine j) (og op : Option Addr) (cg cp : Nat) (w : World) (hj : JAt w j og op) (x : List Nat × Nat) (hx : (bests j)[0]? = some x) :
    Calls Try.prog 5 #[jobV j og cg op cp] w fun e w' => ∃ om cm, e = .returned (.tuple #[.slice om x.1.length cm, .int .i64 (x.2 : Nat), .int .i64 0]) ∧ IntsAt w' om (upL x.1) ∧ Ext w w' := by
  have R13 := Lib.hid (fun W (hE : Ext w W) => isJob13 j f og op cg cp W (hj.ext hE))
  have R14 := Lib.hid (fun W (hE : Ext w W) => bests14 j f og op cg cp W (hj.ps.ext hE))
  have HB := Lib.hid ((VB.new w (jobL' j og cg op cp) 30))
  have Hx := Lib.hid hx
  clear hj hx f
  go_enter Try.func5, Try.ntmps5
  go_wp2_with (first | (go_at_call 13; refine (R13.out _ ((Ext.refl w).alloc _)).mono ?_; rintro e w1 ⟨rfl, h1⟩; have H1 := Lib.hid (((Ext.refl w).alloc _).trans h1); have HB1 := Lib.hid (HB.out.ext h1); clear h1; have b0 := HB1.out 0 _ rfl; have b1 := HB1.out 1 _ rfl; have b2 := HB1.out 2 _ rfl; have b3 := HB1.out 3 _ rfl; have b4 := HB1.out 4 _ rfl; have b5 := HB1.out 5 _ rfl) | (go_at_call 14; refine (R14.out _ H1.out).mono ?_; rintro e w2 ⟨v, rfl, h2, h3⟩; obtain ⟨g, n, cap, om, cm, rfl, hcap, k0, k1, k2⟩ := h2.head Hx.out; have H2 := Lib.hid k2; have H3 := Lib.hid (H1.out.trans h3); clear h2 h3 k2 b0 b1 b2 b3 b4 b5))
  refine wp_region_plan (.take 0 <| .take 1 <| .take 2 <| .take 3 <| .take 4 <| .take 5 <| .take 6 <| .take 7 <| .take 8 <| .take 9 <| .take 10 <| .done) (fun W => Ext w2 W) mixed (by kernel_rfl) (by kernel_rfl) rfl (fun _ _ d _ _ h => by cases d <;> exact h) ((Ext.refl w2).drew) ?_
  repeat ((first | (refine plan_take (v := ?_) rfl rfl (fun W hW => ?_) ?_; rotate_left; (focus (have d0 := cell_ext hW k0; have d1 := cell_ext hW k1; go_simp; first | exact rfl | (split <;> first | exact rfl | (exfalso; omega)) | done))) | refine plan_skip rfl rfl ?_); simp only [Act.put, List.setIfInBounds_toArray, List.set_cons_zero, List.set_cons_succ])
  refine plan_done ?_
  clear k0 k1
  have hX := H3.out.drew
  have hI := H2.out.ext (Ext.refl w2).drew
  go_wp2
  refine bodyPost_ret (results_tmp3 rfl _ _ _) (by simp) ?_
  exact ⟨om, cm, rfl, hI, hX⟩

theorem quo_ceil (n a : Nat) (h : 1 ≤ n) : ((n : Int) + (a : Int) - 1).tdiv (a : Int) = ((ceilN n a : Nat) : Int) := by
  unfold ceilN
  rw [Int.tdiv_eq_ediv_of_nonneg (by omega), show (n : Int) + (a : Int) - 1 = ((n + a - 1 : Nat) : Int) by omega]
  exact (Int.natCast_ediv _ _).symm
theorem ceilN_le (n a : Nat) : ceilN n a ≤ n + a := by
  unfold ceilN
  exact Nat.le_trans (Nat.div_le_self _ _) (by omega)

set_option maxRecDepth 100000 in
set_option maxHeartbeats 2000000 in
theorem books6 (j : Jb) (f : Fine j) (og op : Option Addr) (cg cp : Nat) (w : World) (hj : JAt w j og op) (x : List Nat × Nat) (hx : (bests j)[0]? = some x) (hx1 : 1 ≤ x.2) (hx2 : x.2 ≤ 100) :
    Calls Try.prog 6 #[jobV j og cg op cp] w fun e w' => e = .returned (.tuple #[.agg #[.int .i64 (ceilN x.2 j.book : Nat), .int .i64 (ceilN x.2 (j.book - j.spoilt) : Nat)], .int .i64 0]) ∧ Ext w w' := by
  have R13 := Lib.hid (fun W (hE : Ext w W) => isJob13 j f og op cg cp W (hj.ext hE))
  have R14 := Lib.hid (fun W (hE : Ext w W) => bests14 j f og op cg cp W (hj.ps.ext hE))
  have HB := Lib.hid ((VB.new w (jobL' j og cg op cp) 30).ext ((Ext.refl _).alloc (.cells #[.int .i64 0, .int .i64 0] 24)))
  have HE0 := Lib.hid (((Ext.refl w).alloc (.cells (jobL' j og cg op cp).toArray 30)).alloc (.cells #[.int .i64 0, .int .i64 0] 24))
  have HS := Lib.hid (show CB ((w.alloc (.cells (jobL' j og cg op cp).toArray 30)).alloc (.cells #[.int .i64 0, .int .i64 0] 24)) (w.heap.size + 1) [.int .i64 0, .int .i64 0] by
    have h9 := CB.new (w.alloc (.cells (jobL' j og cg op cp).toArray 30)) [.int .i64 0, .int .i64 0] 24
    simpa only [World.size_alloc] using h9)
  have Hx := Lib.hid hx
  have hb := f.book
  have hsp := f.spoilt
  have z1 : IntKind.i64.wrap ((j.book : Int) - (j.spoilt : Int)) = ((j.book - j.spoilt : Nat) : Int) := by rw [IntWalk.i64_in _ (by omega)]; omega
  clear hj hx f
  go_enter Try.func6, Try.ntmps6
  go_wp2_with (first | (go_at_call 13; refine (R13.out _ HE0.out).mono ?_; rintro e w1 ⟨rfl, h1⟩; have H1 := Lib.hid (HE0.out.trans h1); have HB1 := Lib.hid (HB.out.ext h1); have HS1 := Lib.hid (HS.out.ext h1); clear h1; have b0 := HB1.out 0 _ rfl; have b1 := HB1.out 1 _ rfl; have b2 := HB1.out 2 _ rfl; have b3 := HB1.out 3 _ rfl; have b4 := HB1.out 4 _ rfl; have b5 := HB1.out 5 _ rfl) | (go_at_call 14; refine (R14.out _ H1.out).mono ?_; rintro e w2 ⟨v, rfl, h2, h3⟩; obtain ⟨g, n, cap, om, cm, rfl, hcap, k0, k1, k2⟩ := h2.head Hx.out; have HB2 := Lib.hid (HB1.out.ext h3); have HS2 := Lib.hid (HS1.out.ext h3); have H3 := Lib.hid (H1.out.trans h3); clear h2 h3 k2 b0 b1 b2 b3 b4 b5))
  have b2 := HB2.out 2 _ rfl
  have b3 := HB2.out 3 _ rfl
  refine wp_region_plan (.take 0 <| .take 1 <| .take 2 <| .take 3 <| .take 4 <| .take 5 <| .take 6 <| .take 7 <| .take 8 <| .take 9 <| .take 10 <| .done) (fun W => Ext w2 W) mixed (by kernel_rfl) (by kernel_rfl) rfl (fun _ _ d _ _ h => by cases d <;> exact h) ((Ext.refl w2).drew) ?_
  repeat ((first | (refine plan_take (v := ?_) rfl rfl (fun W hW => ?_) ?_; rotate_left; (focus (have d0 := cell_ext hW k0; have d1 := cell_ext hW k1; have d2 := cell_ext hW b2; have d3 := cell_ext hW b3; go_simp; first | exact rfl | (split <;> first | exact rfl | (exfalso; omega)) | done))) | refine plan_skip rfl rfl ?_); simp only [Act.put, List.setIfInBounds_toArray, List.set_cons_zero, List.set_cons_succ])
  refine plan_done ?_
  have X3 := (Ext.refl w2).drew
  have b2' := cell_ext X3 b2
  have HS3 := Lib.hid (HS2.out.ext X3)
  have H4 := Lib.hid (H3.out.trans X3)
  clear k0 k1 b2 b3 z1 X3
  generalize w2.drew = w3 at *
  obtain ⟨wh, hwh⟩ : ∃ n, n = j.book - j.spoilt := ⟨_, rfl⟩
  rw [← hwh]
  obtain ⟨b, hbe⟩ : ∃ n, n = j.book := ⟨_, rfl⟩
  rw [← hbe] at b2' ⊢
  have hwb : 1 ≤ wh ∧ wh ≤ 25 := by omega
  have hbb : 1 ≤ b ∧ b ≤ 25 := by omega
  have Hwh := Lib.hid hwh
  have Hbe := Lib.hid hbe
  generalize hNx : x.2 = N at *
  have HNx := Lib.hid hNx
  have c1 := quo_ceil N b hx1
  have c2 := quo_ceil N wh hx1
  have l1 := ceilN_le N b
  have l2 := ceilN_le N wh
  generalize hC1 : ceilN N b = C1 at *
  generalize hC2 : ceilN N wh = C2 at *
  have HC1 := Lib.hid hC1
  have HC2 := Lib.hid hC2
  have q1 : IntKind.i64.wrap ((N : Int) + (b : Int)) = (N : Int) + (b : Int) := by rw [IntWalk.i64_in _ (by omega)]
  have q2 : IntKind.i64.wrap ((N : Int) + (b : Int) - 1) = (N : Int) + (b : Int) - 1 := by rw [IntWalk.i64_in _ (by omega)]
  have q3 : IntKind.i64.wrap (C1 : Int) = (C1 : Int) := by rw [IntWalk.i64_in _ (by omega)]
  have q4 : IntKind.i64.wrap ((N : Int) + (wh : Int)) = (N : Int) + (wh : Int) := by rw [IntWalk.i64_in _ (by omega)]
  have q5 : IntKind.i64.wrap ((N : Int) + (wh : Int) - 1) = (N : Int) + (wh : Int) - 1 := by rw [IntWalk.i64_in _ (by omega)]
  have q6 : IntKind.i64.wrap (C2 : Int) = (C2 : Int) := by rw [IntWalk.i64_in _ (by omega)]
  have n1 : ((b : Int) == 0) = false := by rw [beq_eq_false_iff_ne]; omega
  have n2 : ((wh : Int) == 0) = false := by rw [beq_eq_false_iff_ne]; omega
  have n3 : ¬ (b : Int) = 0 := by omega
  have n4 : ¬ (wh : Int) = 0 := by omega
  have hcell0 := HS3.out.c 0 _ rfl
  have hcell1 := HS3.out.c 1 _ rfl
  have hfr0 := HS3.out.f 0 (by simp)
  have hfr1 := HS3.out.f 1 (by simp)
  clear hwh hbe hwb hbb hb hsp hx1 hx2 hC1 hC2 hNx
  go_wp2_with fail
  refine wp_region_plan (.take 0 <| .take 1 <| .take 2 <| .take 3 <| .take 4 <| .take 5 <| .take 6 <| .take 7 <| .take 8 <| .take 9 <| .take 10 <| .take 11 <| .take 12 <| .take 13 <| .take 14 <| .only 15 <| .take 16 <| .done) (fun W => Turned (w.heap.size + 1) w3 W) mixed (by kernel_rfl) (by kernel_rfl) rfl (fun _ _ d _ _ h => by cases d <;> exact h) (Turned.of_ext (Ext.refl w3).drew) ?_
  repeat ((first | (refine plan_take (v := ?_) rfl rfl (fun W hW => ?_) ?_; rotate_left; (focus (have d2 := Turned.cell hW (by simp) b2'; go_simp; first | exact rfl | (split <;> first | exact rfl | (exfalso; omega)) | done))) | refine plan_skip rfl rfl ?_); simp only [Act.put, List.setIfInBounds_toArray, List.set_cons_zero, List.set_cons_succ])
  refine plan_walk rfl ?_; intro K hK
  have e0 := cell_ext (Ext.refl w3).drew hcell0
  have e1 := cell_ext (Ext.refl w3).drew hcell1
  have g0 := (frozen_ext (p := ⟨w.heap.size + 1, 0, none⟩) (Ext.refl w3).drew (World.block_lt_of_cell? _ _ hcell0)).trans hfr0
  have g1 := (frozen_ext (p := ⟨w.heap.size + 1, 1, none⟩) (Ext.refl w3).drew (World.block_lt_of_cell? _ _ hcell1)).trans hfr1
  have H5 := Lib.hid (H4.out.drew)
  have HS5 := Lib.hid (HS3.out.ext (Ext.refl w3).drew)
  have T5 := Lib.hid (Turned.of_ext (b := w.heap.size + 1) (Ext.refl w3).drew)
  clear hcell0 hcell1 hfr0 hfr1 b2'
  generalize w3.drew = w5 at *
  go_wp2
  refine hK _ _ ((T5.out.set 0 _).set 1 _) ?_
  repeat ((first | (refine plan_take (v := ?_) rfl rfl (fun W hW => ?_) ?_; rotate_left; (focus (skip; go_simp; first | exact rfl | (split <;> first | exact rfl | (exfalso; omega)) | done))) | refine plan_skip rfl rfl ?_); simp only [Act.put, List.setIfInBounds_toArray, List.set_cons_zero, List.set_cons_succ])
  refine plan_done ?_
  clear e0 e1 g0 g1
  go_wp2
  refine bodyPost_ret (results_cellst (n := 2) rfl (by kernel_rfl) (by kernel_rfl) _ (w.heap.size + 1) [.int .i64 (C1 : Nat), .int .i64 (C2 : Nat)] (.int .i64 0) rfl rfl rfl (fun i v hv => (((HS5.out.set (i := 0) (by simp) _).set (i := 1) (by simp) _).c i v hv))) (by simp) ⟨by rw [HNx.out, ← Hwh.out, ← Hbe.out, HC1.out, HC2.out], ext_own (ext_own H5.out ((Turned.refl _ _).set 0 _) (by omega)) ((Turned.refl _ _).set 1 _) (by omega)⟩

end Go.Proofs.Ytdmegfbeibbmfaa
