/- Contracts: paid, Total. No condition beyond sheets as defined. -/
import Derived.Test.YtdmegfbeibbmfaaPrice6
set_option linter.unusedVariables false
set_option linter.unusedSimpArgs false
namespace Go.Proofs.Ytdmegfbeibbmfaa
open Go.RowKit Go.My Go.GoldM

set_option maxRecDepth 100000 in
set_option maxHeartbeats 4000000 in
theorem paid18_1 (s : Sh) (u bo bb bt bh mb t : Nat) (hq : 1 ≤ s.l ∧ s.l ≤ 60) (hu : 1 ≤ u ∧ u ≤ 12) (w : World) (h : ShAt w s bo bb bt) (hh : VB w bh [.int .i64 0]) (hM : w.heap[mb]? = some (.map #[] t)) :
    Calls Try.prog 18 #[blV bo bb bt bh mb, tfV 1 u] w fun e w' => e = .returned (I (ceilN s.l u)) ∧ Mv (fun i => i = mb) w w' := by
  have hmb : mb < w.heap.size := (Array.getElem?_eq_some_iff.1 hM).1
  have R39 := Lib.hid (fun W (hE : Ext w W) => quantities39_1 s u bo bb bt bh mb W (h.ext hE) (hh.ext hE))
  have R38 := Lib.hid (fun W (hE : Ext w W) => price38 1 u s.l bo bb bt bh mb t hq hu W (map_ext hM hE))
  have HE2 := Lib.hid (((Ext.refl w).alloc (.cells (blL bo bb bt bh mb).toArray 69)).alloc (.cells (tfL 1 u).toArray 45))
  clear h hh hM hu
  go_enter Try.func18, Try.ntmps18
  go_wp2_with fail
  obtain ⟨w2, hw2⟩ : ∃ X, X = (w.alloc (.cells #[.slice (some ⟨bo, 0, none⟩) 1 1, .slice (some ⟨bb, 0, none⟩) 1 1, .slice (some ⟨bt, 0, none⟩) 2 2, .slice (some ⟨bh, 0, none⟩) 1 1, .map (some mb)] 69)).alloc (.cells #[I 1, .int .i64 1, I u, .int .i64 2, .bool false] 45) := ⟨_, rfl⟩
  have HX2 := Lib.hid (show Ext w w2 by rw [hw2]; exact HE2.out)
  have HB2 := Lib.hid (show VB w2 w.heap.size (blL bo bb bt bh mb) by rw [hw2]; exact (VB.new w (blL bo bb bt bh mb) 69).ext ((Ext.refl _).alloc _))
  have HT2 := Lib.hid (show VB w2 (w.heap.size + 1) (tfL 1 u) by
    have h9 := VB.new (w.alloc (.cells (blL bo bb bt bh mb).toArray 69)) (tfL 1 u) 45
    rw [World.size_alloc] at h9
    rw [hw2]; exact h9)
  rw [← hw2]
  clear hw2 HE2
  have n0 : ¬ w.heap.size = mb := by omega
  have n1 : ¬ w.heap.size + 1 = mb := by omega
  refine wp_region_plan (.take 0 <| .take 1 <| .take 2 <| .take 3 <| .only 4 <| .only 5 <| .only 6 <| .take 7 <| .done) (fun W => Mv (fun i => i = mb) w2 W) mixed (by kernel_rfl) (by kernel_rfl) rfl (fun _ _ d _ _ h => by cases d <;> exact h) (Mv.of_ext (Ext.refl w2).drew) ?_
  repeat ((first | (refine plan_take (v := ?_) rfl rfl (fun W hW => ?_) ?_; rotate_left; (focus (have e0 := hW.cell n0 (HB2.out 0 _ rfl); have e1 := hW.cell n0 (HB2.out 1 _ rfl); have e2 := hW.cell n0 (HB2.out 2 _ rfl); have e3 := hW.cell n0 (HB2.out 3 _ rfl); have e4 := hW.cell n0 (HB2.out 4 _ rfl); have t0 := hW.cell n1 (HT2.out 0 _ rfl); have t1 := hW.cell n1 (HT2.out 1 _ rfl); have t2 := hW.cell n1 (HT2.out 2 _ rfl); have t3 := hW.cell n1 (HT2.out 3 _ rfl); have t4 := hW.cell n1 (HT2.out 4 _ rfl); go_simp; first | exact rfl | (split <;> first | exact rfl | (exfalso; omega)) | done))) | refine plan_skip rfl rfl ?_); simp only [Act.put, List.setIfInBounds_toArray, List.set_cons_zero, List.set_cons_succ])
  have X3 := (Ext.refl w2).drew
  generalize w2.drew = w3 at *
  refine plan_walk rfl ?_; intro K hK
  go_wp2_with (first | (go_at_call 39; refine (R39.out _ (HX2.out.trans X3)).mono ?_; rintro e w4 ⟨v, rfl, hO, h4⟩))
  have X4 := X3.trans h4
  refine hK _ _ (Mv.of_ext X4) ?_
  obtain ⟨oa, ca, rfl, _⟩ := hO.slice
  have hi := own_nats (l := [s.l]) hO
  have R36 := Lib.hid (sum36 [(s.l : Int)] oa ca w4 hi.2.2 (by simp) (fun y hy => by simp at hy; omega))
  clear hi hO
  refine plan_walk rfl ?_; intro K hK
  go_wp2_with (first | (go_at_call 36; refine (R36.out).mono ?_; rintro e w5 ⟨rfl, h5⟩; obtain rfl := h5.symm))
  refine hK _ _ (Mv.of_ext X4) ?_
  have hsum : [(s.l : Int)].sum = (s.l : Int) := by simp
  refine plan_walk rfl ?_; intro K hK
  go_wp2_with (first | (go_at_call 38; refine (R38.out _ (HX2.out.trans X4)).mono ?_; rintro e w6 ⟨rfl, h6⟩))
  have HM6 := Lib.hid ((Mv.of_ext (I := fun i => i = mb) (HX2.out.trans X4)).trans h6)
  refine hK _ _ ((Mv.of_ext X4).trans h6) ?_
  repeat ((first | (refine plan_take (v := ?_) rfl rfl (fun W hW => ?_) ?_; rotate_left; (focus (skip; go_simp; first | exact rfl | (split <;> first | exact rfl | (exfalso; omega)) | done))) | refine plan_skip rfl rfl ?_); simp only [Act.put, List.setIfInBounds_toArray, List.set_cons_zero, List.set_cons_succ])
  refine plan_done ?_
  go_wp2
  go_ret
  exact ⟨rfl, HM6.out⟩

set_option maxRecDepth 100000 in
set_option maxHeartbeats 4000000 in
theorem total7_1 (s : Sh) (f : FineS s) (hq : 1 ≤ s.l ∧ s.l ≤ 60) (bo bb bt bh : Nat) (w : World) (h : ShAt w s bo bb bt) (hh : VB w bh [.int .i64 0]) :
    Calls Try.prog 7 #[shV bo bb bt, .int .i64 0, .slice (some ⟨bh, 0, none⟩) 1 1] w fun e w' => e = .returned (.tuple #[I (ceilN s.l s.u0), .int .i64 0]) ∧ Ext w w' := by
  have HE0 := Lib.hid ((Ext.refl w).alloc (.cells (shL bo bb bt).toArray 48))
  have HB := Lib.hid (VB.new w (shL bo bb bt) 48)
  have H := Lib.hid h
  have Hh := Lib.hid hh
  have R15 := Lib.hid (fun W (hE : Ext w W) => isOne15 s f bo bb bt 0 (by decide) W (h.ext hE))
  have R16 := Lib.hid (fun W (hE : Ext w W) => areHours16 s bo bb bt bh W (h.ext hE) (hh.ext hE))
  have R17 := Lib.hid (fun W => billOf17 bo bb bt bh W)
  have R18 := Lib.hid (fun mb W (hE : Ext w W) (hM : W.heap[mb]? = some (.map #[] 0)) => paid18_1 s s.u0 bo bb bt bh mb 0 hq f.u0 W (h.ext hE) (hh.ext hE) hM)
  clear h hh f hq
  go_enter Try.func7, Try.ntmps7
  go_wp2_with (first | (go_at_call 15; refine (R15.out _ HE0.out).mono ?_; rintro e w1 ⟨rfl, h1⟩; have HX1 := Lib.hid (HE0.out.trans h1); have HB1 := Lib.hid (HB.out.ext h1); clear h1; have b0 := HB1.out 0 _ rfl; have b1 := HB1.out 1 _ rfl; have b2 := HB1.out 2 _ rfl) | (go_at_call 16; refine (R16.out _ HX1.out).mono ?_; rintro e w2 ⟨rfl, h2⟩; have HX2 := Lib.hid (HX1.out.trans h2); have HB2 := Lib.hid (HB1.out.ext h2); clear h2 b0 b1 b2))
  have b0 := HB2.out 0 _ rfl
  have b1 := HB2.out 1 _ rfl
  have b2 := HB2.out 2 _ rfl
  have HT := Lib.hid (H.out.t.ext HX2.out)
  have t0 := HT.out (0 * 5 + 0) _ rfl
  have t1 := HT.out (0 * 5 + 1) _ rfl
  have t2 := HT.out (0 * 5 + 2) _ rfl
  have t3 := HT.out (0 * 5 + 3) _ rfl
  have t4 := HT.out (0 * 5 + 4) _ rfl
  simp only [Nat.reduceMul, Nat.reduceAdd] at t0 t1 t2 t3 t4
  refine wp_region_plan (.take 0 <| .take 1 <| .take 3 <| .take 4 <| .take 5 <| .take 6 <| .take 7 <| .only 2 <| .only 8 <| .take 9 <| .take 10 <| .done) (fun W => Ext w2 W) mixed (by kernel_rfl) (by kernel_rfl) rfl (fun _ _ d _ _ h => by cases d <;> exact h) ((Ext.refl w2).drew) ?_
  repeat ((first | (refine plan_take (v := ?_) rfl rfl (fun W hW => ?_) ?_; rotate_left; (focus (have d0 := cell_ext hW b0; have d1 := cell_ext hW b1; have d2 := cell_ext hW b2; have u0 := cell_ext hW t0; have u1 := cell_ext hW t1; have u2 := cell_ext hW t2; have u3 := cell_ext hW t3; have u4 := cell_ext hW t4; go_simp; first | exact rfl | (split <;> first | exact rfl | (exfalso; omega)) | done))) | refine plan_skip rfl rfl ?_); simp only [Act.put, List.setIfInBounds_toArray, List.set_cons_zero, List.set_cons_succ])
  have X3 := (Ext.refl w2).drew
  clear b0 b1 b2 t0 t1 t2 t3 t4
  generalize w2.drew = w3 at *
  refine plan_walk rfl ?_; intro K hK
  go_wp2_with (first | (go_at_call 17; refine (R17.out _).mono ?_; rintro e w4 ⟨mb, rfl, hM, hmb, h4⟩))
  have X4 := X3.trans h4
  refine hK _ _ X4 ?_
  refine plan_walk rfl ?_; intro K hK
  go_wp2_with (first | (go_at_call 18; refine (R18.out mb _ (HX2.out.trans X4) hM).mono ?_; rintro e w5 ⟨rfl, h5⟩))
  have X5 := Mv.ext X4 h5 (fun i hi => by rw [hi]; exact Nat.le_trans X3.size hmb)
  have HX5 := Lib.hid (HX2.out.trans X5)
  refine hK _ _ X5 ?_
  repeat ((first | (refine plan_take (v := ?_) rfl rfl (fun W hW => ?_) ?_; rotate_left; (focus (skip; go_simp; first | exact rfl | (split <;> first | exact rfl | (exfalso; omega)) | done))) | refine plan_skip rfl rfl ?_); simp only [Act.put, List.setIfInBounds_toArray, List.set_cons_zero, List.set_cons_succ])
  refine plan_done ?_
  go_wp2
  refine bodyPost_ret (results_tmp2 rfl _ _ _) (by simp) ?_
  exact ⟨rfl, HX5.out⟩
set_option maxRecDepth 100000 in
set_option maxHeartbeats 4000000 in
theorem paid18_2 (s : Sh) (u bo bb bt bh mb t : Nat) (hq : 1 ≤ s.f ∧ s.f ≤ 60) (hu : 1 ≤ u ∧ u ≤ 12) (w : World) (h : ShAt w s bo bb bt) (hh : VB w bh [.int .i64 0]) (hM : w.heap[mb]? = some (.map #[] t)) :
    Calls Try.prog 18 #[blV bo bb bt bh mb, tfV 2 u] w fun e w' => e = .returned (I (ceilN s.f u)) ∧ Mv (fun i => i = mb) w w' := by
  have hmb : mb < w.heap.size := (Array.getElem?_eq_some_iff.1 hM).1
  have R39 := Lib.hid (fun W (hE : Ext w W) => quantities39_2 s u bo bb bt bh mb W (h.ext hE) (hh.ext hE))
  have R38 := Lib.hid (fun W (hE : Ext w W) => price38 2 u s.f bo bb bt bh mb t hq hu W (map_ext hM hE))
  have HE2 := Lib.hid (((Ext.refl w).alloc (.cells (blL bo bb bt bh mb).toArray 69)).alloc (.cells (tfL 2 u).toArray 45))
  clear h hh hM hu
  go_enter Try.func18, Try.ntmps18
  go_wp2_with fail
  obtain ⟨w2, hw2⟩ : ∃ X, X = (w.alloc (.cells #[.slice (some ⟨bo, 0, none⟩) 1 1, .slice (some ⟨bb, 0, none⟩) 1 1, .slice (some ⟨bt, 0, none⟩) 2 2, .slice (some ⟨bh, 0, none⟩) 1 1, .map (some mb)] 69)).alloc (.cells #[I 2, .int .i64 1, I u, .int .i64 2, .bool false] 45) := ⟨_, rfl⟩
  have HX2 := Lib.hid (show Ext w w2 by rw [hw2]; exact HE2.out)
  have HB2 := Lib.hid (show VB w2 w.heap.size (blL bo bb bt bh mb) by rw [hw2]; exact (VB.new w (blL bo bb bt bh mb) 69).ext ((Ext.refl _).alloc _))
  have HT2 := Lib.hid (show VB w2 (w.heap.size + 1) (tfL 2 u) by
    have h9 := VB.new (w.alloc (.cells (blL bo bb bt bh mb).toArray 69)) (tfL 2 u) 45
    rw [World.size_alloc] at h9
    rw [hw2]; exact h9)
  rw [← hw2]
  clear hw2 HE2
  have n0 : ¬ w.heap.size = mb := by omega
  have n1 : ¬ w.heap.size + 1 = mb := by omega
  refine wp_region_plan (.take 0 <| .take 1 <| .take 2 <| .take 3 <| .only 4 <| .only 5 <| .only 6 <| .take 7 <| .done) (fun W => Mv (fun i => i = mb) w2 W) mixed (by kernel_rfl) (by kernel_rfl) rfl (fun _ _ d _ _ h => by cases d <;> exact h) (Mv.of_ext (Ext.refl w2).drew) ?_
  repeat ((first | (refine plan_take (v := ?_) rfl rfl (fun W hW => ?_) ?_; rotate_left; (focus (have e0 := hW.cell n0 (HB2.out 0 _ rfl); have e1 := hW.cell n0 (HB2.out 1 _ rfl); have e2 := hW.cell n0 (HB2.out 2 _ rfl); have e3 := hW.cell n0 (HB2.out 3 _ rfl); have e4 := hW.cell n0 (HB2.out 4 _ rfl); have t0 := hW.cell n1 (HT2.out 0 _ rfl); have t1 := hW.cell n1 (HT2.out 1 _ rfl); have t2 := hW.cell n1 (HT2.out 2 _ rfl); have t3 := hW.cell n1 (HT2.out 3 _ rfl); have t4 := hW.cell n1 (HT2.out 4 _ rfl); go_simp; first | exact rfl | (split <;> first | exact rfl | (exfalso; omega)) | done))) | refine plan_skip rfl rfl ?_); simp only [Act.put, List.setIfInBounds_toArray, List.set_cons_zero, List.set_cons_succ])
  have X3 := (Ext.refl w2).drew
  generalize w2.drew = w3 at *
  refine plan_walk rfl ?_; intro K hK
  go_wp2_with (first | (go_at_call 39; refine (R39.out _ (HX2.out.trans X3)).mono ?_; rintro e w4 ⟨v, rfl, hO, h4⟩))
  have X4 := X3.trans h4
  refine hK _ _ (Mv.of_ext X4) ?_
  obtain ⟨oa, ca, rfl, _⟩ := hO.slice
  have hi := own_nats (l := [s.f]) hO
  have R36 := Lib.hid (sum36 [(s.f : Int)] oa ca w4 hi.2.2 (by simp) (fun y hy => by simp at hy; omega))
  clear hi hO
  refine plan_walk rfl ?_; intro K hK
  go_wp2_with (first | (go_at_call 36; refine (R36.out).mono ?_; rintro e w5 ⟨rfl, h5⟩; obtain rfl := h5.symm))
  refine hK _ _ (Mv.of_ext X4) ?_
  have hsum : [(s.f : Int)].sum = (s.f : Int) := by simp
  refine plan_walk rfl ?_; intro K hK
  go_wp2_with (first | (go_at_call 38; refine (R38.out _ (HX2.out.trans X4)).mono ?_; rintro e w6 ⟨rfl, h6⟩))
  have HM6 := Lib.hid ((Mv.of_ext (I := fun i => i = mb) (HX2.out.trans X4)).trans h6)
  refine hK _ _ ((Mv.of_ext X4).trans h6) ?_
  repeat ((first | (refine plan_take (v := ?_) rfl rfl (fun W hW => ?_) ?_; rotate_left; (focus (skip; go_simp; first | exact rfl | (split <;> first | exact rfl | (exfalso; omega)) | done))) | refine plan_skip rfl rfl ?_); simp only [Act.put, List.setIfInBounds_toArray, List.set_cons_zero, List.set_cons_succ])
  refine plan_done ?_
  go_wp2
  go_ret
  exact ⟨rfl, HM6.out⟩

set_option maxRecDepth 100000 in
set_option maxHeartbeats 4000000 in
theorem total7_2 (s : Sh) (f : FineS s) (hq : 1 ≤ s.f ∧ s.f ≤ 60) (bo bb bt bh : Nat) (w : World) (h : ShAt w s bo bb bt) (hh : VB w bh [.int .i64 0]) :
    Calls Try.prog 7 #[shV bo bb bt, .int .i64 1, .slice (some ⟨bh, 0, none⟩) 1 1] w fun e w' => e = .returned (.tuple #[I (ceilN s.f s.u1), .int .i64 0]) ∧ Ext w w' := by
  have HE0 := Lib.hid ((Ext.refl w).alloc (.cells (shL bo bb bt).toArray 48))
  have HB := Lib.hid (VB.new w (shL bo bb bt) 48)
  have H := Lib.hid h
  have Hh := Lib.hid hh
  have R15 := Lib.hid (fun W (hE : Ext w W) => isOne15 s f bo bb bt 1 (by decide) W (h.ext hE))
  have R16 := Lib.hid (fun W (hE : Ext w W) => areHours16 s bo bb bt bh W (h.ext hE) (hh.ext hE))
  have R17 := Lib.hid (fun W => billOf17 bo bb bt bh W)
  have R18 := Lib.hid (fun mb W (hE : Ext w W) (hM : W.heap[mb]? = some (.map #[] 0)) => paid18_2 s s.u1 bo bb bt bh mb 0 hq f.u1 W (h.ext hE) (hh.ext hE) hM)
  clear h hh f hq
  go_enter Try.func7, Try.ntmps7
  go_wp2_with (first | (go_at_call 15; refine (R15.out _ HE0.out).mono ?_; rintro e w1 ⟨rfl, h1⟩; have HX1 := Lib.hid (HE0.out.trans h1); have HB1 := Lib.hid (HB.out.ext h1); clear h1; have b0 := HB1.out 0 _ rfl; have b1 := HB1.out 1 _ rfl; have b2 := HB1.out 2 _ rfl) | (go_at_call 16; refine (R16.out _ HX1.out).mono ?_; rintro e w2 ⟨rfl, h2⟩; have HX2 := Lib.hid (HX1.out.trans h2); have HB2 := Lib.hid (HB1.out.ext h2); clear h2 b0 b1 b2))
  have b0 := HB2.out 0 _ rfl
  have b1 := HB2.out 1 _ rfl
  have b2 := HB2.out 2 _ rfl
  have HT := Lib.hid (H.out.t.ext HX2.out)
  have t0 := HT.out (1 * 5 + 0) _ rfl
  have t1 := HT.out (1 * 5 + 1) _ rfl
  have t2 := HT.out (1 * 5 + 2) _ rfl
  have t3 := HT.out (1 * 5 + 3) _ rfl
  have t4 := HT.out (1 * 5 + 4) _ rfl
  simp only [Nat.reduceMul, Nat.reduceAdd] at t0 t1 t2 t3 t4
  refine wp_region_plan (.take 0 <| .take 1 <| .take 3 <| .take 4 <| .take 5 <| .take 6 <| .take 7 <| .only 2 <| .only 8 <| .take 9 <| .take 10 <| .done) (fun W => Ext w2 W) mixed (by kernel_rfl) (by kernel_rfl) rfl (fun _ _ d _ _ h => by cases d <;> exact h) ((Ext.refl w2).drew) ?_
  repeat ((first | (refine plan_take (v := ?_) rfl rfl (fun W hW => ?_) ?_; rotate_left; (focus (have d0 := cell_ext hW b0; have d1 := cell_ext hW b1; have d2 := cell_ext hW b2; have u0 := cell_ext hW t0; have u1 := cell_ext hW t1; have u2 := cell_ext hW t2; have u3 := cell_ext hW t3; have u4 := cell_ext hW t4; go_simp; first | exact rfl | (split <;> first | exact rfl | (exfalso; omega)) | done))) | refine plan_skip rfl rfl ?_); simp only [Act.put, List.setIfInBounds_toArray, List.set_cons_zero, List.set_cons_succ])
  have X3 := (Ext.refl w2).drew
  clear b0 b1 b2 t0 t1 t2 t3 t4
  generalize w2.drew = w3 at *
  refine plan_walk rfl ?_; intro K hK
  go_wp2_with (first | (go_at_call 17; refine (R17.out _).mono ?_; rintro e w4 ⟨mb, rfl, hM, hmb, h4⟩))
  have X4 := X3.trans h4
  refine hK _ _ X4 ?_
  refine plan_walk rfl ?_; intro K hK
  go_wp2_with (first | (go_at_call 18; refine (R18.out mb _ (HX2.out.trans X4) hM).mono ?_; rintro e w5 ⟨rfl, h5⟩))
  have X5 := Mv.ext X4 h5 (fun i hi => by rw [hi]; exact Nat.le_trans X3.size hmb)
  have HX5 := Lib.hid (HX2.out.trans X5)
  refine hK _ _ X5 ?_
  repeat ((first | (refine plan_take (v := ?_) rfl rfl (fun W hW => ?_) ?_; rotate_left; (focus (skip; go_simp; first | exact rfl | (split <;> first | exact rfl | (exfalso; omega)) | done))) | refine plan_skip rfl rfl ?_); simp only [Act.put, List.setIfInBounds_toArray, List.set_cons_zero, List.set_cons_succ])
  refine plan_done ?_
  go_wp2
  refine bodyPost_ret (results_tmp2 rfl _ _ _) (by simp) ?_
  exact ⟨rfl, HX5.out⟩
end Go.Proofs.Ytdmegfbeibbmfaa
