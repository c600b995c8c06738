/- Contract: quantities. No condition beyond sheets as defined. -/
import Derived.Test.YtdmegfbeibbmfaaPrice3
set_option linter.unusedVariables false
set_option linter.unusedSimpArgs false
namespace Go.Proofs.Ytdmegfbeibbmfaa
open Go.RowKit Go.My Go.GoldM

theorem method_1 (w : World) : (Go.method 277 144 (.agg #[]) "mahlstick/price.quantity").run Try.prog w = .ok (107, .agg #[]) w := by kernel_rfl
theorem method_2 (w : World) : (Go.method 277 145 (.agg #[]) "mahlstick/price.quantity").run Try.prog w = .ok (108, .agg #[]) w := by kernel_rfl
set_option maxRecDepth 100000 in
set_option maxHeartbeats 4000000 in
theorem quantities39_1 (s : Sh) (u bo bb bt bh mb : Nat) (w : World) (h : ShAt w s bo bb bt) (hh : VB w bh [.int .i64 0]) :
    Calls Try.prog 39 #[blV bo bb bt bh mb, tfV 1 u] w fun e w' => ∃ v, e = .returned v ∧ My.Own w' w.heap.size 3 v [I s.l] ∧ Ext w w' := by
  have R66 := Lib.hid (fun W => kindOf66 1 u (by decide) W)
  have HE0 := Lib.hid (((Ext.refl w).alloc (.cells (blL bo bb bt bh mb).toArray 69)).alloc (.cells (tfL 1 u).toArray 45))
  have HB := Lib.hid ((VB.new w (blL bo bb bt bh mb) 69).ext ((Ext.refl _).alloc (.cells (tfL 1 u).toArray 45)))
  have H := Lib.hid h
  have Hh := Lib.hid hh
  clear h hh
  have hmeth := method_1
  go_enter Try.func39, Try.ntmps39
  go_wp2_with (first | (go_at_call 66; refine (R66.out _).mono ?_; rintro e w1 ⟨rfl, h1⟩; have H1 := Lib.hid (HE0.out.trans h1); have HB1 := Lib.hid (HB.out.ext h1); have b1 := HB1.out 1 _ rfl; have hs1 := h1.size; clear h1))
  simp only [World.size_alloc] at hs1
  clear b1
  go_loopg [5, 15] 1 (fun g v i wr => ∃ m : Nat, m + g = 1 ∧ i = .int .i64 m ∧ Ext w wr ∧ w.heap.size + 2 ≤ wr.heap.size ∧ VB wr w.heap.size (blL bo bb bt bh mb) ∧ My.Own wr (w.heap.size + 2) 3 v (if m = 0 then [] else [I s.l]))
  case atStart => exact ⟨0, by simp, rfl, H1.out, by omega, HB1.out, My.Own.nil _ _ _⟩
  case round =>
    obtain ⟨m, hm, rfl, hE, hwo, hBw, hO⟩ := hrel
    have HBw := Lib.hid hBw
    clear hBw HB1 hs1
    obtain ⟨wo, rfl⟩ : ∃ wo : World, wo = wr := ⟨_, rfl⟩
    have HE := Lib.hid hE
    clear hE
    obtain rfl | rfl : m = 0 ∨ m = 1 := by omega
    · rw [if_pos rfl] at hO
      have HO := Lib.hid hO
      have HBd := Lib.hid (H.out.b.ext HE.out)
      have b0 := HBd.out 0 _ rfl
      have b1 := HBd.out 1 _ rfl
      have b2 := HBd.out 2 _ rfl
      have b3 := HBd.out 3 _ rfl
      have b4 := HBd.out 4 _ rfl
      have hlt := World.block_lt_of_cell? _ _ b0
      have hne := Nat.ne_of_lt hlt
      simp only at hlt hne
      clear hO
      go_wp2_with fail
      obtain ⟨w4, hw4⟩ : ∃ X, X = wo.alloc (.cells #[.int .i64 (s.l : Nat), .int .i64 (s.f : Nat), .int .i64 0, .int .i64 0, .int .i64 0] 40) := ⟨_, rfl⟩
      have HX4 := Lib.hid (show Ext wo w4 by rw [hw4]; exact (Ext.refl wo).alloc _)
      have HV4 := Lib.hid (show VB w4 wo.heap.size (bdL s) by rw [hw4]; exact VB.new _ _ _)
      have HO4 := Lib.hid (HO.out.ext HX4.out)
      rw [← hw4]
      clear hw4 b0 b1 b2 b3 b4
      have hh := (Hh.out.ext (HE.out.trans HX4.out)) 0 _ rfl
      have HB4 := Lib.hid (HBw.out.ext HX4.out)
      have e3 := HB4.out 3 _ rfl
      have v0 := HV4.out 0 _ rfl
      have v1 := HV4.out 1 _ rfl
      have v2 := HV4.out 2 _ rfl
      have v3 := HV4.out 3 _ rfl
      have v4 := HV4.out 4 _ rfl
      have nh : ¬ u5.ownBlock = some bh := fun k => by have h1 := (HO.out.lt _ k).1; have h2 := World.block_lt_of_cell? _ _ (Hh.out 0 _ rfl); simp only at h2; omega
      have nb : ¬ u5.ownBlock = some w.heap.size := fun k => by have h1 := (HO.out.lt _ k).1; omega
      have nv : ¬ u5.ownBlock = some wo.heap.size := fun k => by have h1 := (HO.out.lt _ k).2; omega
      refine wp_region_plan (.take 0 <| .take 1 <| .take 2 <| .take 3 <| .take 4 <| .take 5 <| .take 6 <| .take 7 <| .take 8 <| .take 9 <| .take 10 <| .only 11 <| .only 12 <| .only 13 <| .take 14 <| .done) (fun W => Mv (fun i => u5.ownBlock = some i) w4 W) mixed (by kernel_rfl) (by kernel_rfl) rfl (fun _ _ d _ _ h => by cases d <;> exact h) (Mv.of_ext (Ext.refl w4).drew) ?_
      repeat ((first | (refine plan_take (v := ?_) rfl rfl (fun W hW => ?_) ?_; rotate_left; (focus (have d0 := hW.cell nh hh; have d1 := hW.cell nb e3; have d2 := hW.cell nv v0; have d3 := hW.cell nv v1; have d4 := hW.cell nv v2; have d5 := hW.cell nv v3; have d6 := hW.cell nv v4; go_simp; first | exact rfl | (split <;> first | exact rfl | (exfalso; omega)) | done))) | refine plan_skip rfl rfl ?_); simp only [Act.put, List.setIfInBounds_toArray, List.set_cons_zero, List.set_cons_succ])
      have X4 := (Ext.refl w4).drew
      generalize w4.drew = wd at *
      refine plan_walk rfl ?_; intro K hK
      go_wp2_with (first | (go_at_call 107; refine (letters107 s 0 _).mono ?_; rintro e w5 ⟨rfl, h5⟩))
      have X5 := X4.trans h5
      refine hK _ _ (Mv.of_ext X5) ?_
      refine plan_walk rfl ?_; intro K hK
      go_wp2
      have X6 := X5.alloc (.cells #[I s.l] 3)
      refine hK _ _ (Mv.of_ext X6) ?_
      refine plan_walk rfl ?_; intro K hK
      have hsz6 := X6.size
      have hsz4 := HX4.out.size
      go_wp2_with (first | (at_builtin; refine wpList_app1 _ rfl _ _ 33 rfl 3 Try.underlying33 (.int .i64 0) 8 i3 rfl (by decide) (w.heap.size + 2) _ _ rfl (HO4.out.ext X6) w5.heap.size (I s.l) rfl (by go_simp) rfl ?_ ?_ ?_))
      · simp
      · omega
      · intro v' w7 hown7 hB7 hg7
        have HO7 := Lib.hid hown7
        have hX46 : Ext wo _ := HX4.out.trans X6
        have HE7 := Lib.hid (show Ext w w7 from (HE.out.trans hX46).below hB7 (by omega))
        have hs7 := hB7.size
        have HV7 := Lib.hid (show VB w7 w.heap.size (blL bo bb bt bh mb) from fun i v hv => cell_below hB7 (by simp) ((HB4.out.ext X6) i v hv))
        have hMv : Mv (fun i => u5.ownBlock = some i) w4 w7 := (Mv.of_ext X6).trans (Mv.of_grown hg7 fun i e => e)
        clear hown7 hB7 hg7 hX46
        go_wp2
        refine hK _ _ hMv ?_
        repeat ((first | (refine plan_take (v := ?_) rfl rfl (fun W hW => ?_) ?_; rotate_left; (focus (skip; go_simp; first | exact rfl | (split <;> first | exact rfl | (exfalso; omega)) | done))) | refine plan_skip rfl rfl ?_); simp only [Act.put, List.setIfInBounds_toArray, List.set_cons_zero, List.set_cons_succ])
        refine plan_done ?_
        go_wp2
        go_roundg (gk - 1)
        case measure => omega
        case rel => exact ⟨1, by omega, by go_num, HE7.out, by omega, HV7.out, by rw [if_neg (by decide)]; simpa using HO7.out⟩
    · rw [if_neg (by decide)] at hO
      have HO := Lib.hid hO
      clear hO
      go_wp2
      go_ret
      exact ⟨_, rfl, HO.out.low (by omega), HE.out⟩
set_option maxRecDepth 100000 in
set_option maxHeartbeats 4000000 in
theorem quantities39_2 (s : Sh) (u bo bb bt bh mb : Nat) (w : World) (h : ShAt w s bo bb bt) (hh : VB w bh [.int .i64 0]) :
    Calls Try.prog 39 #[blV bo bb bt bh mb, tfV 2 u] w fun e w' => ∃ v, e = .returned v ∧ My.Own w' w.heap.size 3 v [I s.f] ∧ Ext w w' := by
  have R66 := Lib.hid (fun W => kindOf66 2 u (by decide) W)
  have HE0 := Lib.hid (((Ext.refl w).alloc (.cells (blL bo bb bt bh mb).toArray 69)).alloc (.cells (tfL 2 u).toArray 45))
  have HB := Lib.hid ((VB.new w (blL bo bb bt bh mb) 69).ext ((Ext.refl _).alloc (.cells (tfL 2 u).toArray 45)))
  have H := Lib.hid h
  have Hh := Lib.hid hh
  clear h hh
  have hmeth := method_2
  go_enter Try.func39, Try.ntmps39
  go_wp2_with (first | (go_at_call 66; refine (R66.out _).mono ?_; rintro e w1 ⟨rfl, h1⟩; have H1 := Lib.hid (HE0.out.trans h1); have HB1 := Lib.hid (HB.out.ext h1); have b1 := HB1.out 1 _ rfl; have hs1 := h1.size; clear h1))
  simp only [World.size_alloc] at hs1
  clear b1
  go_loopg [5, 15] 1 (fun g v i wr => ∃ m : Nat, m + g = 1 ∧ i = .int .i64 m ∧ Ext w wr ∧ w.heap.size + 2 ≤ wr.heap.size ∧ VB wr w.heap.size (blL bo bb bt bh mb) ∧ My.Own wr (w.heap.size + 2) 3 v (if m = 0 then [] else [I s.f]))
  case atStart => exact ⟨0, by simp, rfl, H1.out, by omega, HB1.out, My.Own.nil _ _ _⟩
  case round =>
    obtain ⟨m, hm, rfl, hE, hwo, hBw, hO⟩ := hrel
    have HBw := Lib.hid hBw
    clear hBw HB1 hs1
    obtain ⟨wo, rfl⟩ : ∃ wo : World, wo = wr := ⟨_, rfl⟩
    have HE := Lib.hid hE
    clear hE
    obtain rfl | rfl : m = 0 ∨ m = 1 := by omega
    · rw [if_pos rfl] at hO
      have HO := Lib.hid hO
      have HBd := Lib.hid (H.out.b.ext HE.out)
      have b0 := HBd.out 0 _ rfl
      have b1 := HBd.out 1 _ rfl
      have b2 := HBd.out 2 _ rfl
      have b3 := HBd.out 3 _ rfl
      have b4 := HBd.out 4 _ rfl
      have hlt := World.block_lt_of_cell? _ _ b0
      have hne := Nat.ne_of_lt hlt
      simp only at hlt hne
      clear hO
      go_wp2_with fail
      obtain ⟨w4, hw4⟩ : ∃ X, X = wo.alloc (.cells #[.int .i64 (s.l : Nat), .int .i64 (s.f : Nat), .int .i64 0, .int .i64 0, .int .i64 0] 40) := ⟨_, rfl⟩
      have HX4 := Lib.hid (show Ext wo w4 by rw [hw4]; exact (Ext.refl wo).alloc _)
      have HV4 := Lib.hid (show VB w4 wo.heap.size (bdL s) by rw [hw4]; exact VB.new _ _ _)
      have HO4 := Lib.hid (HO.out.ext HX4.out)
      rw [← hw4]
      clear hw4 b0 b1 b2 b3 b4
      have hh := (Hh.out.ext (HE.out.trans HX4.out)) 0 _ rfl
      have HB4 := Lib.hid (HBw.out.ext HX4.out)
      have e3 := HB4.out 3 _ rfl
      have v0 := HV4.out 0 _ rfl
      have v1 := HV4.out 1 _ rfl
      have v2 := HV4.out 2 _ rfl
      have v3 := HV4.out 3 _ rfl
      have v4 := HV4.out 4 _ rfl
      have nh : ¬ u5.ownBlock = some bh := fun k => by have h1 := (HO.out.lt _ k).1; have h2 := World.block_lt_of_cell? _ _ (Hh.out 0 _ rfl); simp only at h2; omega
      have nb : ¬ u5.ownBlock = some w.heap.size := fun k => by have h1 := (HO.out.lt _ k).1; omega
      have nv : ¬ u5.ownBlock = some wo.heap.size := fun k => by have h1 := (HO.out.lt _ k).2; omega
      refine wp_region_plan (.take 0 <| .take 1 <| .take 2 <| .take 3 <| .take 4 <| .take 5 <| .take 6 <| .take 7 <| .take 8 <| .take 9 <| .take 10 <| .only 11 <| .only 12 <| .only 13 <| .take 14 <| .done) (fun W => Mv (fun i => u5.ownBlock = some i) w4 W) mixed (by kernel_rfl) (by kernel_rfl) rfl (fun _ _ d _ _ h => by cases d <;> exact h) (Mv.of_ext (Ext.refl w4).drew) ?_
      repeat ((first | (refine plan_take (v := ?_) rfl rfl (fun W hW => ?_) ?_; rotate_left; (focus (have d0 := hW.cell nh hh; have d1 := hW.cell nb e3; have d2 := hW.cell nv v0; have d3 := hW.cell nv v1; have d4 := hW.cell nv v2; have d5 := hW.cell nv v3; have d6 := hW.cell nv v4; go_simp; first | exact rfl | (split <;> first | exact rfl | (exfalso; omega)) | done))) | refine plan_skip rfl rfl ?_); simp only [Act.put, List.setIfInBounds_toArray, List.set_cons_zero, List.set_cons_succ])
      have X4 := (Ext.refl w4).drew
      generalize w4.drew = wd at *
      refine plan_walk rfl ?_; intro K hK
      go_wp2_with (first | (go_at_call 108; refine (feet108 s 0 _).mono ?_; rintro e w5 ⟨rfl, h5⟩))
      have X5 := X4.trans h5
      refine hK _ _ (Mv.of_ext X5) ?_
      refine plan_walk rfl ?_; intro K hK
      go_wp2
      have X6 := X5.alloc (.cells #[I s.f] 3)
      refine hK _ _ (Mv.of_ext X6) ?_
      refine plan_walk rfl ?_; intro K hK
      have hsz6 := X6.size
      have hsz4 := HX4.out.size
      go_wp2_with (first | (at_builtin; refine wpList_app1 _ rfl _ _ 33 rfl 3 Try.underlying33 (.int .i64 0) 8 i3 rfl (by decide) (w.heap.size + 2) _ _ rfl (HO4.out.ext X6) w5.heap.size (I s.f) rfl (by go_simp) rfl ?_ ?_ ?_))
      · simp
      · omega
      · intro v' w7 hown7 hB7 hg7
        have HO7 := Lib.hid hown7
        have hX46 : Ext wo _ := HX4.out.trans X6
        have HE7 := Lib.hid (show Ext w w7 from (HE.out.trans hX46).below hB7 (by omega))
        have hs7 := hB7.size
        have HV7 := Lib.hid (show VB w7 w.heap.size (blL bo bb bt bh mb) from fun i v hv => cell_below hB7 (by simp) ((HB4.out.ext X6) i v hv))
        have hMv : Mv (fun i => u5.ownBlock = some i) w4 w7 := (Mv.of_ext X6).trans (Mv.of_grown hg7 fun i e => e)
        clear hown7 hB7 hg7 hX46
        go_wp2
        refine hK _ _ hMv ?_
        repeat ((first | (refine plan_take (v := ?_) rfl rfl (fun W hW => ?_) ?_; rotate_left; (focus (skip; go_simp; first | exact rfl | (split <;> first | exact rfl | (exfalso; omega)) | done))) | refine plan_skip rfl rfl ?_); simp only [Act.put, List.setIfInBounds_toArray, List.set_cons_zero, List.set_cons_succ])
        refine plan_done ?_
        go_wp2
        go_roundg (gk - 1)
        case measure => omega
        case rel => exact ⟨1, by omega, by go_num, HE7.out, by omega, HV7.out, by rw [if_neg (by decide)]; simpa using HO7.out⟩
    · rw [if_neg (by decide)] at hO
      have HO := Lib.hid hO
      clear hO
      go_wp2
      go_ret
      exact ⟨_, rfl, HO.out.low (by omega), HE.out⟩
end Go.Proofs.Ytdmegfbeibbmfaa
