/- Contract: price. No condition beyond sheets as defined. -/
import Derived.Test.YtdmegfbeibbmfaaPrice5
set_option linter.unusedVariables false
set_option linter.unusedSimpArgs false
namespace Go.Proofs.Ytdmegfbeibbmfaa
open Go.RowKit Go.My Go.GoldM

theorem map_ext {w w' : World} {mb t : Nat} (h : w.heap[mb]? = some (.map #[] t)) (hE : Ext w w') : w'.heap[mb]? = some (.map #[] t) := (hE.block mb (Array.getElem?_eq_some_iff.1 h).1).trans h
set_option maxRecDepth 100000 in
set_option maxHeartbeats 4000000 in
theorem price38 (k u q bo bb bt bh mb t : Nat) (hq : 1 ≤ q ∧ q ≤ 60) (hu : 1 ≤ u ∧ u ≤ 12) (w : World) (hM : w.heap[mb]? = some (.map #[] t)) :
    Calls Try.prog 38 #[blV bo bb bt bh mb, tfV k u, I q] w fun e w' => e = .returned (I (ceilN q u)) ∧ Mv (fun i => i = mb) w w' := by
  have R := Lib.hid (fun W => rounded64 q u hq hu W)
  have hE2 := ((Ext.refl w).alloc (.cells (blL bo bb bt bh mb).toArray 69)).alloc (.cells (tfL k u).toArray 45)
  have HE3 := Lib.hid (hE2.alloc (.cells #[I k, .int .i64 1, I u, .int .i64 2, .bool false, I q] 123))
  have HM := Lib.hid hM
  have HM3 := Lib.hid (map_ext hM HE3.out)
  have q0 : IntKind.i64.wrap (q : Int) = (q : Int) := by rw [IntWalk.i64_in _ (by omega)]
  have q1 : IntKind.i64.wrap ((q : Int) * 1) = (q : Int) := by rw [Int.mul_one]; exact q0
  clear hM hE2
  go_enter Try.func38, Try.ntmps38
  go_wp2_with (first | ((with_reducible refine AmtM.at_lookup _ _ rfl ?_); refine AmtM.wpList_lookup rfl _ _ rfl mb ?_ (k : Int) 1 (u : Int) 2 false (q : Int) ?_ t HM3.out ?_; (focus (go_simp; done)); (focus (go_simp; done))))
  obtain ⟨w3, hw3⟩ : ∃ X, X = ((w.alloc (.cells #[.slice (some ⟨bo, 0, none⟩) 1 1, .slice (some ⟨bb, 0, none⟩) 1 1, .slice (some ⟨bt, 0, none⟩) 2 2, .slice (some ⟨bh, 0, none⟩) 1 1, .map (some mb)] 69)).alloc (.cells #[I k, .int .i64 1, I u, .int .i64 2, .bool false] 45)).alloc (.cells #[.int .i64 (k : Nat), .int .i64 1, .int .i64 (u : Nat), .int .i64 2, .bool false, .int .i64 (q : Nat)] 123) := ⟨_, rfl⟩
  have HX3 := Lib.hid (show Ext w w3 by rw [hw3]; exact HE3.out)
  have HB3 := Lib.hid (show VB w3 w.heap.size (blL bo bb bt bh mb) by rw [hw3]; exact ((VB.new w (blL bo bb bt bh mb) 69).ext ((Ext.refl _).alloc _)).ext ((Ext.refl _).alloc _))
  have HT3 := Lib.hid (show VB w3 (w.heap.size + 1) (tfL k u) by
    have h9 := (VB.new (w.alloc (.cells (blL bo bb bt bh mb).toArray 69)) (tfL k u) 45).ext ((Ext.refl _).alloc (.cells #[.int .i64 (k : Nat), .int .i64 1, .int .i64 (u : Nat), .int .i64 2, .bool false, .int .i64 (q : Nat)] 123))
    rw [World.size_alloc] at h9
    rw [hw3]; exact h9)
  have HK3 := Lib.hid (show VB w3 (w.heap.size + 1 + 1) [I k, .int .i64 1, I u, .int .i64 2, .bool false, I q] by
    have h9 := VB.new ((w.alloc (.cells (blL bo bb bt bh mb).toArray 69)).alloc (.cells (tfL k u).toArray 45)) [I k, .int .i64 1, I u, .int .i64 2, .bool false, I q] 123
    rw [World.size_alloc, World.size_alloc] at h9
    rw [hw3]; exact h9)
  rw [← hw3]
  clear hw3 HM3 HE3
  have t1 := HT3.out 1 _ rfl
  have t2 := HT3.out 2 _ rfl
  have t3 := HT3.out 3 _ rfl
  refine wp_region_plan (.take 0 <| .take 1 <| .take 2 <| .take 3 <| .take 4 <| .take 5 <| .take 6 <| .take 7 <| .take 8 <| .only 9 <| .only 10 <| .take 11 <| .done) (fun W => Ext w3 W) mixed (by kernel_rfl) (by kernel_rfl) rfl (fun _ _ d _ _ h => by cases d <;> exact h) ((Ext.refl w3).drew) ?_
  repeat ((first | (refine plan_take (v := ?_) rfl rfl (fun W hW => ?_) ?_; rotate_left; (focus (have d1 := cell_ext hW t1; have d2 := cell_ext hW t2; have d3 := cell_ext hW t3; go_simp; first | exact rfl | (split <;> first | exact rfl | (exfalso; omega)) | done))) | refine plan_skip rfl rfl ?_); simp only [Act.put, List.setIfInBounds_toArray, List.set_cons_zero, List.set_cons_succ])
  have X4 := (Ext.refl w3).drew
  clear t1 t2 t3
  generalize w3.drew = w4 at *
  refine plan_walk rfl ?_; intro K hK
  go_wp2_with (first | (go_at_call 65; refine (place65 _).mono ?_; rintro e w5 ⟨rfl, h5⟩; obtain rfl := h5.symm))
  refine hK _ _ X4 ?_
  refine plan_walk rfl ?_; intro K hK
  go_wp2_with (first | (go_at_call 64; refine (R.out _).mono ?_; rintro e w6 ⟨rfl, h6⟩))
  have X6 := X4.trans h6
  have HX6 := Lib.hid (HX3.out.trans X6)
  have HM6 := Lib.hid (map_ext HM.out HX6.out)
  have HB6 := Lib.hid (HB3.out.ext X6)
  have HK6 := Lib.hid (HK3.out.ext X6)
  refine hK _ _ X6 ?_
  clear X4 X6 h6
  repeat ((first | (refine plan_take (v := ?_) rfl rfl (fun W hW => ?_) ?_; rotate_left; (focus (skip; go_simp; first | exact rfl | (split <;> first | exact rfl | (exfalso; omega)) | done))) | refine plan_skip rfl rfl ?_); simp only [Act.put, List.setIfInBounds_toArray, List.set_cons_zero, List.set_cons_succ])
  refine plan_done ?_
  have e4 := HB6.out 4 _ rfl
  have y0 := HK6.out 0 _ rfl
  have y1 := HK6.out 1 _ rfl
  have y2 := HK6.out 2 _ rfl
  have y3 := HK6.out 3 _ rfl
  have y4 := HK6.out 4 _ rfl
  have y5 := HK6.out 5 _ rfl
  go_wp2_with (first | ((with_reducible refine AmtM.at_update _ _ _ rfl ?_); refine AmtM.wpList_update rfl _ _ _ rfl mb ?_ (k : Int) 1 (u : Int) 2 false (q : Int) ?_ (ceilN q u : Nat) ?_ t HM6.out ?_; (focus (go_simp; done)); (focus (go_simp; done)); (focus (go_simp; done)); intro w8 hg8; have H8 := Lib.hid (show Mv (fun i => i = mb) w w8 from (Mv.of_ext HX6.out).trans (Mv.of_grown hg8 fun i e => by cases e; rfl)); clear hg8))
  go_ret
  exact ⟨rfl, H8.out⟩

end Go.Proofs.Ytdmegfbeibbmfaa
