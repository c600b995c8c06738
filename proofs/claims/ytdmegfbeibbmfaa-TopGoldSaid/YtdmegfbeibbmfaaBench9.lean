/- Contract: best of what was tried. No condition. -/
import Derived.Test.YtdmegfbeibbmfaaBench8
set_option linter.unusedVariables false
set_option linter.unusedSimpArgs false
namespace Go.Proofs.Ytdmegfbeibbmfaa
open Go.RowKit Go.My Go.GoldM

theorem OutAt.ext {W W' : World} {B : Nat} {f : Nat → Nat} {k : Nat} {v : Value} (h : OutAt W B f k v) (hE : Ext W W') : OutAt W' B f k v := by
  obtain ⟨N, xs, h1, h2⟩ := h
  exact ⟨N, xs, row_mv h1 (Mv.of_ext (I := fun _ => False) hE) (fun _ _ h => h), h2⟩
theorem OutAt.head {W : World} {B : Nat} {f : Nat → Nat} {j : Nat} {v : Value} (h : OutAt W B f (j + 1) v) : ∃ g n cap o m c, v = .slice (some ⟨g, 0, none⟩) (n + 1) cap ∧ n ≤ j ∧ n + 1 ≤ cap ∧ W.cell? ⟨g, 0, none⟩ = some (.slice o m c) ∧ W.cell? ⟨g, 1, none⟩ = some (I (minTo f j)) ∧ g < W.heap.size := by
  obtain ⟨N, xs, hrow, hN, _, hh⟩ := h
  obtain ⟨h1, ⟨o, m, c, hx0⟩, hx1⟩ := hh j rfl
  rcases id hrow.2 with ⟨_, h0⟩ | ⟨g, cap, cur, rfl, hb, hg, k1, k2, _⟩
  · omega
  · have hc := hrow.cells (g := g) rfl
    have x0 := hc _ _ hx0
    have x1 := hc _ _ hx1
    rw [add_none] at x0 x1
    exact ⟨g, N - 1, cap, o, m, c, by rw [show N - 1 + 1 = N by omega], by omega, by omega, x0, x1, (Array.getElem?_eq_some_iff.1 hg).1⟩

set_option maxRecDepth 100000 in
set_option maxHeartbeats 8000000 in
theorem best48 (f : Nat → Nat) (g N cap : Nat) (w : World) (hN : N ≤ 1000) (hcap : N ≤ cap) (hc : ∀ j, j < N → ∃ o n c, w.cell? ⟨g, 2 * j, none⟩ = some (.slice o n c) ∧ w.cell? ⟨g, 2 * j + 1, none⟩ = some (I (f j))) :
    Calls Try.prog 48 #[.slice (some ⟨g, 0, none⟩) N cap, .func (.func 49) #[] #[]] w fun e w' => ∃ v, e = .returned v ∧ OutAt w' w.heap.size f N v ∧ Ext w w' := by
  have Hc := Lib.hid hc
  clear hc
  go_enter Try.func48, Try.ntmps48
  go_wp2_with fail
  go_loopg [5, 10] N (fun g' v i wr => ∃ k : Nat, k + g' = N ∧ i = .int .i64 k ∧ Ext w wr ∧ OutAt wr w.heap.size f k v)
  case atStart => exact ⟨0, by simp, rfl, Ext.refl _, 0, [], World.ownsRow_nil _ _ _ _, by omega, fun _ => rfl, fun j hj => by omega⟩
  case round =>
    obtain ⟨k, hk, rfl, hE, hO⟩ := hrel
    obtain ⟨wo, rfl⟩ : ∃ wo : World, wo = wr := ⟨_, rfl⟩
    have HE := Lib.hid hE
    have HO := Lib.hid hO
    clear hE hO
    by_cases hlt : k < N
    · have hltI : (k : Int) < (N : Int) := by omega
      obtain ⟨o, n, c, c0, c1⟩ := Hc.out k hlt
      have c0 := cell_ext HE.out c0
      have c1 := cell_ext HE.out c1
      rw [show 2 * k + 1 = k * 2 + 1 by omega] at c1
      rw [show 2 * k = k * 2 by omega] at c0
      have hgo : g < wo.heap.size := World.block_lt_of_cell? _ _ c0
      have hgne := Nat.ne_of_lt hgo
      have HV4 := Lib.hid (VB.new wo [.slice o n c, I (f k)] 75)
      have HX4 := Lib.hid (HE.out.alloc (.cells #[.slice o n c, I (f k)] 75))
      by_cases hk0 : k = 0
      · obtain ⟨M, xs, hrow, _, hM, _⟩ := HO.out
        have hM0 := hM hk0
        have Hap := Lib.hid (show (∃ (o' : Option Addr) (n' c' : Nat), (xs ++ [.slice o n c, I (f k)])[0]? = some (.slice o' n' c')) ∧ (xs ++ [.slice o n c, I (f k)])[1]? = some (I (minTo f k)) by
          have : xs = [] := List.eq_nil_of_length_eq_zero (by rw [hrow.1, hM0])
          subst this
          subst hk0
          exact ⟨⟨_, _, _, rfl⟩, rfl⟩)
        subst hM0
        obtain ⟨oa, ca, rfl⟩ := row_slice hrow
        obtain ⟨M, hM0⟩ : ∃ M, M = 0 := ⟨_, rfl⟩
        have Hrow4 := Lib.hid (show (wo.alloc (.cells #[.slice o n c, I (f k)] 75)).ownsRow w.heap.size 75 2 (.slice oa 0 ca) 0 xs from row_mv hrow (Mv.of_ext (I := fun _ => False) ((Ext.refl wo).alloc _)) (fun _ _ h => h))
        clear hM hk0 hrow
        go_wp2_with fail
        generalize wo.alloc (.cells #[.slice o n c, I (f k)] 75) = w4 at *
        clear c0 c1
        refine wp_region_plan (.take 0 <| .take 1 <| .take 2 <| .take 3 <| .take 4 <| .take 5 <| .take 6 <| .take 7 <| .take 8 <| .only 9 <| .take 10 <| .done) (fun W => Ext w4 W) mixed (by kernel_rfl) (by kernel_rfl) rfl (fun _ _ d _ _ h => by cases d <;> exact h) ((Ext.refl w4).drew) ?_
        repeat ((first | (refine plan_take (v := ?_) rfl rfl (fun W hW => ?_) ?_; rotate_left; (focus (skip; go_simp; first | exact rfl | (split <;> first | exact rfl | (exfalso; omega)) | done))) | refine plan_skip rfl rfl ?_); simp only [Act.put, List.setIfInBounds_toArray, List.set_cons_zero, List.set_cons_succ])
        refine plan_walk rfl ?_; intro K hK
        go_wp2
        refine hK _ _ (Ext.refl w4).drew ?_
        repeat ((first | (refine plan_take (v := ?_) rfl rfl (fun W hW => ?_) ?_; rotate_left; (focus (skip; go_simp; first | exact rfl | (split <;> first | exact rfl | (exfalso; omega)) | done))) | refine plan_skip rfl rfl ?_); simp only [Act.put, List.setIfInBounds_toArray, List.set_cons_zero, List.set_cons_succ])
        refine plan_done ?_
        have HE5 := Lib.hid (HX4.out.drew)
        have HV5 := Lib.hid (HV4.out.ext (Ext.refl w4).drew)
        have Hrow5 := Lib.hid (row_mv Hrow4.out (Mv.of_ext (I := fun _ => False) (Ext.refl w4).drew) (fun _ _ h => h))
        generalize w4.drew = w5 at *
        go_wp2_with fail
        refine wp_region_plan (.take 0 <| .take 1 <| .take 2 <| .take 3 <| .take 4 <| .take 5 <| .take 6 <| .take 7 <| .take 8 <| .only 9 <| .take 10 <| .take 11 <| .done) (fun W => Ext w5 W) mixed (by kernel_rfl) (by kernel_rfl) rfl (fun _ _ d _ _ h => by cases d <;> exact h) ((Ext.refl w5).drew) ?_
        repeat ((first | (refine plan_take (v := ?_) rfl rfl (fun W hW => ?_) ?_; rotate_left; (focus (skip; go_simp; first | exact rfl | (split <;> first | exact rfl | (exfalso; omega)) | done))) | refine plan_skip rfl rfl ?_); simp only [Act.put, List.setIfInBounds_toArray, List.set_cons_zero, List.set_cons_succ])
        refine plan_walk rfl ?_; intro K hK
        go_wp2
        refine hK _ _ (Ext.refl w5).drew ?_
        repeat ((first | (refine plan_take (v := ?_) rfl rfl (fun W hW => ?_) ?_; rotate_left; (focus (skip; go_simp; first | exact rfl | (split <;> first | exact rfl | (exfalso; omega)) | done))) | refine plan_skip rfl rfl ?_); simp only [Act.put, List.setIfInBounds_toArray, List.set_cons_zero, List.set_cons_succ])
        refine plan_done ?_
        have HE6 := Lib.hid (HE5.out.drew)
        have HV6 := Lib.hid (HV5.out.ext (Ext.refl w5).drew)
        have Hrow6 := Lib.hid (row_mv Hrow5.out (Mv.of_ext (I := fun _ => False) (Ext.refl w5).drew) (fun _ _ h => h))
        generalize w5.drew = w6 at *
        obtain ⟨ii, hi1, hi2, hi3, hi4⟩ := info_parts i75
        have p0 := HV6.out 0 _ rfl
        have p1 := HV6.out 1 _ rfl
        have hn1 := is_cell0 w6 (.slice o n c) (I (f k)) 75
        have hn2 := is_cell1 w6 (.slice o n c) (I (f k)) 75
        have hs6 := HE6.out.size
        go_wp2_with (first | (at_builtin; refine wpList_append_own _ rfl _ _ 76 rfl w.heap.size 75 ii (.agg #[.slice none 0 0, .int .i64 0]) 2 32 Try.underlying76 hi1 hi2 hi3 hi4 rfl (by decide) _ 0 xs rfl (row_mv Hrow6.out (Mv.of_ext (I := fun _ => False) ((Ext.refl w6).alloc _)) (fun _ _ h => h)) ⟨w6.heap.size, 0, none⟩ 1 1 [.slice o n c, I (f k)] rfl rfl ?_ (by simp [Value.oneCell']) (by unfold maxLen; omega) (by omega) (by simp only [World.size_alloc]; omega) ?_))
        · intro j u hu
          match j, hu with
          | 0, hu => simp at hu; subst hu; simp [Addr.add]
          | 1, hu => simp at hu; subst hu; simp [Addr.add]
        · intro v' w7 hr7 hg7 _
          have X6 : Ext w6 (w6.alloc (.cells #[.slice o n c, I (f k)] 75)) := (Ext.refl w6).alloc _
          have hE7 := Lib.hid (show Ext w w7 from (HE6.out.trans X6).below (B := w.heap.size) ((Below.refl _ _).grown hg7 (by simp only [World.size_alloc]; omega) fun b hb => (World.ownsRow.lt Hrow6.out b hb).1) (Nat.le_refl _))
          have Hr7 := Lib.hid hr7
          clear hr7 hg7 X6 p0 p1 hn1 hn2
          go_wp2
          go_roundg (gk - 1)
          case measure => omega
          case rel => exact ⟨k + 1, by omega, by go_num, hE7.out, 0 + 1, _, Hr7.out, by omega, fun h => by omega, fun j hj => by
            obtain rfl : k = j := by omega
            exact ⟨by omega, Hap.out⟩⟩
      · obtain ⟨j, hj⟩ : ∃ j, k = j + 1 := ⟨k - 1, by omega⟩
        obtain ⟨M, xs, hrow, hMk, _, hh⟩ := HO.out
        obtain ⟨h1, ⟨o0, m0, z0, hx0⟩, hx1⟩ := hh j hj
        have Hrow := Lib.hid hrow
        obtain ⟨g', ca, rfl, hca, r0, r1⟩ : ∃ (g' ca : Nat), u5 = Value.slice (some ⟨g', 0, none⟩) M ca ∧ M ≤ ca ∧ wo.cell? ⟨g', 0, none⟩ = some (.slice o0 m0 z0) ∧ wo.cell? ⟨g', 1, none⟩ = some (I (minTo f j)) := by
          rcases id hrow.2 with ⟨_, h0⟩ | ⟨g1, cap1, cur, rfl, hb1, hg1, k1, k2, _⟩
          · omega
          · have hcc := hrow.cells (g := g1) rfl
            have x0 := hcc _ _ hx0
            have x1 := hcc _ _ hx1
            rw [add_none] at x0 x1
            exact ⟨g1, cap1, rfl, k1, x0, x1⟩
        have hmin : minTo f k = if f k < minTo f j then f k else minTo f j := by rw [hj]; rfl
        have Hx0 := Lib.hid hx0
        have Hx1 := Lib.hid hx1
        have hM0 : (0 : Int) < (M : Int) := by omega
        have hM1 : 0 < M := by omega
        have hMz : ¬ (M : Int) = 0 := by omega
        have hMb : ((M : Int) == 0) = false := by rw [beq_eq_false_iff_ne]; omega
        have HX5 : Ext wo (wo.alloc (.cells #[.slice o n c, I (f k)] 75)) := (Ext.refl wo).alloc _
        have r0 := cell_ext HX5 r0
        have r1 := cell_ext HX5 r1
        have Hrow4 := Lib.hid (row_mv hrow (Mv.of_ext (I := fun _ => False) HX5) (fun _ _ h => h))
        have Hh := Lib.hid hh
        have Hjk := Lib.hid hj
        clear hrow hh hx0 hx1 hj hk0 HX5
        go_wp2_with fail
        generalize wo.alloc (.cells #[.slice o n c, I (f k)] 75) = w4 at *
        have b0 := HV4.out 0 _ rfl
        have b1 := HV4.out 1 _ rfl
        clear c0 c1
        generalize minTo f j = mj at *
        by_cases hb : f k < mj
        · have R1 := sooner49 o o0 n c m0 z0 ((f k : Nat) : Int) (mj : Int)
          rw [decide_eq_true (show ((f k : Nat) : Int) < (mj : Int) by omega)] at R1
          replace R1 := Lib.hid R1
          rw [if_pos hb] at hmin
          have Hmin := Lib.hid hmin
          clear hb hmin
          refine wp_region_plan (.take 0 <| .take 1 <| .take 2 <| .take 3 <| .take 4 <| .take 5 <| .take 6 <| .take 7 <| .take 8 <| .only 9 <| .take 10 <| .done) (fun W => Ext w4 W) mixed (by kernel_rfl) (by kernel_rfl) rfl (fun _ _ d _ _ h => by cases d <;> exact h) ((Ext.refl w4).drew) ?_
          repeat ((first | (refine plan_take (v := ?_) rfl rfl (fun W hW => ?_) ?_; rotate_left; (focus (have d0 := cell_ext hW b0; have d1 := cell_ext hW b1; have d2 := cell_ext hW r0; have d3 := cell_ext hW r1; go_simp; first | exact rfl | (split <;> first | exact rfl | (exfalso; omega)) | done))) | refine plan_skip rfl rfl ?_); simp only [Act.put, List.setIfInBounds_toArray, List.set_cons_zero, List.set_cons_succ])
          refine plan_walk rfl ?_; intro K hK
          go_wp2_with (first | (go_at_call 49; refine (R1.out _).mono ?_; rintro e w5 ⟨rfl, h5⟩))
          have X5 := (Ext.refl w4).drew.trans h5
          refine hK _ _ X5 ?_
          repeat ((first | (refine plan_take (v := ?_) rfl rfl (fun W hW => ?_) ?_; rotate_left; (focus (skip; go_simp; first | exact rfl | (split <;> first | exact rfl | (exfalso; omega)) | done))) | refine plan_skip rfl rfl ?_); simp only [Act.put, List.setIfInBounds_toArray, List.set_cons_zero, List.set_cons_succ])
          refine plan_done ?_
          have HE5 := Lib.hid (HX4.out.trans X5)
          have HV5 := Lib.hid (HV4.out.ext X5)
          have Hrow5 := Lib.hid (row_mv Hrow4.out (Mv.of_ext (I := fun _ => False) X5) (fun _ _ h => h))
          have r0 := cell_ext X5 r0
          have r1 := cell_ext X5 r1
          have b0 := cell_ext X5 b0
          have b1 := cell_ext X5 b1
          clear X5 h5
          obtain ⟨xs, hxs⟩ : ∃ xs : List Value, xs = [] := ⟨_, rfl⟩
          have Hap := Lib.hid (show (∃ (o' : Option Addr) (n' c' : Nat), (xs ++ [.slice o n c, I (f k)])[0]? = some (.slice o' n' c')) ∧ (xs ++ [.slice o n c, I (f k)])[1]? = some (I (minTo f k)) by
            rw [hxs, Hmin.out]
            exact ⟨⟨_, _, _, rfl⟩, rfl⟩)
          have Hrow5 := Lib.hid (show w5.ownsRow w.heap.size 75 2 (.slice none 0 0) 0 xs by rw [hxs]; exact World.ownsRow_nil _ _ _ _)
          clear hxs r0 r1 b0 b1
          go_wp2_with fail
          refine wp_region_plan (.take 0 <| .take 1 <| .take 2 <| .take 3 <| .take 4 <| .take 5 <| .take 6 <| .take 7 <| .take 8 <| .only 9 <| .take 10 <| .take 11 <| .done) (fun W => Ext w5 W) mixed (by kernel_rfl) (by kernel_rfl) rfl (fun _ _ d _ _ h => by cases d <;> exact h) ((Ext.refl w5).drew) ?_
          repeat ((first | (refine plan_take (v := ?_) rfl rfl (fun W hW => ?_) ?_; rotate_left; (focus (skip; go_simp; first | exact rfl | (split <;> first | exact rfl | (exfalso; omega)) | done))) | refine plan_skip rfl rfl ?_); simp only [Act.put, List.setIfInBounds_toArray, List.set_cons_zero, List.set_cons_succ])
          refine plan_walk rfl ?_; intro K hK
          go_wp2
          refine hK _ _ (Ext.refl w5).drew ?_
          repeat ((first | (refine plan_take (v := ?_) rfl rfl (fun W hW => ?_) ?_; rotate_left; (focus (skip; go_simp; first | exact rfl | (split <;> first | exact rfl | (exfalso; omega)) | done))) | refine plan_skip rfl rfl ?_); simp only [Act.put, List.setIfInBounds_toArray, List.set_cons_zero, List.set_cons_succ])
          refine plan_done ?_
          have HE6 := Lib.hid (HE5.out.drew)
          have HV6 := Lib.hid (HV5.out.ext (Ext.refl w5).drew)
          have Hrow6 := Lib.hid (row_mv Hrow5.out (Mv.of_ext (I := fun _ => False) (Ext.refl w5).drew) (fun _ _ h => h))
          generalize w5.drew = w6 at *
          obtain ⟨ii, hi1, hi2, hi3, hi4⟩ := info_parts i75
          have p0 := HV6.out 0 _ rfl
          have p1 := HV6.out 1 _ rfl
          have hn1 := is_cell0 w6 (.slice o n c) (I (f k)) 75
          have hn2 := is_cell1 w6 (.slice o n c) (I (f k)) 75
          have hs6 := HE6.out.size
          go_wp2_with (first | (at_builtin; refine wpList_append_own _ rfl _ _ 76 rfl w.heap.size 75 ii (.agg #[.slice none 0 0, .int .i64 0]) 2 32 Try.underlying76 hi1 hi2 hi3 hi4 rfl (by decide) _ 0 xs rfl (row_mv Hrow6.out (Mv.of_ext (I := fun _ => False) ((Ext.refl w6).alloc _)) (fun _ _ h => h)) ⟨w6.heap.size, 0, none⟩ 1 1 [.slice o n c, I (f k)] rfl rfl ?_ (by simp [Value.oneCell']) (by unfold maxLen; omega) (by omega) (by simp only [World.size_alloc]; omega) ?_))
          · intro j u hu
            match j, hu with
            | 0, hu => simp at hu; subst hu; simp [Addr.add]
            | 1, hu => simp at hu; subst hu; simp [Addr.add]
          · intro v' w7 hr7 hg7 _
            have X6 : Ext w6 (w6.alloc (.cells #[.slice o n c, I (f k)] 75)) := (Ext.refl w6).alloc _
            have hE7 := Lib.hid (show Ext w w7 from (HE6.out.trans X6).below (B := w.heap.size) ((Below.refl _ _).grown hg7 (by simp only [World.size_alloc]; omega) fun b hb => (World.ownsRow.lt Hrow6.out b hb).1) (Nat.le_refl _))
            have Hr7 := Lib.hid hr7
            clear hr7 hg7 X6 p0 p1 hn1 hn2
            go_wp2
            go_roundg (gk - 1)
            case measure => omega
            case rel => exact ⟨k + 1, by omega, by go_num, hE7.out, 0 + 1, _, Hr7.out, by omega, fun h => by omega, fun j hj => by
              obtain rfl : k = j := by omega
              exact ⟨by omega, Hap.out⟩⟩
        · have R1 := sooner49 o o0 n c m0 z0 ((f k : Nat) : Int) (mj : Int)
          rw [decide_eq_false (show ¬ ((f k : Nat) : Int) < (mj : Int) by omega)] at R1
          replace R1 := Lib.hid R1
          rw [if_neg hb] at hmin
          have R2 := sooner49 o0 o m0 z0 n c (mj : Int) ((f k : Nat) : Int)
          clear hb
          by_cases hb2 : mj < f k
          · rw [decide_eq_true (show (mj : Int) < ((f k : Nat) : Int) by omega)] at R2
            replace R2 := Lib.hid R2
            have Hmin := Lib.hid hmin
            clear hb2 hmin
            refine wp_region_plan (.take 0 <| .take 1 <| .take 2 <| .take 3 <| .take 4 <| .take 5 <| .take 6 <| .take 7 <| .take 8 <| .only 9 <| .take 10 <| .done) (fun W => Ext w4 W) mixed (by kernel_rfl) (by kernel_rfl) rfl (fun _ _ d _ _ h => by cases d <;> exact h) ((Ext.refl w4).drew) ?_
            repeat ((first | (refine plan_take (v := ?_) rfl rfl (fun W hW => ?_) ?_; rotate_left; (focus (have d0 := cell_ext hW b0; have d1 := cell_ext hW b1; have d2 := cell_ext hW r0; have d3 := cell_ext hW r1; go_simp; first | exact rfl | (split <;> first | exact rfl | (exfalso; omega)) | done))) | refine plan_skip rfl rfl ?_); simp only [Act.put, List.setIfInBounds_toArray, List.set_cons_zero, List.set_cons_succ])
            refine plan_walk rfl ?_; intro K hK
            go_wp2_with (first | (go_at_call 49; refine (R1.out _).mono ?_; rintro e w5 ⟨rfl, h5⟩))
            have X5 := (Ext.refl w4).drew.trans h5
            refine hK _ _ X5 ?_
            repeat ((first | (refine plan_take (v := ?_) rfl rfl (fun W hW => ?_) ?_; rotate_left; (focus (skip; go_simp; first | exact rfl | (split <;> first | exact rfl | (exfalso; omega)) | done))) | refine plan_skip rfl rfl ?_); simp only [Act.put, List.setIfInBounds_toArray, List.set_cons_zero, List.set_cons_succ])
            refine plan_done ?_
            have HE5 := Lib.hid (HX4.out.trans X5)
            have HV5 := Lib.hid (HV4.out.ext X5)
            have Hrow5 := Lib.hid (row_mv Hrow4.out (Mv.of_ext (I := fun _ => False) X5) (fun _ _ h => h))
            have r0 := cell_ext X5 r0
            have r1 := cell_ext X5 r1
            have b0 := cell_ext X5 b0
            have b1 := cell_ext X5 b1
            clear X5 h5
            go_wp2_with fail
            refine wp_region_plan (.take 0 <| .take 1 <| .take 2 <| .take 3 <| .take 4 <| .take 5 <| .take 6 <| .take 7 <| .take 8 <| .only 9 <| .take 10 <| .take 11 <| .done) (fun W => Ext w5 W) mixed (by kernel_rfl) (by kernel_rfl) rfl (fun _ _ d _ _ h => by cases d <;> exact h) ((Ext.refl w5).drew) ?_
            repeat ((first | (refine plan_take (v := ?_) rfl rfl (fun W hW => ?_) ?_; rotate_left; (focus (have d0 := cell_ext hW b0; have d1 := cell_ext hW b1; have d2 := cell_ext hW r0; have d3 := cell_ext hW r1; go_simp; first | exact rfl | (split <;> first | exact rfl | (exfalso; omega)) | done))) | refine plan_skip rfl rfl ?_); simp only [Act.put, List.setIfInBounds_toArray, List.set_cons_zero, List.set_cons_succ])
            refine plan_walk rfl ?_; intro K hK
            go_wp2_with (first | (go_at_call 49; refine (R2.out _).mono ?_; rintro e w6 ⟨rfl, h6⟩))
            have X6 := (Ext.refl w5).drew.trans h6
            refine hK _ _ X6 ?_
            repeat ((first | (refine plan_take (v := ?_) rfl rfl (fun W hW => ?_) ?_; rotate_left; (focus (skip; go_simp; first | exact rfl | (split <;> first | exact rfl | (exfalso; omega)) | done))) | refine plan_skip rfl rfl ?_); simp only [Act.put, List.setIfInBounds_toArray, List.set_cons_zero, List.set_cons_succ])
            refine plan_done ?_
            have HE6 := Lib.hid (HE5.out.trans X6)
            have HV6 := Lib.hid (HV5.out.ext X6)
            have Hrow6 := Lib.hid (row_mv Hrow5.out (Mv.of_ext (I := fun _ => False) X6) (fun _ _ h => h))
            clear X6 h6 r0 r1 b0 b1
            go_wp2
            go_roundg (gk - 1)
            case measure => omega
            case rel => exact ⟨k + 1, by omega, by go_num, HE6.out, M, xs, Hrow6.out, by omega, fun h => by omega, fun i hi => by
              obtain rfl : k = i := by omega
              exact ⟨by omega, ⟨_, _, _, Hx0.out⟩, by rw [Hmin.out]; exact Hx1.out⟩⟩
          · rw [decide_eq_false (show ¬ (mj : Int) < ((f k : Nat) : Int) by omega)] at R2
            replace R2 := Lib.hid R2
            have Hap := Lib.hid (show (∃ (o' : Option Addr) (n' c' : Nat), (xs ++ [.slice o n c, I (f k)])[0]? = some (.slice o' n' c')) ∧ (xs ++ [.slice o n c, I (f k)])[1]? = some (I (minTo f k)) by
              rw [hmin]
              have hl := (List.getElem?_eq_some_iff.1 Hx1.out).1
              exact ⟨⟨_, _, _, by rw [List.getElem?_append_left (by omega)]; exact Hx0.out⟩, by rw [List.getElem?_append_left hl]; exact Hx1.out⟩)
            clear hb2 hmin
            refine wp_region_plan (.take 0 <| .take 1 <| .take 2 <| .take 3 <| .take 4 <| .take 5 <| .take 6 <| .take 7 <| .take 8 <| .only 9 <| .take 10 <| .done) (fun W => Ext w4 W) mixed (by kernel_rfl) (by kernel_rfl) rfl (fun _ _ d _ _ h => by cases d <;> exact h) ((Ext.refl w4).drew) ?_
            repeat ((first | (refine plan_take (v := ?_) rfl rfl (fun W hW => ?_) ?_; rotate_left; (focus (have d0 := cell_ext hW b0; have d1 := cell_ext hW b1; have d2 := cell_ext hW r0; have d3 := cell_ext hW r1; go_simp; first | exact rfl | (split <;> first | exact rfl | (exfalso; omega)) | done))) | refine plan_skip rfl rfl ?_); simp only [Act.put, List.setIfInBounds_toArray, List.set_cons_zero, List.set_cons_succ])
            refine plan_walk rfl ?_; intro K hK
            go_wp2_with (first | (go_at_call 49; refine (R1.out _).mono ?_; rintro e w5 ⟨rfl, h5⟩))
            have X5 := (Ext.refl w4).drew.trans h5
            refine hK _ _ X5 ?_
            repeat ((first | (refine plan_take (v := ?_) rfl rfl (fun W hW => ?_) ?_; rotate_left; (focus (skip; go_simp; first | exact rfl | (split <;> first | exact rfl | (exfalso; omega)) | done))) | refine plan_skip rfl rfl ?_); simp only [Act.put, List.setIfInBounds_toArray, List.set_cons_zero, List.set_cons_succ])
            refine plan_done ?_
            have HE5 := Lib.hid (HX4.out.trans X5)
            have HV5 := Lib.hid (HV4.out.ext X5)
            have Hrow5 := Lib.hid (row_mv Hrow4.out (Mv.of_ext (I := fun _ => False) X5) (fun _ _ h => h))
            have r0 := cell_ext X5 r0
            have r1 := cell_ext X5 r1
            have b0 := cell_ext X5 b0
            have b1 := cell_ext X5 b1
            clear X5 h5
            go_wp2_with fail
            refine wp_region_plan (.take 0 <| .take 1 <| .take 2 <| .take 3 <| .take 4 <| .take 5 <| .take 6 <| .take 7 <| .take 8 <| .only 9 <| .take 10 <| .take 11 <| .done) (fun W => Ext w5 W) mixed (by kernel_rfl) (by kernel_rfl) rfl (fun _ _ d _ _ h => by cases d <;> exact h) ((Ext.refl w5).drew) ?_
            repeat ((first | (refine plan_take (v := ?_) rfl rfl (fun W hW => ?_) ?_; rotate_left; (focus (have d0 := cell_ext hW b0; have d1 := cell_ext hW b1; have d2 := cell_ext hW r0; have d3 := cell_ext hW r1; go_simp; first | exact rfl | (split <;> first | exact rfl | (exfalso; omega)) | done))) | refine plan_skip rfl rfl ?_); simp only [Act.put, List.setIfInBounds_toArray, List.set_cons_zero, List.set_cons_succ])
            refine plan_walk rfl ?_; intro K hK
            go_wp2_with (first | (go_at_call 49; refine (R2.out _).mono ?_; rintro e w6 ⟨rfl, h6⟩))
            have X6 := (Ext.refl w5).drew.trans h6
            refine hK _ _ X6 ?_
            repeat ((first | (refine plan_take (v := ?_) rfl rfl (fun W hW => ?_) ?_; rotate_left; (focus (skip; go_simp; first | exact rfl | (split <;> first | exact rfl | (exfalso; omega)) | done))) | refine plan_skip rfl rfl ?_); simp only [Act.put, List.setIfInBounds_toArray, List.set_cons_zero, List.set_cons_succ])
            refine plan_done ?_
            have HE6 := Lib.hid (HE5.out.trans X6)
            have HV6 := Lib.hid (HV5.out.ext X6)
            have Hrow6 := Lib.hid (row_mv Hrow5.out (Mv.of_ext (I := fun _ => False) X6) (fun _ _ h => h))
            clear X6 h6 r0 r1 b0 b1
            obtain ⟨ii, hi1, hi2, hi3, hi4⟩ := info_parts i75
            have p0 := HV6.out 0 _ rfl
            have p1 := HV6.out 1 _ rfl
            have hn1 := is_cell0 w6 (.slice o n c) (I (f k)) 75
            have hn2 := is_cell1 w6 (.slice o n c) (I (f k)) 75
            have hs6 := HE6.out.size
            go_wp2_with (first | (at_builtin; refine wpList_append_own _ rfl _ _ 76 rfl w.heap.size 75 ii (.agg #[.slice none 0 0, .int .i64 0]) 2 32 Try.underlying76 hi1 hi2 hi3 hi4 rfl (by decide) _ M xs rfl (row_mv Hrow6.out (Mv.of_ext (I := fun _ => False) ((Ext.refl w6).alloc _)) (fun _ _ h => h)) ⟨w6.heap.size, 0, none⟩ 1 1 [.slice o n c, I (f k)] rfl rfl ?_ (by simp [Value.oneCell']) (by unfold maxLen; omega) (by omega) (by simp only [World.size_alloc]; omega) ?_))
            · intro j u hu
              match j, hu with
              | 0, hu => simp at hu; subst hu; simp [Addr.add]
              | 1, hu => simp at hu; subst hu; simp [Addr.add]
            · intro v' w7 hr7 hg7 _
              have X6 : Ext w6 (w6.alloc (.cells #[.slice o n c, I (f k)] 75)) := (Ext.refl w6).alloc _
              have hE7 := Lib.hid (show Ext w w7 from (HE6.out.trans X6).below (B := w.heap.size) ((Below.refl _ _).grown hg7 (by simp only [World.size_alloc]; omega) fun b hb => (World.ownsRow.lt Hrow6.out b hb).1) (Nat.le_refl _))
              have Hr7 := Lib.hid hr7
              clear hr7 hg7 X6 p0 p1 hn1 hn2
              go_wp2
              go_roundg (gk - 1)
              case measure => omega
              case rel => exact ⟨k + 1, by omega, by go_num, hE7.out, M + 1, _, Hr7.out, by omega, fun h => by omega, fun j hj => by
                obtain rfl : k = j := by omega
                exact ⟨by omega, Hap.out⟩⟩
    · obtain rfl : k = N := by omega
      have hltI : ¬ (k : Int) < (k : Int) := by omega
      go_wp2
      go_ret
      exact ⟨_, rfl, HO.out, HE.out⟩

end Go.Proofs.Ytdmegfbeibbmfaa
