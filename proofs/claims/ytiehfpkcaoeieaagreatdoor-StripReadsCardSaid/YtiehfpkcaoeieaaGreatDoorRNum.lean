/- Contracts of the reference: decimals of numbers below 0; number. No condition beyond short words. -/
import Derived.Test.YtiehfpkcaoeieaaGreatDoorRSplit
set_option linter.unusedVariables false
set_option linter.unusedSimpArgs false
namespace Go.Proofs.YtiehfpkcaoeieaaGreatDoor
open Go.RowKit Go.My Go.StripM

set_option maxRecDepth 100000 in
theorem dec_neg1 (z : Int) (h1 : -10 < z) (h2 : z < 0) (w : World) : Calls Tryz.prog 133 #[.int .i64 z] w fun e w' => (∃ l : List UInt8, l.length ≤ 2 ∧ e = .returned (.string (bs l))) ∧ Ext w w' := by
  have q1 : IntKind.i64.wrap (48 - z) = 48 - z := by rw [IntWalk.i64_in _ (by omega)]
  have q2 : IntKind.u8.wrap (48 - z) = 48 - z := by rw [IntWalk.u8_in _ (by omega)]
  have hc := conv1 (w.alloc (.cells #[.int .u8 (48 - z)] 5)) w.heap.size (48 - z) (by go_simp)
  obtain ⟨c, hcc⟩ : ∃ c, c = UInt8.ofNat (48 - z).toNat := ⟨_, rfl⟩
  rw [← hcc] at hc
  clear hcc
  go_enter Tryz.func133, Tryz.ntmps133
  go_wp2
  go_ret
  exact ⟨⟨[45, c], by simp, by rw [show ([45, c] : List UInt8) = [45] ++ [c] from rfl, ← bs_append]; rfl⟩, (Ext.refl w).alloc _⟩

theorem tq : ∀ k : Fin 100, 10 ≤ k.val → -10 < (-(k.val : Int)).tdiv 10 ∧ (-(k.val : Int)).tdiv 10 < 0 ∧ -10 < (-(k.val : Int)).tmod 10 ∧ (-(k.val : Int)).tmod 10 ≤ 0 := by decide +kernel

theorem tq2 {z : Int} (h1 : -100 < z) (h2 : z ≤ -10) : -10 < z.tdiv 10 ∧ z.tdiv 10 < 0 ∧ -10 < z.tmod 10 ∧ z.tmod 10 ≤ 0 := by
  have := tq ⟨(-z).toNat, by omega⟩ (by show 10 ≤ (-z).toNat; omega)
  rwa [show (-(((⟨(-z).toNat, by omega⟩ : Fin 100).val : Nat) : Int)) = z by show -(((-z).toNat : Nat) : Int) = z; omega] at this

set_option maxRecDepth 100000 in
set_option maxHeartbeats 1000000 in
theorem dec_neg2 (z : Int) (h0 : -100 < z) (h : z ≤ -10) (w : World) : Calls Tryz.prog 133 #[.int .i64 z] w fun e w' => (∃ l : List UInt8, e = .returned (.string (bs l))) ∧ Ext w w' := by
  have h1 : z < 0 := by omega
  have h2 : ¬ (-10 : Int) < z := by omega
  obtain ⟨k1, k2, k3, k4⟩ := tq2 h0 h
  obtain ⟨a, ha⟩ : ∃ a, a = z.tdiv 10 := ⟨_, rfl⟩
  obtain ⟨b, hb⟩ : ∃ b, b = z.tmod 10 := ⟨_, rfl⟩
  rw [← ha] at k1 k2
  rw [← hb] at k3 k4
  have hq := Lib.hid (fun W => dec_neg1 a k1 k2 W)
  have hcv := fun (W : World) => conv1 (W.alloc (.cells #[.int .u8 (48 - b)] 5)) W.heap.size (48 - b) (by go_simp)
  obtain ⟨c, hcc⟩ : ∃ c, c = UInt8.ofNat (48 - b).toNat := ⟨_, rfl⟩
  rw [← hcc] at hcv
  have q0 : z.tdiv 10 = a := ha.symm
  have q1 : IntKind.i64.wrap a = a := by rw [IntWalk.i64_in _ (by omega)]
  have q2 : z.tmod 10 = b := hb.symm
  have q3 : IntKind.i64.wrap (48 - b) = 48 - b := by rw [IntWalk.i64_in _ (by omega)]
  have q4 : IntKind.u8.wrap (48 - b) = 48 - b := by rw [IntWalk.u8_in _ (by omega)]
  have Hcc := Lib.hid hcc.symm
  clear ha hb hcc
  go_enter Tryz.func133, Tryz.ntmps133
  go_wp2
  refine wp_region_plan (.take 0 <| .take 1 <| .take 3 <| .take 4 <| .take 5 <| .take 6 <| .two 2 7 (.only 7 <| .only 8 <| .take 9 <| .take 10 <| .done) (.two 2 8 (.only 8 <| .take 9 <| .take 10 <| .done) (.only 2 <| .take 9 <| .take 10 <| .done))) (fun W => Ext w W) mixed (by kernel_rfl) (by kernel_rfl) rfl (fun _ _ d _ _ h => by cases d <;> exact h) ((Ext.refl w).drew) ?_
  repeat (first | (refine plan_take (v := ?_) rfl rfl (fun W hW => ?_) ?_; rotate_left; (focus (skip; go_simp; first | exact rfl | (split <;> first | exact rfl | (exfalso; omega)) | done)); simp only [Act.put, List.setIfInBounds_toArray, List.set_cons_zero, List.set_cons_succ]) | (refine plan_skip rfl rfl ?_; simp only [Act.put, List.setIfInBounds_toArray, List.set_cons_zero, List.set_cons_succ]))
  refine plan_two rfl rfl ?_ ?_
  · intro K hK
    go_wp2_with (first | (go_at_call 133; refine (hq.out _).mono ?_; rintro e w1 ⟨⟨d, hd, rfl⟩, hE1⟩))
    have hE2 := (Ext.refl w).drew.trans hE1
    refine hK _ _ hE2 ?_
    refine plan_walk rfl ?_; intro K hK
    go_wp2
    refine hK _ _ (hE2.alloc _) ?_
    refine plan_walk rfl ?_; intro K hK
    have hc1 := hcv w1
    clear hcv
    go_wp2
    refine hK _ _ (hE2.alloc _) ?_
    repeat (first | (refine plan_take (v := ?_) rfl rfl (fun W hW => ?_) ?_; rotate_left; (focus (skip; go_simp; first | exact rfl | (split <;> first | exact rfl | (exfalso; omega)) | done)); simp only [Act.put, List.setIfInBounds_toArray, List.set_cons_zero, List.set_cons_succ]) | (refine plan_skip rfl rfl ?_; simp only [Act.put, List.setIfInBounds_toArray, List.set_cons_zero, List.set_cons_succ]))
    refine plan_done ?_
    go_wp2
    go_ret
    exact ⟨⟨d ++ [c], by rw [← bs_append]; rfl⟩, hE2.alloc _⟩
  · intro K hK
    go_wp2
    have hE2 : Ext w (w.drew.alloc (.cells #[.int .u8 (48 - b)] 5)) := (Ext.refl w).drew.alloc _
    refine hK _ _ hE2 ?_
    refine plan_two rfl rfl ?_ ?_
    · intro K hK
      go_wp2_with (first | (go_at_call 133; refine (hq.out _).mono ?_; rintro e w1 ⟨⟨d, hd, rfl⟩, hE1⟩))
      refine hK _ _ (hE2.trans hE1) ?_
      refine plan_walk rfl ?_; intro K hK
      have hc1 := conv1 w1 w.heap.size (48 - b) (cell_ext hE1 (by go_simp))
      rw [Hcc.out] at hc1
      clear hcv
      go_wp2
      refine hK _ _ (hE2.trans hE1) ?_
      repeat (first | (refine plan_take (v := ?_) rfl rfl (fun W hW => ?_) ?_; rotate_left; (focus (skip; go_simp; first | exact rfl | (split <;> first | exact rfl | (exfalso; omega)) | done)); simp only [Act.put, List.setIfInBounds_toArray, List.set_cons_zero, List.set_cons_succ]) | (refine plan_skip rfl rfl ?_; simp only [Act.put, List.setIfInBounds_toArray, List.set_cons_zero, List.set_cons_succ]))
      refine plan_done ?_
      go_wp2
      go_ret
      exact ⟨⟨d ++ [c], by rw [← bs_append]; rfl⟩, hE2.trans hE1⟩
    · intro K hK
      have hc1 := conv1 (w.alloc (.cells #[.int .u8 (48 - b)] 5)).drew w.heap.size (48 - b) (by go_simp)
      rw [Hcc.out] at hc1
      clear hcv
      go_wp2
      refine hK _ _ hE2 ?_
      refine plan_walk rfl ?_; intro K hK
      clear hc1
      go_wp2_with (first | (go_at_call 133; refine (hq.out _).mono ?_; rintro e w1 ⟨⟨d, hd, rfl⟩, hE1⟩))
      have hE3 : Ext w w1 := hE2.trans hE1
      refine hK _ _ hE3 ?_
      repeat (first | (refine plan_take (v := ?_) rfl rfl (fun W hW => ?_) ?_; rotate_left; (focus (skip; go_simp; first | exact rfl | (split <;> first | exact rfl | (exfalso; omega)) | done)); simp only [Act.put, List.setIfInBounds_toArray, List.set_cons_zero, List.set_cons_succ]) | (refine plan_skip rfl rfl ?_; simp only [Act.put, List.setIfInBounds_toArray, List.set_cons_zero, List.set_cons_succ]))
      refine plan_done ?_
      go_wp2
      go_ret
      exact ⟨⟨d ++ [c], by rw [← bs_append]; rfl⟩, hE3⟩

theorem dec_neg (z : Int) (h0 : -100 < z) (h : z < 0) (w : World) : Calls Tryz.prog 133 #[.int .i64 z] w fun e w' => (∃ l : List UInt8, e = .returned (.string (bs l))) ∧ Ext w w' := by
  by_cases h1 : -10 < z
  · exact (dec_neg1 z h1 h w).mono fun e w' ⟨⟨l, _, hl⟩, hE⟩ => ⟨⟨l, hl⟩, hE⟩
  · exact dec_neg2 z h0 (by omega) w

end Go.Proofs.YtiehfpkcaoeieaaGreatDoor
