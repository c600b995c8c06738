/- Contracts: isSheet, isOne, areHours. No condition beyond sheets as defined. -/
import Derived.Test.YtdmegfbeibbmfaaPrice1
set_option linter.unusedVariables false
set_option linter.unusedSimpArgs false
namespace Go.Proofs.Ytdmegfbeibbmfaa
open Go.RowKit Go.My Go.GoldM

set_option maxRecDepth 100000 in
set_option maxHeartbeats 4000000 in
theorem isSheet34 (s : Sh) (f : FineS s) (bo bb bt : Nat) (w : World) (h : ShAt w s bo bb bt) : Calls Try.prog 34 #[shV bo bb bt] w fun e w' => e = .returned (.bool true) ∧ Ext w w' := by
  have R1 := Lib.hid (fun W => in35_yes (x := 1) (a := 1) (b := 3) (by decide) W)
  have R2 := Lib.hid (fun W => in35_yes (x := 1) (a := 1) (b := 4) (by decide) W)
  have R3 := Lib.hid (fun W => in35_yes (x := 2) (a := 1) (b := 3) (by decide) W)
  have HE0 := Lib.hid ((Ext.refl w).alloc (.cells (shL bo bb bt).toArray 48))
  have B := Lib.hid (VB.new w (shL bo bb bt) 48)
  have R43 := Lib.hid (fun W (hE : Ext w W) => contains43p bo W (h.o.ext hE))
  have R58 := Lib.hid (fun W (hE : Ext w W) (hb : VB W w.heap.size (shL bo bb bt)) => contains58 s f bo bb bt w.heap.size W hb (h.b.ext hE))
  have R61 := Lib.hid (fun W (hE : Ext w W) => contains61 s f bt W (h.t.ext hE))
  clear h f
  have T1 := Lib.hid trivial
  have T2 := Lib.hid trivial
  have T3 := Lib.hid trivial
  go_enter Try.func34, Try.ntmps34
  go_wp2_with (first | (go_at_call 35; have t0 := T1; clear t0 T1; refine (R1.out _).mono ?_; rintro e w3 ⟨rfl, h3⟩; obtain rfl := h3.symm) | (go_at_call 35; have t0 := T2; clear t0 T2; refine (R2.out _).mono ?_; rintro e w3 ⟨rfl, h3⟩; obtain rfl := h3.symm) | (go_at_call 35; have t0 := T3; clear t0 T3; refine (R3.out _).mono ?_; rintro e w3 ⟨rfl, h3⟩; obtain rfl := h3.symm) | (go_at_call 43; refine (R43.out _ HE0.out).mono ?_; rintro e w3 ⟨rfl, h3⟩; obtain rfl := h3.symm) | (go_at_call 58; refine (R58.out _ HE0.out B.out).mono ?_; rintro e w4 ⟨rfl, h4⟩; have H4 := Lib.hid (HE0.out.trans h4); have B4 := Lib.hid (B.out.ext h4); clear h4; have b2 := B4.out 2 _ rfl) | (go_at_call 61; refine (R61.out _ H4.out).mono ?_; rintro e w5 ⟨rfl, h5⟩))
  go_ret
  exact ⟨rfl, H4.out.trans h5⟩
set_option maxRecDepth 100000 in
set_option maxHeartbeats 2000000 in
theorem isOne15 (s : Sh) (f : FineS s) (bo bb bt t : Nat) (ht : t ≤ 1) (w : World) (h : ShAt w s bo bb bt) : Calls Try.prog 15 #[shV bo bb bt, I t] w fun e w' => e = .returned (.bool true) ∧ Ext w w' := by
  have R1 := Lib.hid (fun W => in35_yes (x := (t : Int)) (a := 0) (b := 1) (by omega) W)
  have HE0 := Lib.hid ((Ext.refl w).alloc (.cells (shL bo bb bt).toArray 48))
  have B := Lib.hid (VB.new w (shL bo bb bt) 48)
  have R34 := Lib.hid (fun W (hE : Ext w W) => isSheet34 s f bo bb bt W (h.ext hE))
  clear h f
  go_enter Try.func15, Try.ntmps15
  go_wp2_with (first | (go_at_call 34; refine (R34.out _ HE0.out).mono ?_; rintro e w4 ⟨rfl, h4⟩; have H4 := Lib.hid (HE0.out.trans h4); have B4 := Lib.hid (B.out.ext h4); clear h4; have b2 := B4.out 2 _ rfl) | (go_at_call 35; refine (R1.out _).mono ?_; rintro e w3 ⟨rfl, h3⟩; obtain rfl := h3.symm))
  go_ret
  exact ⟨rfl, H4.out⟩
set_option maxRecDepth 100000 in
set_option maxHeartbeats 2000000 in
theorem areHours16 (s : Sh) (bo bb bt bh : Nat) (w : World) (h : ShAt w s bo bb bt) (hh : VB w bh [.int .i64 0]) : Calls Try.prog 16 #[shV bo bb bt, .slice (some ⟨bh, 0, none⟩) 1 1] w fun e w' => e = .returned (.bool true) ∧ Ext w w' := by
  have R1 := Lib.hid (fun W => in35_yes (x := 0) (a := 0) (b := 0) (by decide) W)
  have HE0 := Lib.hid ((Ext.refl w).alloc (.cells (shL bo bb bt).toArray 48))
  have B := Lib.hid (VB.new w (shL bo bb bt) 48)
  have Hb := Lib.hid (h.b.ext HE0.out)
  have Hh := Lib.hid (hh.ext HE0.out)
  clear h hh
  go_enter Try.func16, Try.ntmps16
  go_wp2_with fail
  obtain ⟨w1, hw1⟩ : ∃ X, X = w.alloc (.cells #[.slice (some ⟨bo, 0, none⟩) 1 1, .slice (some ⟨bb, 0, none⟩) 1 1, .slice (some ⟨bt, 0, none⟩) 2 2] 48) := ⟨_, rfl⟩
  replace HE0 := Lib.hid (show Ext w w1 by rw [hw1]; exact HE0.out)
  replace B := Lib.hid (show VB w1 w.heap.size (shL bo bb bt) by rw [hw1]; exact B.out)
  replace Hb := Lib.hid (show VB w1 bb (bdL s) by rw [hw1]; exact Hb.out)
  replace Hh := Lib.hid (show VB w1 bh [.int .i64 0] by rw [hw1]; exact Hh.out)
  rw [← hw1]
  clear hw1
  go_loopg [9] 1 (fun g i wr => ∃ k : Nat, k + g = 1 ∧ Ext w1 wr ∧ i = .int .i64 k)
  case atStart => exact ⟨0, by simp, Ext.refl _, rfl⟩
  case round =>
    obtain ⟨k, hk, hE, rfl⟩ := hrel
    have HE := Lib.hid hE
    have b0 := (B.out.ext hE) 0 _ rfl
    have b1 := (B.out.ext hE) 1 _ rfl
    have b2 := (B.out.ext hE) 2 _ rfl
    have c2 := (Hb.out.ext hE) 2 _ rfl
    have c3 := (Hb.out.ext hE) 3 _ rfl
    have h0 := (Hh.out.ext hE) 0 _ rfl
    clear hE
    obtain rfl | rfl : k = 0 ∨ k = 1 := by omega
    · go_wp2_with fail
      refine wp_region_plan (.take 0 <| .take 1 <| .take 2 <| .take 3 <| .take 4 <| .take 5 <| .take 6 <| .take 7 <| .take 8 <| .take 9 <| .take 10 <| .take 11 <| .take 12 <| .take 13 <| .take 14 <| .take 15 <| .take 16 <| .take 17 <| .take 18 <| .take 19 <| .take 20 <| .only 21 <| .take 22 <| .take 23 <| .done) (fun W => Ext wr W) mixed (by kernel_rfl) (by kernel_rfl) rfl (fun _ _ d _ _ h => by cases d <;> exact h) ((Ext.refl wr).drew) ?_
      repeat ((first | (refine plan_take (v := ?_) rfl rfl (fun W hW => ?_) ?_; rotate_left; (focus (have d0 := cell_ext hW b1; have d1 := cell_ext hW c2; have d2 := cell_ext hW c3; go_simp; first | exact rfl | (split <;> first | exact rfl | (exfalso; omega)) | done))) | refine plan_skip rfl rfl ?_); simp only [Act.put, List.setIfInBounds_toArray, List.set_cons_zero, List.set_cons_succ])
      refine plan_walk rfl ?_; intro K hK
      go_wp2_with (first | (go_at_call 35; refine (R1.out _).mono ?_; rintro e w3 ⟨rfl, h3⟩; obtain rfl := h3.symm))
      refine hK _ _ (Ext.refl wr).drew ?_
      repeat ((first | (refine plan_take (v := ?_) rfl rfl (fun W hW => ?_) ?_; rotate_left; (focus (skip; go_simp; first | exact rfl | (split <;> first | exact rfl | (exfalso; omega)) | done))) | refine plan_skip rfl rfl ?_); simp only [Act.put, List.setIfInBounds_toArray, List.set_cons_zero, List.set_cons_succ])
      refine plan_done ?_
      clear b0 b1 b2 c2 c3 h0
      go_wp2
      go_roundg (gk - 1)
      case measure => omega
      case rel => exact ⟨1, by omega, HE.out.drew, by go_num⟩
    · go_wp2
      go_ret
      exact ⟨rfl, HE0.out.trans HE.out⟩

end Go.Proofs.Ytdmegfbeibbmfaa
