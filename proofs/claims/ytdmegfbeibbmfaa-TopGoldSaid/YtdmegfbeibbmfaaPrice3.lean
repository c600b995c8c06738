/- Contracts: billOf, kindOf, quantity. No condition. -/
import Derived.Test.YtdmegfbeibbmfaaPrice2
import Derived.Test.YtdmegfbeibbmfaaG4
set_option linter.unusedVariables false
set_option linter.unusedSimpArgs false
namespace Go.Proofs.Ytdmegfbeibbmfaa
open Go.RowKit Go.My Go.GoldM

abbrev blL (bo bb bt bh mb : Nat) : List Value := [.slice (some ⟨bo, 0, none⟩) 1 1, .slice (some ⟨bb, 0, none⟩) 1 1, .slice (some ⟨bt, 0, none⟩) 2 2, .slice (some ⟨bh, 0, none⟩) 1 1, .map (some mb)]
abbrev blV (bo bb bt bh mb : Nat) : Value := .agg #[.slice (some ⟨bo, 0, none⟩) 1 1, .slice (some ⟨bb, 0, none⟩) 1 1, .slice (some ⟨bt, 0, none⟩) 2 2, .slice (some ⟨bh, 0, none⟩) 1 1, .map (some mb)]
set_option maxRecDepth 100000 in
set_option maxHeartbeats 1000000 in
theorem billOf17 (bo bb bt bh : Nat) (w : World) :
    Calls Try.prog 17 #[shV bo bb bt, .slice (some ⟨bh, 0, none⟩) 1 1] w fun e w' => ∃ mb, e = .returned (blV bo bb bt bh mb) ∧ w'.heap[mb]? = some (.map #[] 0) ∧ w.heap.size ≤ mb ∧ Ext w w' := by
  go_enter Try.func17, Try.ntmps17
  go_wp2_with (first | ((with_reducible refine AmtM.at_make rfl ?_); refine AmtM.wpList_make rfl rfl ?_))
  have hV : VB (((w.alloc (.cells (shL bo bb bt).toArray 48)).alloc (.cells (blL bo bb bt bh (w.heap.size + 1 + 1)).toArray 69)).alloc (.map #[] 0)) (w.heap.size + 1) (blL bo bb bt bh (w.heap.size + 1 + 1)) := by
    have h9 := (VB.new (w.alloc (.cells (shL bo bb bt).toArray 48)) (blL bo bb bt bh (w.heap.size + 1 + 1)) 69).ext ((Ext.refl _).alloc (.map #[] 0))
    simpa only [World.size_alloc] using h9
  have hM : (((w.alloc (.cells (shL bo bb bt).toArray 48)).alloc (.cells (blL bo bb bt bh (w.heap.size + 1 + 1)).toArray 69)).alloc (.map #[] 0)).heap[w.heap.size + 1 + 1]? = some (.map #[] 0) := by
    have h9 := heap_alloc_new ((w.alloc (.cells (shL bo bb bt).toArray 48)).alloc (.cells (blL bo bb bt bh (w.heap.size + 1 + 1)).toArray 69)) (.map #[] 0)
    simpa only [World.size_alloc] using h9
  exact bodyPost_ret (v := blV bo bb bt bh (w.heap.size + 1 + 1)) (results_cells (n := 5) rfl (by kernel_rfl) (by kernel_rfl) _ (w.heap.size + 1) (blL bo bb bt bh (w.heap.size + 1 + 1)) rfl rfl (fun i v hv => hV i v hv)) (by simp) ⟨_, rfl, hM, by omega, (((Ext.refl w).alloc _).alloc _).alloc _⟩

theorem index148_0 (w : World) : (Instr.index 148 (.agg #[.iface 144 (.agg #[]), .iface 145 (.agg #[]), .iface 146 (.agg #[]), .iface 147 (.agg #[])]) (.int .i64 0)).run Try.prog w = .ok (.iface 144 (.agg #[])) w := by kernel_rfl
theorem index148_1 (w : World) : (Instr.index 148 (.agg #[.iface 144 (.agg #[]), .iface 145 (.agg #[]), .iface 146 (.agg #[]), .iface 147 (.agg #[])]) (.int .i64 1)).run Try.prog w = .ok (.iface 145 (.agg #[])) w := by kernel_rfl
set_option maxRecDepth 100000 in
set_option maxHeartbeats 1000000 in
theorem kindOf66 (k u : Nat) (hk : 1 ≤ k ∧ k ≤ 2) (w : World) :
    Calls Try.prog 66 #[tfV k u] w fun e w' => e = .returned (.iface (if k = 1 then 144 else 145) (.agg #[])) ∧ Ext w w' := by
  have ix0 := index148_0
  have ix1 := index148_1
  obtain rfl | rfl : k = 1 ∨ k = 2 := by omega
  · go_enter Try.func66, Try.ntmps66
    go_wp2
    go_ret
    exact ⟨rfl, (Ext.refl w).alloc _⟩
  · go_enter Try.func66, Try.ntmps66
    go_wp2
    go_ret
    exact ⟨rfl, (Ext.refl w).alloc _⟩
set_option maxRecDepth 100000 in
set_option maxHeartbeats 1000000 in
theorem letters107 (s : Sh) (h : Int) (w : World) : Calls Try.prog 107 #[.agg #[], bdV s, .int .i64 h] w fun e w' => e = .returned (I s.l) ∧ Ext w w' := by
  have HE := Lib.hid (((Ext.refl w).alloc (.cells #[] 144)).alloc (.cells (bdL s).toArray 40))
  go_enter Try.func107, Try.ntmps107
  go_wp2
  go_ret
  exact ⟨rfl, HE.out⟩
set_option maxRecDepth 100000 in
set_option maxHeartbeats 1000000 in
theorem feet108 (s : Sh) (h : Int) (w : World) : Calls Try.prog 108 #[.agg #[], bdV s, .int .i64 h] w fun e w' => e = .returned (I s.f) ∧ Ext w w' := by
  have HE := Lib.hid (((Ext.refl w).alloc (.cells #[] 145)).alloc (.cells (bdL s).toArray 40))
  go_enter Try.func108, Try.ntmps108
  go_wp2
  go_ret
  exact ⟨rfl, HE.out⟩

end Go.Proofs.Ytdmegfbeibbmfaa
