/- Contracts: up, rounded, price. No condition beyond sheets as defined. -/
import Derived.Test.YtdmegfbeibbmfaaPrice4
import Derived.Test.YtdmegfbeibbmfaaLeaf18
set_option linter.unusedVariables false
set_option linter.unusedSimpArgs false
namespace Go.Proofs.Ytdmegfbeibbmfaa
open Go.RowKit Go.My Go.GoldM

set_option maxHeartbeats 1000000 in
theorem place65 (w : World) : Calls Try.prog 65 #[.int .i64 2] w fun e w' => e = .returned (.int .i64 1) ∧ w = w' := by
  go_enter Try.func65, Try.ntmps65
  go_wp2
  go_ret
  exact ⟨rfl, rfl⟩
set_option maxRecDepth 100000 in
set_option maxHeartbeats 1000000 in
theorem up77 (q u : Nat) (hq : 1 ≤ q ∧ q ≤ 60) (hu : 1 ≤ u ∧ u ≤ 12) (w : World) : Calls Try.prog 77 #[.agg #[I q, I u]] w fun e w' => e = .returned (I (ceilN q u)) ∧ Ext w w' := by
  have c1 := quo_ceil q u hq.1
  have l1 := ceilN_le q u
  generalize ceilN q u = C at *
  have q1 : IntKind.i64.wrap ((q : Int) + (u : Int)) = (q : Int) + (u : Int) := by rw [IntWalk.i64_in _ (by omega)]
  have q2 : IntKind.i64.wrap ((q : Int) + (u : Int) - 1) = (q : Int) + (u : Int) - 1 := by rw [IntWalk.i64_in _ (by omega)]
  have q3 : IntKind.i64.wrap (C : Int) = (C : Int) := by rw [IntWalk.i64_in _ (by omega)]
  have n1 : ((u : Int) == 0) = false := by rw [beq_eq_false_iff_ne]; omega
  have n3 : ¬ (u : Int) = 0 := by omega
  have HE := Lib.hid ((Ext.refl w).alloc (.cells #[I q, I u] 126))
  clear hq hu l1
  go_enter Try.func77, Try.ntmps77
  go_wp2
  go_ret
  exact ⟨rfl, HE.out⟩
set_option maxRecDepth 100000 in
set_option maxHeartbeats 2000000 in
theorem rounded64 (q u : Nat) (hq : 1 ≤ q ∧ q ≤ 60) (hu : 1 ≤ u ∧ u ≤ 12) (w : World) : Calls Try.prog 64 #[.agg #[I q, I u], .int .i64 1] w fun e w' => e = .returned (I (ceilN q u)) ∧ Ext w w' := by
  have R := Lib.hid (fun W => up77 q u hq hu W)
  have HE := Lib.hid (((Ext.refl w).alloc (.cells #[I q, I u] 126)).alloc (.cells #[.func (.func 76) #[.agg #[I q, I u]] #[], .func (.func 77) #[.agg #[I q, I u]] #[], .func (.func 78) #[.agg #[I q, I u]] #[], .func (.func 79) #[.agg #[I q, I u]] #[]] 142))
  clear hq hu
  go_enter Try.func64, Try.ntmps64
  go_wp2_with (first | (go_at_call 77; refine (R.out _).mono ?_; rintro e w1 ⟨rfl, h1⟩))
  go_ret
  exact ⟨rfl, HE.out.trans h1⟩

end Go.Proofs.Ytdmegfbeibbmfaa
