/- The walk through TopGold where a number is out of its range; both joined. No condition. -/
import Derived.Test.YtdmegfbeibbmfaaTop6
set_option linter.unusedVariables false
set_option linter.unusedSimpArgs false
namespace Go.Proofs.Ytdmegfbeibbmfaa
open Go.RowKit Go.My Go.GoldM

set_option maxRecDepth 100000 in
set_option maxHeartbeats 2000000 in
theorem top_out1 (n wd hg bk : Int)  (c1 : n < 1) (w : World) : Calls Try.prog 3 #[.int .i64 n, .int .i64 wd, .int .i64 hg, .int .i64 bk] w fun e w' => e = .returned (.bool true) ∧ Ext w w' := by
  go_enter Try.func3, Try.ntmps3
  go_wp2_with (first | (go_at_call 4; refine (known4 _).mono ?_; rintro e w1 ⟨rfl, h1⟩))
  go_ret
  exact ⟨rfl, h1⟩
set_option maxRecDepth 100000 in
set_option maxHeartbeats 2000000 in
theorem top_out2 (n wd hg bk : Int) (c1 : ¬ n < 1) (c2 : 5 < n) (w : World) : Calls Try.prog 3 #[.int .i64 n, .int .i64 wd, .int .i64 hg, .int .i64 bk] w fun e w' => e = .returned (.bool true) ∧ Ext w w' := by
  go_enter Try.func3, Try.ntmps3
  go_wp2_with (first | (go_at_call 4; refine (known4 _).mono ?_; rintro e w1 ⟨rfl, h1⟩))
  go_ret
  exact ⟨rfl, h1⟩
set_option maxRecDepth 100000 in
set_option maxHeartbeats 2000000 in
theorem top_out3 (n wd hg bk : Int) (c1 : ¬ n < 1) (c2 : ¬ 5 < n) (c3 : wd < 1) (w : World) : Calls Try.prog 3 #[.int .i64 n, .int .i64 wd, .int .i64 hg, .int .i64 bk] w fun e w' => e = .returned (.bool true) ∧ Ext w w' := by
  go_enter Try.func3, Try.ntmps3
  go_wp2_with (first | (go_at_call 4; refine (known4 _).mono ?_; rintro e w1 ⟨rfl, h1⟩))
  go_ret
  exact ⟨rfl, h1⟩
set_option maxRecDepth 100000 in
set_option maxHeartbeats 2000000 in
theorem top_out4 (n wd hg bk : Int) (c1 : ¬ n < 1) (c2 : ¬ 5 < n) (c3 : ¬ wd < 1) (c4 : 6 < wd) (w : World) : Calls Try.prog 3 #[.int .i64 n, .int .i64 wd, .int .i64 hg, .int .i64 bk] w fun e w' => e = .returned (.bool true) ∧ Ext w w' := by
  go_enter Try.func3, Try.ntmps3
  go_wp2_with (first | (go_at_call 4; refine (known4 _).mono ?_; rintro e w1 ⟨rfl, h1⟩))
  go_ret
  exact ⟨rfl, h1⟩
set_option maxRecDepth 100000 in
set_option maxHeartbeats 2000000 in
theorem top_out5 (n wd hg bk : Int) (c1 : ¬ n < 1) (c2 : ¬ 5 < n) (c3 : ¬ wd < 1) (c4 : ¬ 6 < wd) (c5 : hg < 1) (w : World) : Calls Try.prog 3 #[.int .i64 n, .int .i64 wd, .int .i64 hg, .int .i64 bk] w fun e w' => e = .returned (.bool true) ∧ Ext w w' := by
  go_enter Try.func3, Try.ntmps3
  go_wp2_with (first | (go_at_call 4; refine (known4 _).mono ?_; rintro e w1 ⟨rfl, h1⟩))
  go_ret
  exact ⟨rfl, h1⟩
set_option maxRecDepth 100000 in
set_option maxHeartbeats 2000000 in
theorem top_out6 (n wd hg bk : Int) (c1 : ¬ n < 1) (c2 : ¬ 5 < n) (c3 : ¬ wd < 1) (c4 : ¬ 6 < wd) (c5 : ¬ hg < 1) (c6 : 6 < hg) (w : World) : Calls Try.prog 3 #[.int .i64 n, .int .i64 wd, .int .i64 hg, .int .i64 bk] w fun e w' => e = .returned (.bool true) ∧ Ext w w' := by
  go_enter Try.func3, Try.ntmps3
  go_wp2_with (first | (go_at_call 4; refine (known4 _).mono ?_; rintro e w1 ⟨rfl, h1⟩))
  go_ret
  exact ⟨rfl, h1⟩
set_option maxRecDepth 100000 in
set_option maxHeartbeats 2000000 in
theorem top_out7 (n wd hg bk : Int) (A : Int) (hqm : IntKind.i64.wrap (wd * hg) = A) (c1 : ¬ n < 1) (c2 : ¬ 5 < n) (c3 : ¬ wd < 1) (c4 : ¬ 6 < wd) (c5 : ¬ hg < 1) (c6 : ¬ 6 < hg) (c7 : 12 < A) (w : World) : Calls Try.prog 3 #[.int .i64 n, .int .i64 wd, .int .i64 hg, .int .i64 bk] w fun e w' => e = .returned (.bool true) ∧ Ext w w' := by
  go_enter Try.func3, Try.ntmps3
  go_wp2_with (first | (go_at_call 4; refine (known4 _).mono ?_; rintro e w1 ⟨rfl, h1⟩))
  go_ret
  exact ⟨rfl, h1⟩
set_option maxRecDepth 100000 in
set_option maxHeartbeats 2000000 in
theorem top_out8 (n wd hg bk : Int) (A : Int) (hqm : IntKind.i64.wrap (wd * hg) = A) (c1 : ¬ n < 1) (c2 : ¬ 5 < n) (c3 : ¬ wd < 1) (c4 : ¬ 6 < wd) (c5 : ¬ hg < 1) (c6 : ¬ 6 < hg) (c7 : ¬ 12 < A) (c8 : bk < 1) (w : World) : Calls Try.prog 3 #[.int .i64 n, .int .i64 wd, .int .i64 hg, .int .i64 bk] w fun e w' => e = .returned (.bool true) ∧ Ext w w' := by
  go_enter Try.func3, Try.ntmps3
  go_wp2_with (first | (go_at_call 4; refine (known4 _).mono ?_; rintro e w1 ⟨rfl, h1⟩))
  go_ret
  exact ⟨rfl, h1⟩
set_option maxRecDepth 100000 in
set_option maxHeartbeats 2000000 in
theorem top_out9 (n wd hg bk : Int) (A : Int) (hqm : IntKind.i64.wrap (wd * hg) = A) (c1 : ¬ n < 1) (c2 : ¬ 5 < n) (c3 : ¬ wd < 1) (c4 : ¬ 6 < wd) (c5 : ¬ hg < 1) (c6 : ¬ 6 < hg) (c7 : ¬ 12 < A) (c8 : ¬ bk < 1) (c9 : 12 < bk) (w : World) : Calls Try.prog 3 #[.int .i64 n, .int .i64 wd, .int .i64 hg, .int .i64 bk] w fun e w' => e = .returned (.bool true) ∧ Ext w w' := by
  go_enter Try.func3, Try.ntmps3
  go_wp2_with (first | (go_at_call 4; refine (known4 _).mono ?_; rintro e w1 ⟨rfl, h1⟩))
  go_ret
  exact ⟨rfl, h1⟩

theorem top_any (n wd hg bk : Int) (w : World) : Calls Try.prog 3 #[.int .i64 n, .int .i64 wd, .int .i64 hg, .int .i64 bk] w fun e w' => e = .returned (.bool true) ∧ Ext w w' := by
  by_cases c1 : n < 1
  · exact top_out1 n wd hg bk c1 w
  by_cases c2 : 5 < n
  · exact top_out2 n wd hg bk c1 c2 w
  by_cases c3 : wd < 1
  · exact top_out3 n wd hg bk c1 c2 c3 w
  by_cases c4 : 6 < wd
  · exact top_out4 n wd hg bk c1 c2 c3 c4 w
  by_cases c5 : hg < 1
  · exact top_out5 n wd hg bk c1 c2 c3 c4 c5 w
  by_cases c6 : 6 < hg
  · exact top_out6 n wd hg bk c1 c2 c3 c4 c5 c6 w
  obtain ⟨N, rfl⟩ : ∃ N : Nat, n = N := ⟨n.toNat, by omega⟩
  obtain ⟨W, rfl⟩ : ∃ W : Nat, wd = W := ⟨wd.toNat, by omega⟩
  obtain ⟨H, rfl⟩ : ∃ H : Nat, hg = H := ⟨hg.toNat, by omega⟩
  have hm : W * H ≤ 36 := Nat.mul_le_mul (show W ≤ 6 by omega) (show H ≤ 6 by omega)
  have hqm : IntKind.i64.wrap ((W : Int) * (H : Int)) = ((W * H : Nat) : Int) := by rw [← Int.natCast_mul, IntWalk.i64_in _ (by omega)]
  by_cases c7 : (12 : Int) < ((W * H : Nat) : Int)
  · exact top_out7 N W H bk _ hqm c1 c2 c3 c4 c5 c6 c7 w
  by_cases c8 : bk < 1
  · exact top_out8 N W H bk _ hqm c1 c2 c3 c4 c5 c6 c7 c8 w
  by_cases c9 : 12 < bk
  · exact top_out9 N W H bk _ hqm c1 c2 c3 c4 c5 c6 c7 c8 c9 w
  obtain ⟨B, rfl⟩ : ∃ B : Nat, bk = B := ⟨bk.toNat, by omega⟩
  exact top_in N W H B (by omega) (by omega) (by omega) (by omega) (by omega) w

end Go.Proofs.Ytdmegfbeibbmfaa
