/- Contract: the best of what was tried. No condition. -/
import Derived.Test.YtdmegfbeibbmfaaBench7
import Derived.Test.YtdmegfbeibbmfaaLeaf17
set_option linter.unusedVariables false
set_option linter.unusedSimpArgs false
namespace Go.Proofs.Ytdmegfbeibbmfaa
open Go.RowKit Go.My Go.GoldM

abbrev tmV (o : Option Addr) (n c : Nat) (m : Int) : Value := .agg #[.slice o n c, .int .i64 m]
set_option maxHeartbeats 1000000 in
theorem sooner49 (o o' : Option Addr) (n c n' c' : Nat) (a b : Int) (w : World) : Calls Try.prog 49 #[tmV o n c a, tmV o' n' c' b] w fun e w' => e = .returned (.bool (decide (a < b))) ∧ Ext w w' := by
  have HE := Lib.hid (((Ext.refl w).alloc (.cells #[.slice o n c, .int .i64 a] 75)).alloc (.cells #[.slice o' n' c', .int .i64 b] 75))
  go_enter Try.func49, Try.ntmps49
  go_wp2
  go_ret
  exact ⟨ret_bool (by rfl), HE.out⟩
theorem i75 : (Try.prog.info? 75).map (fun i => (i.zero, i.size, i.bytes)) = some (some (.agg #[.slice none 0 0, .int .i64 0]), 2, 32) := by kernel_rfl
/-- The least of the first k + 1. -/
def minTo (f : Nat → Nat) : Nat → Nat
  | 0 => f 0
  | k + 1 => if f (k + 1) < minTo f k then f (k + 1) else minTo f k

/-- The rows so far: how many, the least of k. -/
def OutAt (W : World) (B : Nat) (f : Nat → Nat) (k : Nat) (v : Value) : Prop := ∃ N xs, W.ownsRow B 75 2 v N xs ∧ N ≤ k ∧ (k = 0 → N = 0) ∧ ∀ j, k = j + 1 → 1 ≤ N ∧ (∃ o n c, xs[0]? = some (.slice o n c)) ∧ xs[1]? = some (I (minTo f j))

end Go.Proofs.Ytdmegfbeibbmfaa
