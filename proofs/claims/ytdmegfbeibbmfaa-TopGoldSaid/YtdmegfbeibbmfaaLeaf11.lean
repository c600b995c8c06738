/- Contract: which cutting has fewer leaves. No condition. -/
import Derived.Test.YtdmegfbeibbmfaaLeaf10
set_option linter.unusedVariables false
set_option linter.unusedSimpArgs false
namespace Go.Proofs.Ytdmegfbeibbmfaa
open Go.RowKit Go.My Go.GoldM

abbrev cutV (o : Option Addr) (n c many : Nat) : Value := .agg #[.slice o n c, I many]
set_option maxHeartbeats 1000000 in
theorem less33 (o o' : Option Addr) (n c a n' c' b : Nat) (w : World) : Calls Try.prog 33 #[cutV o n c a, cutV o' n' c' b] w fun e w' => e = .returned (.bool (decide (a < b))) ∧ Ext w w' := by
  have HE := Lib.hid (((Ext.refl w).alloc (.cells #[.slice o n c, I a] 64)).alloc (.cells #[.slice o' n' c', I b] 64))
  go_enter Try.func33, Try.ntmps33
  go_wp2
  go_ret
  exact ⟨ret_bool (decide_eq_decide.2 (by omega)), HE.out⟩

end Go.Proofs.Ytdmegfbeibbmfaa
