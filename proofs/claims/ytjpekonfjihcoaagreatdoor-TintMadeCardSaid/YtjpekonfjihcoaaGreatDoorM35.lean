/- Contracts and mathematics, joined: PlanR. Conditions stand with each. -/
import Derived.Below
import Derived.BigQuiet
import Derived.Deep.DeepCutAuto
import Derived.Deep.DeepFit
import Derived.Deep.LoopGhost
import Derived.Deep.QuietTactic
import Derived.Deep.RegionHeld
import Derived.Deep.RegionHeld3
import Derived.Deep.RegionWith
import Derived.Lib.Hide
import Derived.OrdersHeld
import Derived.OwnWalkIn
import Derived.RegionIn
import Derived.TacticsIn
import Derived.Test.YtjpekonfjihcoaaGreatDoorProg
import Derived.WalkKit
import Derived.WalkLawsBesides
import Derived.WalkSpells
import Derived.Test.YtjpekonfjihcoaaGreatDoorM2
import Derived.Test.YtjpekonfjihcoaaGreatDoorM21
namespace Go.TintM
end Go.TintM
set_option maxRecDepth 100000
set_option maxHeartbeats 64000000
set_option linter.unusedVariables false
set_option linter.unusedSimpArgs false
/- A region that draws its order in a round's body, walked by a plan as outside of a round. No condition. -/
namespace Go.My
open Go Go.RowKit

section
variable {n ro : Nat} {P : Program} {ops : Array Oper} {Q : Exit → Act → World → Prop} {S : World → Prop}
def noDefer (ops : Array Oper) : Bool := ops.all fun o => match o.op with | .defer _ => false | _ => true
theorem noDefer_spec (h : noDefer ops = true) (j : Nat) (o : Oper) (ho : ops[j]? = some o) : ∀ c, o.op ≠ .defer c := by
 intro c heq
 have := Array.all_eq_true_iff_forall_mem.1 h o (Array.mem_of_getElem? ho)
 rw [heq] at this
 cases this
theorem wpOpIn_round (hd : noDefer ops = true) {i : Nat} {K : Act → World → Prop} {a : Act} {w : World} (h : wpOpIn Fence.wide n P ops Q i K a w) : wpOpIn (Fence.wide.inRound ro) n P ops Q i K a w := by
 unfold wpOpIn at *
 cases ho : ops[i]? with
 | none => rw [ho] at h; exact h
 | some o =>
  rw [ho] at h
  simp only at h ⊢
  have hn := noDefer_spec hd i o ho
  split
  ·rename_i hw
   rw [if_pos hw] at h
   refine ⟨h.1, ?_⟩
   have h2 := h.2
   rw [Oper.semAt_eq _ _ _ hn] at h2 ⊢
   exact h2
  ·rename_i hw
   rw [if_neg hw] at h
   exact h
theorem anyW_round (hd : noDefer ops = true) : ∀ (f : Nat) (l : Array Bool) (a : Act) (w : World), anyW n P ops Q S f l a w → wpAnyIn (Fence.wide.inRound ro) n P .any ops Q f l a w
 | 0, _, _, _, h => h
 | f + 1, _, _, _, h => ⟨h.1, fun i hi => wpOpIn_round hd (wpOpIn_mono (fun a' w' k => anyW_round hd f _ a' w' k.2) (h.2 i hi))⟩
/-- The beginning. -/
theorem wpIn_region_planR {id : Nat} {a : Act} {w : World} (p : Plan) (S : World → Prop) (hm : P.follows .mixedOrders = true) (hs : Region.noSelect ops = true) (hp : planOk ops p (Array.replicate ops.size false) = true) (hz : p.size = ops.size)
  (hQ : ∀ c a d v w, Q (.panic c) (Act.put a d v) w → Q (.panic c) a w) (hl : ∀ K, LetsOut (Exit.then K Q) → LetsOut Q) (hS : S w.drew) (hd : noDefer ops = true) (h : planWalkIn n P ops Q S p a w.drew) : (Code.region id ops true).wpIn (Fence.wide.inRound ro) n P Q a w :=
 wpIn_region_any hm (anyW_round hd _ _ _ _ (planWalkIn_sound hs hQ hl p _ a _ _ hp (by omega) hS h))
/-- A piece of code that does not give up. -/
theorem wp_calm {c : Code} {K : Act → World → Prop} {a : Act} {w : World} (h : c.wp P (Exit.then K (fun _ _ _ => False)) a w) : c.wp P (Exit.then K Q) a w :=
 Code.wp_mono (fun e a w h => by cases e <;> first | exact h | exact h.elim) h
end
end Go.My
