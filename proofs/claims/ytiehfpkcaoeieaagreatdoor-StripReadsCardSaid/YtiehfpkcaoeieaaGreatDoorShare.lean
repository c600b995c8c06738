/- A plan whose branches meet again: what holds behind all of them is said once. No condition. -/
import Derived.Test.YtiehfpkcaoeieaaGreatDoorM1
set_option linter.unusedVariables false
set_option linter.unusedSimpArgs false
namespace Go.My
open Go Go.RowKit

section
variable {P : Program} {ops : Array Oper} {Q : Exit → Act → World → Prop} {S : World → Prop}
theorem then_then (K R Q : Act → World → Prop) (Q0 : Exit → Act → World → Prop) : Exit.then K (Exit.then R Q0) = Exit.then K (Exit.then Q Q0) := by
  funext e a w; cases e <;> rfl
theorem wpList_one_mono {K K' : Act → World → Prop} {o : Oper} {a : Act} {w : World} (hk : ∀ a w, K a w → K' a w) (hw : wpList P ops (Exit.then K Q) [o] a w) : wpList P ops (Exit.then K' Q) [o] a w := by
  simp only [wpList] at hw ⊢
  split
  · rename_i hwt
    rw [if_pos hwt] at hw
    rcases hw with hw | hw
    · exact .inl (Oper.wp_mono hk (wp_posts (fun _ _ _ h => h) (fun h => h) hw))
    · exact .inr ⟨hw.1, by obtain ⟨a0, w0, hq⟩ := hw.2; exact ⟨a0, w0, hq⟩⟩
  · rename_i hwt
    rw [if_neg hwt] at hw
    exact hk _ _ hw
theorem plan_meet {R next : Act → World → Prop} {Q0 : Exit → Act → World → Prop} (h2 : ∀ a' w', R a' w' → next a' w') : ∀ (p : Plan) (a : Act) (w : World), planWalk P ops (Exit.then R Q0) S p a w → planWalk P ops (Exit.then next Q0) S p a w := by
  intro p
  induction p with
  | done => intro a w h; exact h2 _ _ h
  | take i rest ih =>
    intro a w h
    obtain ⟨o, v, ho, hy, hr⟩ := h
    exact ⟨o, v, ho, hy, ih _ _ hr⟩
  | only i rest ih =>
    intro a w h
    obtain ⟨o, ho, hw⟩ := h
    refine ⟨o, ho, ?_⟩
    rw [then_then _ next R Q0]
    exact wpList_one_mono (fun a' w' k => ⟨k.1, ih _ _ k.2⟩) hw
  | two i j p q ihp ihq =>
    intro a w h
    obtain ⟨⟨o, ho, hw⟩, ⟨o', ho', hw'⟩⟩ := h
    refine ⟨⟨o, ho, ?_⟩, ⟨o', ho', ?_⟩⟩
    · rw [then_then _ next R Q0]; exact wpList_one_mono (fun a' w' k => ⟨k.1, ihp _ _ k.2⟩) hw
    · rw [then_then _ next R Q0]; exact wpList_one_mono (fun a' w' k => ⟨k.1, ihq _ _ k.2⟩) hw'
theorem plan_share {Q0 : Exit → Act → World → Prop} {next : Act → World → Prop} {p : Plan} {a : Act} {w : World} (R : Act → Act → World → Prop) (h1 : planWalk P ops (Exit.then (R a) Q0) S p a w) (h2 : ∀ a' w', R a a' w' → next a' w') : planWalk P ops (Exit.then next Q0) S p a w :=
  plan_meet h2 p a w h1
theorem plan_met {Q0 : Exit → Act → World → Prop} {R : Act → World → Prop} {a : Act} {w : World} (h : R a w) : planWalk P ops (Exit.then R Q0) S .done a w := h
end
end Go.My
