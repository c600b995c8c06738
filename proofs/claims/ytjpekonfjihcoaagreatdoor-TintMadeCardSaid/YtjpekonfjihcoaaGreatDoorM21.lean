/- Contracts and mathematics, joined: PlanIn. Conditions stand with each. -/
import Derived.Below
import Derived.BigQuiet
import Derived.Deep.DeepCutAuto
import Derived.Deep.DeepFit
import Derived.Deep.LoopGhost
import Derived.Deep.QuietTactic
import Derived.Deep.RegionHeld
import Derived.Deep.RegionHeld3
import Derived.Deep.RegionWith
import Derived.Lib.Hide
import Derived.OrdersHeld
import Derived.RegionIn
import Derived.Test.YtjpekonfjihcoaaGreatDoorProg
import Derived.WalkKit
import Derived.WalkLawsBesides
import Derived.WalkSpells
import Derived.Test.YtjpekonfjihcoaaGreatDoorM2
namespace Go.TintM
end Go.TintM
set_option maxRecDepth 100000
set_option maxHeartbeats 64000000
set_option linter.unusedVariables false
set_option linter.unusedSimpArgs false
/- A region that draws its order and calls into a round, walked by a plan. No condition. -/
namespace Go.My
open Go Go.RowKit

section
variable {n : Nat} {P : Program} {ops : Array Oper} {Q : Exit → Act → World → Prop} {S : World → Prop}

/-- In every world with S the operation gives v, and no more. -/
structure Gives (P : Program) (ops : Array Oper) (S : World → Prop) (o : Oper) (v : Value) (a : Act) : Prop where
 want : Region.wanted o (yielded ops a.tmps) = true
 run : ∀ w, S w → (execOp a.eval o).run P w = .ok (.value v) w
theorem Gives.move {o : Oper} {v u : Value} {a : Act} {d : Option Tmp} (h : Gives P ops S o v a) (hs : ∀ cs b, o.op ≠ .select cs b) (hd : ∀ t, d = some t → t ∉ o.looksAt ops) : Gives P ops S o v (a.put d u) :=
 ⟨(wanted_put o a d u hd).trans h.want, fun w hw => by rw [execOp_put o hs a d u hd]; exact h.run w hw⟩
theorem Gives.op {i : Nat} {o : Oper} {v : Value} {a : Act} {K : Act → World → Prop} {w : World} (h : Gives P ops S o v a) (hi : ops[i]? = some o) (hS : S w) (hK : K (a.put o.dst v) w) : wpOpIn Fence.wide n P ops Q i K a w := by
 unfold wpOpIn
 simp only [hi, h.want, if_true]
 refine ⟨fun _ _ => trivial, ?_⟩
 rw [show Fence.wide.round = none from rfl, Oper.semAt_none, h.run w hS]
 exact hK

/-- What has no part in operation i may be done behind it. -/
theorem op_behind {j : Nat} {x y : Oper} {v : Value} {K : Act → World → Prop} {a : Act} {w : World} (hy : ops[j]? = some y) (hap : x.apart ops y = true) (hsx : ∀ cs b, x.op ≠ .select cs b) (hsy : ∀ cs b, y.op ≠ .select cs b)
  (hQ : ∀ c a w, Q (.panic c) (a.put x.dst v) w → Q (.panic c) a w) (hg : Gives P ops S x v a) (h : wpOpIn Fence.wide n P ops Q j K (a.put x.dst v) w) :
  wpOpIn Fence.wide n P ops Q j (fun a' w' => Gives P ops S x v a' ∧ K (a'.put x.dst v) w') a w := by
 obtain ⟨p1, p2, p3⟩ := Oper.apart_spec hap
 have sw : ∀ (u : Value) (w' : World), K ((a.put x.dst v).put y.dst u) w' → Gives P ops S x v (a.put y.dst u) ∧ K ((a.put y.dst u).put x.dst v) w' := fun u w' hk =>
  ⟨hg.move hsx p3, by rw [← Act.put_comm a v u p2]; exact hk⟩
 unfold wpOpIn at *
 simp only [hy] at *
 rw [wanted_put y a x.dst v p1] at h
 by_cases hw : Region.wanted y (yielded ops a.tmps) = true
 ·rw [if_pos hw] at h ⊢
  refine ⟨fun _ _ => trivial, ?_⟩
  have h2 := h.2
  rw [show Fence.wide.round = none from rfl, Oper.semAt_none, execOp_put y hsy a x.dst v p1] at h2
  rw [show Fence.wide.round = none from rfl, Oper.semAt_none]
  cases hr : (execOp a.eval y).run P w with
  | halt s w' =>
   rw [hr] at h2
   cases s <;> first | exact h2 | exact hQ _ _ _ h2
  | ok nx w' =>
   rw [hr] at h2
   cases nx with
   | value u => exact sw u w' h2
   | skip => exact sw undef w' h2
   | defer d =>
    have hg' : Gives P ops S x v { a with defers := d :: a.defers } := ⟨hg.want, hg.run⟩
    refine ⟨hg'.move hsx p3, ?_⟩
    simp only [Oper.uponIn] at h2
    rw [Act.put_defers] at h2
    rw [← Act.put_comm _ v undef p2]
    exact h2
   | enter f args =>
    refine ⟨h2.1, CallsIn.mono h2.2 fun e w'' he => ?_⟩
    cases e with
    | returned u => exact sw u w'' he
    | panicked c => exact hQ _ _ _ he
    | outgrown => exact he
   | row r args => exact ⟨h2.1, RowsIn.mono h2.2 fun u w'' he => sw u w'' he⟩
   | round l f tmps assign body =>
    refine ⟨h2.1, RoundIn.mono h2.2 fun e w'' he => ?_⟩
    cases e with
    | returned u => exact sw u w'' he
    | panicked c => exact hQ _ _ _ he
    | outgrown => exact he
   | _ => exact h2
 ·rw [if_neg hw] at h ⊢
  exact ⟨fun _ _ => trivial, sw undef w h.2⟩

/-- Whatever comes up next, S holds behind it. -/
def anyW (n : Nat) (P : Program) (ops : Array Oper) (Q : Exit → Act → World → Prop) (S : World → Prop) : Nat → Array Bool → Act → World → Prop
 | 0, l, a, w => Region.ready .any ops l = [] ∧ Q .normal a w
 | f + 1, l, a, w => (Region.ready .any ops l = [] → Q .normal a w) ∧ ∀ i ∈ Region.ready .any ops l, wpOpIn Fence.wide n P ops Q i (fun a' w' => S w' ∧ anyW n P ops Q S f (l.setIfInBounds i true) a' w') a w
theorem anyW_plain : ∀ (f : Nat) (l : Array Bool) (a : Act) (w : World), anyW n P ops Q S f l a w → wpAnyIn Fence.wide n P .any ops Q f l a w
 | 0, _, _, _, h => h
 | f + 1, _, _, _, h => ⟨h.1, fun i hi => wpOpIn_mono (fun a' w' k => anyW_plain f _ a' w' k.2) (h.2 i hi)⟩
theorem anyW_lead {i : Nat} {x : Oper} {v : Value} (hi : ops[i]? = some x) (hs : Region.noSelect ops = true) (hQ : ∀ c a w, Q (.panic c) (a.put x.dst v) w → Q (.panic c) a w) :
  ∀ (f : Nat) (l : Array Bool) (a : Act) (w : World), (∀ j y, ops[j]? = some y → j ≠ i → l.getD j true = false → (∀ e ∈ y.after, Region.binds .any e = true → e.on ≠ i) → x.apart ops y = true) →
   i ∈ Region.ready .any ops l → Gives P ops S x v a → S w → anyW n P ops Q S f (l.setIfInBounds i true) (a.put x.dst v) w → anyW n P ops Q S (f + 1) l a w := by
 intro f
 induction f with
 | zero =>
  intro l a w _ hr hg hS h
  refine ⟨fun h0 => by rw [h0] at hr; (cases hr), fun j hj => ?_⟩
  rcases Nat.decEq j i with hne | rfl
  ·have := ready_mono hj hne
   rw [h.1] at this; (cases this)
  ·exact hg.op hi hS ⟨hS, h⟩
 | succ f ih =>
  intro l a w hfree hr hg hS h
  refine ⟨fun h0 => by rw [h0] at hr; (cases hr), fun j hj => ?_⟩
  rcases Nat.decEq j i with hne | rfl
  ·obtain ⟨hun, y, hy, hall⟩ := mem_ready.1 hj
   have hoff : ∀ e ∈ y.after, Region.binds .any e = true → e.on ≠ i := fun e he hb heq => by
    have g1 := hall e he hb
    have g0 := (mem_ready.1 hr).1
    rw [heq] at g1
    simp only [Array.getD_eq_getD_getElem?] at g0 g1
    cases hh : l[i]? with
    | none => rw [hh] at g1; simp at g1
    | some b => rw [hh] at g0 g1; simp at g0 g1; rw [g0] at g1; cases g1
   refine wpOpIn_mono (fun a' w' k => ⟨k.2.1, ih (l.setIfInBounds j true) a' w' (fun q z hz hqi hqu hqn => ?_) (ready_mono hr (Ne.symm hne)) k.1 k.2.1 ?_⟩)
    (op_behind hy (hfree j y hy hne hun hoff) (fun cs b => Region.noSelect_spec hs i x cs b hi) (fun cs b => Region.noSelect_spec hs j y cs b hy) hQ hg (h.2 j (ready_mono hj hne)))
   ·rcases Nat.decEq j q with hjq | rfl
    ·exact hfree q z hz hqi (by rwa [getD_set_ne true hjq] at hqu) hqn
    ·exact hfree _ z hz hqi hun hqn
   ·rw [Array.setIfInBounds_comm _ _ hne]; exact k.2.2
  ·exact hg.op hi hS ⟨hS, h⟩

def planWalkIn (n : Nat) (P : Program) (ops : Array Oper) (Q : Exit → Act → World → Prop) (S : World → Prop) : Plan → Act → World → Prop
 | .done, a, w => Q .normal a w
 | .take i rest, a, w => ∃ o v, nthOp ops.toList i = some o ∧ Gives P ops S o v a ∧ planWalkIn n P ops Q S rest (a.put o.dst v) w
 | .only i rest, a, w => ∃ o, nthOp ops.toList i = some o ∧ wpListIn Fence.wide n P ops (Exit.then (fun a' w' => S w' ∧ planWalkIn n P ops Q S rest a' w') Q) [o] a w
 | .two i j p q, a, w => (∃ o, nthOp ops.toList i = some o ∧ wpListIn Fence.wide n P ops (Exit.then (fun a' w' => S w' ∧ planWalkIn n P ops Q S p a' w') Q) [o] a w) ∧
   (∃ o, nthOp ops.toList j = some o ∧ wpListIn Fence.wide n P ops (Exit.then (fun a' w' => S w' ∧ planWalkIn n P ops Q S q a' w') Q) [o] a w)
 | .three _ _ _ _ _ _, _, _ => False

theorem wpIn_post {o : Oper} {a : Act} {w : World} {K : Act → World → Prop} (h : o.wpIn Fence.wide n P a w K (Exit.then K Q)) (hl : LetsOut (Exit.then K Q) → LetsOut Q) : o.wpIn Fence.wide n P a w K Q := by
 refine ⟨h.1, ?_⟩
 have h2 := h.2
 cases hr : (o.semAt Fence.wide.round a.eval).run P w with
 | halt s w' => rw [hr] at h2; cases s <;> exact h2
 | ok nx w' =>
  rw [hr] at h2
  cases nx with
  | enter f args => exact ⟨h2.1, CallsIn.mono h2.2 fun e w'' he => by cases e <;> first | exact he | exact hl he⟩
  | round l f tmps assign body => exact ⟨h2.1, RoundIn.mono h2.2 fun e w'' he => by cases e <;> first | exact he | exact hl he⟩
  | _ => exact h2
theorem op_of_list {i : Nat} {o : Oper} {K : Act → World → Prop} {a : Act} {w : World} (ho : ops[i]? = some o) (hl : LetsOut (Exit.then K Q) → LetsOut Q) (h : wpListIn Fence.wide n P ops (Exit.then K Q) [o] a w) : wpOpIn Fence.wide n P ops Q i K a w := by
 unfold wpOpIn
 simp only [ho]
 simp only [wpListIn] at h
 by_cases hw : Region.wanted o (yielded ops a.tmps) = true
 ·rw [if_pos hw] at h ⊢
  exact wpIn_post h hl
 ·rw [if_neg hw] at h ⊢
  exact h
theorem planWalkIn_sound (hs : Region.noSelect ops = true) (hQ : ∀ c a d v w, Q (.panic c) (Act.put a d v) w → Q (.panic c) a w) (hl : ∀ K, LetsOut (Exit.then K Q) → LetsOut Q) : ∀ (p : Plan) (l : Array Bool) (a : Act) (w : World) (f : Nat),
  planOk ops p l = true → p.size ≤ f → S w → planWalkIn n P ops Q S p a w → anyW n P ops Q S f l a w := by
 intro p
 induction p with
 | done =>
  intro l a w f hok _ _ h
  have he : Region.ready .any ops l = [] := by simpa [planOk, List.isEmpty_iff] using hok
  cases f with
  | zero => exact ⟨he, h⟩
  | succ f => exact ⟨fun _ => h, by rw [he]; intro i hi; cases hi⟩
 | take i rest ih =>
  intro l a w f hok hf hS h
  cases f with
  | zero => simp [Plan.size] at hf
  | succ f =>
   simp only [planOk, Bool.and_eq_true] at hok
   obtain ⟨⟨q1, q2⟩, q3⟩ := hok
   obtain ⟨o, v, ho, hg, hr⟩ := h
   exact anyW_lead (nthOp_arr ho) hs (fun c a w => hQ c a _ _ w) f l a w (Region.free_spec (nthOp_arr ho) q1) (by simpa using q2) hg hS (ih _ _ _ _ q3 (by simpa [Plan.size] using hf) hS hr)
 | only i rest ih =>
  intro l a w f hok hf hS h
  cases f with
  | zero => simp [Plan.size] at hf
  | succ f =>
   simp only [planOk, Bool.and_eq_true, beq_iff_eq] at hok
   obtain ⟨q1, q3⟩ := hok
   obtain ⟨o, ho, hw⟩ := h
   refine ⟨fun h0 => by rw [h0] at q1; (cases q1), fun j hj => ?_⟩
   rw [q1] at hj
   obtain rfl : j = i := by simpa using hj
   exact wpOpIn_mono (fun a' w' k => ⟨k.1, ih _ _ _ _ q3 (by simpa [Plan.size] using hf) k.1 k.2⟩) (op_of_list (nthOp_arr ho) (hl _) hw)
 | two i j p q ihp ihq =>
  intro l a w f hok hf hS h
  cases f with
  | zero => simp [Plan.size] at hf
  | succ f =>
   simp only [planOk, Bool.and_eq_true, beq_iff_eq] at hok
   obtain ⟨⟨q1, q2⟩, q3⟩ := hok
   obtain ⟨⟨o, ho, hw⟩, ⟨o', ho', hw'⟩⟩ := h
   simp only [Plan.size] at hf
   refine ⟨fun h0 => by rw [h0] at q1; (cases q1), fun k hk => ?_⟩
   rw [q1] at hk
   rcases (by simpa using hk : k = i ∨ k = j) with rfl | rfl
   ·exact wpOpIn_mono (fun a' w' k => ⟨k.1, ihp _ _ _ _ q2 (by omega) k.1 k.2⟩) (op_of_list (nthOp_arr ho) (hl _) hw)
   ·exact wpOpIn_mono (fun a' w' k => ⟨k.1, ihq _ _ _ _ q3 (by omega) k.1 k.2⟩) (op_of_list (nthOp_arr ho') (hl _) hw')
 | three i j k p q r ihp ihq ihr =>
  intro l a w f hok hf hS h
  exact h.elim

/-- The beginning. -/
theorem wpIn_region_plan {id : Nat} {a : Act} {w : World} (p : Plan) (S : World → Prop) (hm : P.follows .mixedOrders = true) (hs : Region.noSelect ops = true) (hp : planOk ops p (Array.replicate ops.size false) = true) (hz : p.size = ops.size)
  (hQ : ∀ c a d v w, Q (.panic c) (Act.put a d v) w → Q (.panic c) a w) (hl : ∀ K, LetsOut (Exit.then K Q) → LetsOut Q) (hS : S w.drew) (h : planWalkIn n P ops Q S p a w.drew) : (Code.region id ops true).wpIn Fence.wide n P Q a w :=
 wpIn_region_any hm (anyW_plain _ _ _ _ (planWalkIn_sound hs hQ hl p _ a _ _ hp (by omega) hS h))
end

section
variable {n : Nat} {P : Program} {ops : Array Oper} {Q : Exit → Act → World → Prop} {S : World → Prop} {rest : Plan} {a : Act} {w : World}
theorem planIn_take {i : Nat} {o : Oper} {v : Value} (ho : nthOp ops.toList i = some o) (hw : Region.wanted o (yielded ops a.tmps) = true) (hr : ∀ w, S w → (execOp a.eval o).run P w = .ok (.value v) w)
  (h : planWalkIn n P ops Q S rest (a.put o.dst v) w) : planWalkIn n P ops Q S (.take i rest) a w := ⟨o, v, ho, ⟨hw, hr⟩, h⟩
theorem planIn_walk {i : Nat} {o : Oper} (ho : nthOp ops.toList i = some o) (h : ∀ K : Act → World → Prop, (∀ a' w', S w' → planWalkIn n P ops Q S rest a' w' → K a' w') → wpListIn Fence.wide n P ops (Exit.then K Q) [o] a w) :
  planWalkIn n P ops Q S (.only i rest) a w := ⟨o, ho, h _ fun _ _ h1 h2 => ⟨h1, h2⟩⟩
theorem planIn_two {i j : Nat} {p q : Plan} {o o' : Oper} (ho : nthOp ops.toList i = some o) (ho' : nthOp ops.toList j = some o')
  (h : ∀ K : Act → World → Prop, (∀ a' w', S w' → planWalkIn n P ops Q S p a' w' → K a' w') → wpListIn Fence.wide n P ops (Exit.then K Q) [o] a w)
  (h' : ∀ K : Act → World → Prop, (∀ a' w', S w' → planWalkIn n P ops Q S q a' w' → K a' w') → wpListIn Fence.wide n P ops (Exit.then K Q) [o'] a w) :
  planWalkIn n P ops Q S (.two i j p q) a w := ⟨⟨o, ho, h _ fun _ _ h1 h2 => ⟨h1, h2⟩⟩, ⟨o', ho', h' _ fun _ _ h1 h2 => ⟨h1, h2⟩⟩⟩
theorem planIn_done (h : Q .normal a w) : planWalkIn n P ops Q S .done a w := h
end
end Go.My
