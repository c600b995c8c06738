/- Contracts and mathematics, joined: Rounds. Conditions stand with each. -/
import Derived.ArgAppend
import Derived.Below
import Derived.BigQuiet
import Derived.Deep.DeepCutAuto
import Derived.Deep.DeepFit
import Derived.Deep.LoopGhost
import Derived.Deep.QuietTactic
import Derived.Deep.RegionHeld
import Derived.Deep.RegionHeld3
import Derived.Deep.RegionWith
import Derived.Laws.EntriesVeiled
import Derived.Laws.OwnMore
import Derived.Lib.Hide
import Derived.LoopIn
import Derived.LoopNIn
import Derived.Maps.Keyed
import Derived.OrdersHeld
import Derived.OwnWalkIn
import Derived.RangeFuncBound
import Derived.RangeFuncCalls
import Derived.RangeFuncLeaves
import Derived.RangeFuncNested
import Derived.RegionIn
import Derived.Shelf.Abstract
import Derived.TacticsInMore
import Derived.Test.YtjpekonfjihcoaaGreatDoorProg
import Derived.WalkKit
import Derived.WalkLawsBesides
import Derived.WalkSpells
import Derived.Test.YtjpekonfjihcoaaGreatDoorM2
import Derived.Test.YtjpekonfjihcoaaGreatDoorM9
import Derived.Test.YtjpekonfjihcoaaGreatDoorM4
import Derived.Test.YtjpekonfjihcoaaGreatDoorM3
import Derived.Test.YtjpekonfjihcoaaGreatDoorM10
import Derived.Test.YtjpekonfjihcoaaGreatDoorM11
import Derived.Test.YtjpekonfjihcoaaGreatDoorM1
namespace Go.TintM
end Go.TintM
set_option maxRecDepth 100000
set_option maxHeartbeats 64000000
set_option linter.unusedVariables false
set_option linter.unusedSimpArgs false
/- What holds before and behind a round over all mixtures. No condition. -/
namespace Go.Proofs.YtjpekonfjihcoaaGreatDoor
open Go.RowKit Go.My Go.TintM

theorem keeps_ext {W W' : World} (h : Ext W W') : KeepsOthers W W' := ⟨h.size, fun k o hk _ => (h.block k (Array.getElem?_eq_some_iff.1 hk).1).trans hk⟩
theorem put_heap {W : World} {l i : Nat} {o' : Obj} (h : i ≠ l) : (W.putObj l o').heap[i]? = W.heap[i]? := World.putObj_heap_other h
theorem putObj_mv (W : World) (l : Nat) (o : Obj) : Mv (fun i => i = l) W (W.putObj l o) := Mv.of_grown (grownBy_putObj' W l o) fun i e => by cases e; rfl

section
variable (s : Sh) (P : List Nat → Bool) (q : Nat) (wA : World)

/-- Of the first k mixtures it is not so. -/
def NoneYet (k : Nat) (I : Nat → Prop) (W : World) : Prop := Ext wA W ∧ (∀ i, I i → wA.heap.size ≤ i) ∧ ∀ x ∈ (allMix s.tins.length).take k, P x = false
theorem NoneYet.steady : Steady (NoneYet s P wA) := fun _ I I' W W' h hm hI' => ⟨Mv.ext h.1 hm h.2.1, fun i hi => by
 rcases (hI' i hi).1 with k | k
 ·exact h.2.1 i k
 ·exact Nat.le_trans h.1.size k, h.2.2⟩
theorem NoneYet.put (k : Nat) (I : Nat → Prop) (W : World) (l : Nat) (o o' : Obj) (h : NoneYet s P wA k I W) (hl : wA.heap.size ≤ l) (_ : W.heap[l]? = some o) (_ : o.isCells = false) : NoneYet s P wA k I (W.putObj l o') :=
 ⟨Mv.ext h.1 (putObj_mv W l o') fun i e => by rw [e]; exact hl, h.2.1, h.2.2⟩
theorem NoneYet.zero : NoneYet s P wA 0 (fun _ => False) wA := ⟨Ext.refl _, fun _ h => h.elim, fun x hx => by simp at hx⟩

/-- The first one of which it is so lies in the variable. -/
def HitIn (c : Code) (W : World) : Prop := c = .exit 0 ∧ Turned q wA W ∧ ∃ m x, (allMix s.tins.length).find? P = some m ∧ W.cell? ⟨q, 0, none⟩ = some x ∧ My.Own W wA.heap.size 3 x ((upL m).map (Value.int .i64))
theorem HitIn.put (hq : q < wA.heap.size) (c : Code) (W : World) (l : Nat) (o o' : Obj) (h : HitIn s P q wA c W) (hl : wA.heap.size ≤ l) (hl2 : W.heap[l]? = some o) (ho : o.isCells = false) : HitIn s P q wA c (W.putObj l o') := by
 obtain ⟨h1, hT, m, x, hf, hx, hown⟩ := h
 exact ⟨h1, hT.own (grownBy_putObj' W l o') hl, m, x, hf, (World.cell?_of_block (World.putObj_heap_other (by simp; omega))).trans hx, own_put hown hl2 ho⟩

/-- A mixture in a box of the round's. -/
def PotAt (ot : Option Addr) (cap : Nat) (act : Nat → Value → Act) (k : Nat) (I : Nat → Prop) (x : Value) (a : Act) (W : World) : Prop :=
 ∃ m base om cm qb, (allMix s.tins.length)[k]? = some m ∧ x = potV s ot cap om m.length cm ∧ a = act qb x ∧ My.Own W base 3 (.slice om m.length cm) ((upL m).map (Value.int .i64)) ∧ (∀ i, I i → i < base) ∧ wA.heap.size ≤ base ∧ PotBox W qb s ot cap om m.length cm ∧ ¬ I qb ∧ wA.heap.size ≤ qb ∧ qb < W.heap.size
theorem PotAt.put (ot : Option Addr) (cap : Nat) (act : Nat → Value → Act) (k : Nat) (I : Nat → Prop) (x : Value) (a : Act) (W : World) (l : Nat) (o o' : Obj) (h : PotAt s wA ot cap act k I x a W) (hl2 : W.heap[l]? = some o) (ho : o.isCells = false) : PotAt s wA ot cap act k I x a (W.putObj l o') := by
 obtain ⟨m, base, om, cm, qb, h1, h2, h3, h4, h5, h6, h7, h8, h9, h10⟩ := h
 refine ⟨m, base, om, cm, qb, h1, h2, h3, own_put h4 hl2 ho, h5, h6, fun i v hv => ?_, h8, h9, by simpa using h10⟩
 have hc := h7 i v hv
 by_cases e : qb = l
 ·subst e
  rw [World.cell?] at hc
  simp only [hl2] at hc
  cases o <;> simp_all [Obj.isCells]
 ·exact (World.cell?_of_block (World.putObj_heap_other e)).trans hc
theorem PotAt.start {ot : Option Addr} {cap : Nat} {act : Nat → Value → Act} {k : Nat} {I : Nat → Prop} {W : World} {m : List Nat} {base cm : Nat} {om : Option Addr} (hm : (allMix s.tins.length)[k]? = some m)
  (ho : My.Own W base 3 (.slice om m.length cm) ((upL m).map (Value.int .i64))) (h1 : ∀ i, I i → i < base) (h2 : wA.heap.size ≤ base) (hI : ∀ i, I i → wA.heap.size ≤ i ∧ i < W.heap.size) (hs : wA.heap.size ≤ W.heap.size) :
  PotAt s wA ot cap act k I (potV s ot cap om m.length cm) (act W.heap.size (potV s ot cap om m.length cm)) (W.alloc (.cells (potC s ot cap om m.length cm) 108)) :=
 ⟨m, base, om, cm, W.heap.size, hm, rfl, rfl, ho.ext ((Ext.refl W).alloc _), h1, h2, PotBox.new W s ot cap om m.length cm, fun h => by have := (hI _ h).2; omega, hs, by simp⟩
end

theorem own_ints {w : World} {B cap : Nat} {om : Option Addr} {m : List Nat} (h : My.Own w B 3 (.slice om m.length cap) ((upL m).map (Value.int .i64))) : IntsAt w om (upL m) := by
 obtain ⟨oa, c, h1, _, _, _, h2⟩ := h.ints
 simp only [Value.slice.injEq] at h1
 rw [h1.1]; exact h2

end Go.Proofs.YtjpekonfjihcoaaGreatDoor
