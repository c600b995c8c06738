/- The cells of one's own box: laws. No condition. -/
import Derived.Test.YtjpekonfjihcoaaGreatDoorM2
namespace Go.TintM
end Go.TintM
set_option maxRecDepth 100000
set_option maxHeartbeats 64000000
set_option linter.unusedVariables false
set_option linter.unusedSimpArgs false
namespace Go.Proofs.YtjpekonfjihcoaaGreatDoor
open Go.RowKit Go.My

/-- The cells of one's own box. -/
structure CB (W : World) (b : Nat) (vs : List Value) : Prop where
 c : ∀ (i : Nat) (v : Value), vs[i]? = some v → W.cell? ⟨b, i, none⟩ = some v
 f : ∀ i, i < vs.length → W.frozen? ⟨b, i, none⟩ = false
section
variable {W W' : World} {b q : Nat} {vs : List Value}
theorem CB.new (w : World) (vs : List Value) (t : TypeId) : CB (w.alloc (.cells vs.toArray t)) w.heap.size vs :=
 ⟨fun i v hv => by rw [cell_of_row _ _ i _ _ _ (heap_alloc_new w _)]; simpa using hv, fun i _ => frozen_of_row _ _ i _ _ (heap_alloc_new w _)⟩
theorem CB.lt (h : CB W b vs) (hl : 0 < vs.length) : b < W.heap.size := World.block_lt_of_cell? _ _ (h.c 0 vs[0] (by simp [hl]))
theorem CB.ext (h : CB W b vs) (hE : Ext W W') : CB W' b vs :=
 ⟨fun i v hv => cell_ext hE (h.c i v hv), fun i hi => (frozen_ext (p := ⟨b, i, none⟩) hE (World.block_lt_of_cell? _ _ (h.c i vs[i] (by simp [hi])))).trans (h.f i hi)⟩
theorem CB.below {B : Nat} (h : CB W b vs) (hB : Below B W W') (hb : b < B) : CB W' b vs :=
 ⟨fun i v hv => cell_below hB hb (h.c i v hv), fun i hi => (hB.frozen (p := ⟨b, i, none⟩) hb).trans (h.f i hi)⟩
theorem CB.other (h : CB W b vs) (i : Nat) (v : Value) (hne : b ≠ q) : CB (W.setCell ⟨q, i, none⟩ v) b vs :=
 ⟨fun j u hu => by rw [World.cell?_setCell_other _ _ _ _ (fun e => hne (by injection e with e1 _ _; exact e1.symm))]; exact h.c j u hu, fun j hj => by simp only [World.frozen?_setCell]; exact h.f j hj⟩
theorem CB.set (h : CB W b vs) {i : Nat} (hi : i < vs.length) (v : Value) : CB (W.setCell ⟨b, i, none⟩ v) b (vs.set i v) :=
 ⟨fun j u hu => by
  rw [List.getElem?_set] at hu
  by_cases e : i = j
  ·subst e
   rw [if_pos rfl, if_pos hi] at hu
   cases hu
   exact World.cell?_setCell_same _ _ _ (h.c i vs[i] (by simp [hi]))
  ·rw [if_neg e] at hu
   rw [World.cell?_setCell_other _ _ _ _ (fun h => e (by injection h))]
   exact h.c j u hu, fun j hj => by
  rw [List.length_set] at hj
  simp only [World.frozen?_setCell]; exact h.f j hj⟩
end

end Go.Proofs.YtjpekonfjihcoaaGreatDoor
