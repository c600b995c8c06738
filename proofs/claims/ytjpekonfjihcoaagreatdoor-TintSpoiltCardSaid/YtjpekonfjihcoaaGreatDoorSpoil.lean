/- The world of a text of which one byte is written anew. No condition. -/
import Derived.ArgAppend
import Derived.Below
import Derived.BigQuiet
import Derived.Deep.DeepCutAuto
import Derived.Deep.DeepFit
import Derived.Deep.LoopGhost
import Derived.Deep.QuietTactic
import Derived.Deep.RegionHeld
import Derived.Deep.RegionHeld3
import Derived.Deep.RegionWith
import Derived.Deep.Upon
import Derived.Defers
import Derived.Laws.BytesArg
import Derived.Laws.EntriesVeiled
import Derived.Laws.OwnMore
import Derived.Lib.ConvBytes
import Derived.Lib.Hide
import Derived.Lib.IndexBytes
import Derived.Lib.ItoaNum
import Derived.Lib.SmallJoins
import Derived.Lib.SplitLaws
import Derived.LoopIn
import Derived.LoopNIn
import Derived.Maps.AppendAt
import Derived.Maps.Keyed
import Derived.Maps.OwnIn
import Derived.OrdersHeld
import Derived.OwnWalkIn
import Derived.RangeFuncBound
import Derived.RangeFuncCalls
import Derived.RangeFuncLeaves
import Derived.RangeFuncNested
import Derived.Recover
import Derived.RegionIn
import Derived.Shelf.Abstract
import Derived.Shelf.Strconv.Itoa3
import Derived.Shelf.Strings.Split
import Derived.TacticsIn
import Derived.TacticsInMore
import Derived.Test.YtjpekonfjihcoaaGreatDoorProg
import Derived.WalkKit
import Derived.WalkLawsBesides
import Derived.WalkSpells
import Derived.Test.YtjpekonfjihcoaaGreatDoorM2
import Derived.Test.YtjpekonfjihcoaaGreatDoorM6
import Derived.Test.YtjpekonfjihcoaaGreatDoorM1
namespace Go.TintM
end Go.TintM
set_option maxRecDepth 100000
set_option maxHeartbeats 64000000
set_option linter.unusedVariables false
set_option linter.unusedSimpArgs false
namespace Go.Proofs.YtjpekonfjihcoaaGreatDoor
open Go.RowKit Go.My Go.TintM

theorem nums_set (l : List UInt8) (j d : Nat) (hd : d < 10) : strOfNums ((l.map fun b => ((b.toNat : Nat) : Int)).set j (48 + (d : Int))) = bs (l.set j (UInt8.ofNat (48 + d))) := by
 unfold strOfNums bs
 congr 2
 rw [List.map_set, List.map_map]
 have h1 : (l.map ((fun n : Int => UInt8.ofNat n.toNat) ∘ fun b : UInt8 => ((b.toNat : Nat) : Int))) = l := by
  have : ((fun n : Int => UInt8.ofNat n.toNat) ∘ fun b : UInt8 => ((b.toNat : Nat) : Int)) = id := by funext b; simp
  rw [this, List.map_id]
 rw [h1, show (48 + (d : Int)).toNat = 48 + d by omega]

theorem spoil_world (l : List UInt8) (j d : Nat) (hj : j < l.length) (hd : d < 10) : ∃ (BW : World → World) (C : World → Nat), (∀ W, (convert 9 96 (.string (bs l))).run Tryz.prog W = .ok (.slice (some ⟨W.heap.size, 0, none⟩) l.length (C W)) (BW W)) ∧
  (∀ W, (BW W).cell? ⟨W.heap.size, j, none⟩ = some (.int .u8 (l[j].toNat : Nat))) ∧ (∀ W, (BW W).frozen? ⟨W.heap.size, j, none⟩ = false) ∧
  (∀ W, (convert 96 9 (.slice (some ⟨W.heap.size, 0, none⟩) l.length (C W))).run Tryz.prog ((BW W).setCell ⟨W.heap.size, j, none⟩ (.int .u8 (48 + (d : Int)))) = .ok (.string (bs (l.set j (UInt8.ofNat (48 + d))))) ((BW W).setCell ⟨W.heap.size, j, none⟩ (.int .u8 (48 + (d : Int))))) ∧
  ∀ W, Ext W ((BW W).setCell ⟨W.heap.size, j, none⟩ (.int .u8 (48 + (d : Int)))) := by
 have hE : ∀ W, Ext W (Lib.bytesWorld W 5 (bs l)) := fun W => Go.Joins.below_bytesWorld W.heap.size W 5 (bs l) (Nat.le_refl _)
 refine ⟨fun W => Lib.bytesWorld W 5 (bs l), fun W => grownCap W (bs l).size 0 5, fun W => ?_, fun W => ?_, fun W => ?_, fun W => ?_, fun W => ?_⟩
 ·exact Lib.run_convert_string_bytes W 9 96 5 (bs l) Tryz.underlying9 Tryz.underlying96 Tryz.underlying5
 ·rw [Lib.bytesWorld_cell W 5 (bs l) j hj]
  simp [List.getD, hj]
 ·simp only [World.frozen?, Lib.bytesWorld_at_new]
  have : (bs l).size ≤ (Lib.bytesCells W 5 (bs l)).size := by simp only [Lib.bytesCells, Array.size_append, Array.size_map]; exact Nat.le_add_right _ _
  have hs : (bs l).size = l.length := by simp [ByteArray.size]
  simp only [Bool.and_eq_false_iff, decide_eq_false_iff_not]
  left; omega
 ·rw [run_convert_bytes_arg (P := Tryz.prog) _ 96 5 Tryz.underlying96 Tryz.underlying5 W.heap.size 0 l.length _ ((l.map fun b => ((b.toNat : Nat) : Int)).set j (48 + (d : Int))) (by simp) (fun i hi => ?_) 9 Tryz.underlying9, nums_set l j d hd]
  have hcell : ∀ i, i < l.length → (Lib.bytesWorld W 5 (bs l)).cell? ⟨W.heap.size, i, none⟩ = some (.int .u8 (l[i]?.getD 0).toNat) := fun i hi => by
   rw [Lib.bytesWorld_cell W 5 (bs l) i hi]; simp [List.getD]
  rw [Nat.zero_add]
  by_cases e : j = i
  ·subst e
   rw [World.cell?_setCell_same _ _ _ (hcell j hi)]
   simp [List.getD, hi]
  ·rw [World.cell?_setCell_other _ _ _ _ (fun h => e (by injection h)), hcell i hi]
   simp [List.getD, hi, e]
 ·exact ext_own (hE W) ((Turned.refl W.heap.size _).set j _) (Nat.le_refl _)

end Go.Proofs.YtjpekonfjihcoaaGreatDoor
