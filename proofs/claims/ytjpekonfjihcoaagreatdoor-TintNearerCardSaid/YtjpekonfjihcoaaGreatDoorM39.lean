/- Contracts and mathematics, joined: LFs, LFa. Conditions stand with each. -/
import Derived.Test.YtjpekonfjihcoaaGreatDoorM27
import Derived.Test.YtjpekonfjihcoaaGreatDoorM26
import Derived.ArgAppend
import Derived.Below
import Derived.BigQuiet
import Derived.Deep.DeepCutAuto
import Derived.Deep.DeepFit
import Derived.Deep.LoopGhost
import Derived.Deep.QuietTactic
import Derived.Deep.RegionHeld
import Derived.Deep.RegionHeld3
import Derived.Deep.RegionWith
import Derived.Deep.Upon
import Derived.Defers
import Derived.Laws.BytesArg
import Derived.Laws.EntriesVeiled
import Derived.Laws.OwnMore
import Derived.Lib.Hide
import Derived.Lib.IndexBytes
import Derived.Lib.ItoaNum
import Derived.Lib.SplitLaws
import Derived.LoopIn
import Derived.LoopNIn
import Derived.Maps.AppendAt
import Derived.Maps.Keyed
import Derived.Maps.OwnIn
import Derived.OrdersHeld
import Derived.OwnWalkIn
import Derived.RangeFuncBound
import Derived.RangeFuncCalls
import Derived.RangeFuncLeaves
import Derived.RangeFuncNested
import Derived.Recover
import Derived.RegionIn
import Derived.Shelf.Abstract
import Derived.Shelf.Strconv.Itoa3
import Derived.Shelf.Strings.Split
import Derived.TacticsIn
import Derived.TacticsInMore
import Derived.Test.YtjpekonfjihcoaaGreatDoorProg
import Derived.WalkKit
import Derived.WalkLawsBesides
import Derived.WalkSpells
import Derived.Test.YtjpekonfjihcoaaGreatDoorM2
import Derived.Test.YtjpekonfjihcoaaGreatDoorM25
import Derived.Test.YtjpekonfjihcoaaGreatDoorM3
import Derived.Test.YtjpekonfjihcoaaGreatDoorR8
import Derived.Test.YtjpekonfjihcoaaGreatDoorM1
namespace Go.TintM
end Go.TintM
set_option maxRecDepth 100000
set_option maxHeartbeats 64000000
set_option linter.unusedVariables false
set_option linter.unusedSimpArgs false
/- What the program finds, as slices of natural numbers. No condition. -/
namespace Go.Proofs.YtjpekonfjihcoaaGreatDoor
open Go.RowKit Go.My Go.TintM

section
variable {s : Sh} {P : List Nat → Bool} {w w' : World} {e : Ending} {m : List Nat}
theorem found_s1 (h : (allMix s.tins.length).find? P = some m) (hf : FoundIn s P w e w') : (∃ ol cl, e = .returned (.tuple #[.slice ol m.length cl, .int .i64 0]) ∧ IntsAt w' ol (upL m)) ∧ Ext w w' := by
 obtain ⟨hE, hf⟩ := hf
 rw [h] at hf
 obtain ⟨v, h1, ol, cl, rfl, _, _, _, h4⟩ := hf
 exact ⟨⟨ol, cl, by rw [h1, upL_length], h4⟩, hE⟩
theorem found_s0 (h : (allMix s.tins.length).find? P = none) (hf : FoundIn s P w e w') : e = .returned (.tuple #[.slice none 0 0, .int .i64 5]) ∧ Ext w w' := by
 obtain ⟨hE, hf⟩ := hf
 rw [h] at hf
 exact ⟨hf, hE⟩
end

end Go.Proofs.YtjpekonfjihcoaaGreatDoor
/- What is found, as slices of natural numbers. No condition. -/
namespace Go.Proofs.YtjpekonfjihcoaaGreatDoor
open Go.RowKit Go.My Go.TintM

section
variable {s : Sh} {P : List Nat → Bool} {w w' : World} {e : Ending} {m : List Nat}
theorem foundP_1 (hf : FoundP (some m) e w') : ∃ ol cl, e = .returned (.tuple #[.slice ol m.length cl, .bool true]) ∧ IntsAt w' ol (upL m) := by
 obtain ⟨v, h1, ol, cl, rfl, _, _, _, h4⟩ := hf
 exact ⟨ol, cl, by rw [h1, upL_length], h4⟩
theorem found_r1 (h : (allMix s.tins.length).find? P = some m) (hf : FoundR s P w e w') : (∃ ol cl, e = .returned (.tuple #[.slice ol m.length cl, .bool true]) ∧ IntsAt w' ol (upL m)) ∧ Ext w w' := by
 obtain ⟨hE, hf⟩ := hf
 rw [h] at hf
 exact ⟨foundP_1 hf, hE⟩
theorem found_r0 (h : (allMix s.tins.length).find? P = none) (hf : FoundR s P w e w') : e = .returned (.tuple #[.slice none 0 0, .bool false]) ∧ Ext w w' := by
 obtain ⟨hE, hf⟩ := hf
 rw [h] at hf
 exact ⟨hf, hE⟩
end

end Go.Proofs.YtjpekonfjihcoaaGreatDoor
