/- What is found, as slices of natural numbers. No condition. -/
import Derived.ArgAppend
import Derived.Below
import Derived.BigQuiet
import Derived.Deep.DeepCutAuto
import Derived.Deep.DeepFit
import Derived.Deep.LoopGhost
import Derived.Deep.QuietTactic
import Derived.Deep.RegionHeld
import Derived.Deep.RegionHeld3
import Derived.Deep.RegionWith
import Derived.Deep.Upon
import Derived.Defers
import Derived.Laws.BytesArg
import Derived.Laws.EntriesVeiled
import Derived.Laws.OwnMore
import Derived.Lib.Hide
import Derived.Lib.IndexBytes
import Derived.Lib.ItoaNum
import Derived.Lib.SplitLaws
import Derived.LoopIn
import Derived.LoopNIn
import Derived.Maps.AppendAt
import Derived.Maps.Keyed
import Derived.Maps.OwnIn
import Derived.OrdersHeld
import Derived.OwnWalkIn
import Derived.RangeFuncBound
import Derived.RangeFuncCalls
import Derived.RangeFuncLeaves
import Derived.RangeFuncNested
import Derived.Recover
import Derived.RegionIn
import Derived.Shelf.Abstract
import Derived.Shelf.Strconv.Itoa3
import Derived.Shelf.Strings.Split
import Derived.TacticsIn
import Derived.TacticsInMore
import Derived.Test.YtjpekonfjihcoaaGreatDoorProg
import Derived.WalkKit
import Derived.WalkLawsBesides
import Derived.WalkSpells
import Derived.Test.YtjpekonfjihcoaaGreatDoorM3
import Derived.Test.YtjpekonfjihcoaaGreatDoorM2
import Derived.Test.YtjpekonfjihcoaaGreatDoorR17
import Derived.Test.YtjpekonfjihcoaaGreatDoorM39
import Derived.Test.YtjpekonfjihcoaaGreatDoorM24
import Derived.Test.YtjpekonfjihcoaaGreatDoorR8
import Derived.Test.YtjpekonfjihcoaaGreatDoorM1
namespace Go.TintM
end Go.TintM
set_option maxRecDepth 100000
set_option maxHeartbeats 64000000
set_option linter.unusedVariables false
set_option linter.unusedSimpArgs false
namespace Go.Proofs.YtjpekonfjihcoaaGreatDoor
open Go.RowKit Go.My Go.TintM

section
variable {s : Sh} (g : Fine s) (ot : Option Addr) (cap : Nat) (w : World) (h : TinsAt w ot (ofSh s).tins)
include g h
theorem needs_s1 {m : List Nat} (hn : needsOf s = some m) : Calls Tryz.prog 50 #[sheetV (ofSh s) ot cap] w fun e w' => (∃ ol cl, e = .returned (.tuple #[.slice ol m.length cl, .int .i64 0]) ∧ IntsAt w' ol (upL m)) ∧ Ext w w' :=
 (sNeeds_any s g ot cap w h).mono fun e w' ⟨hE, hf⟩ => by
  rw [hn] at hf
  obtain ⟨v, h1, ol, cl, rfl, _, _, _, h4⟩ := hf
  exact ⟨⟨ol, cl, by rw [h1, upL_length], h4⟩, hE⟩
theorem needs_s0 (hn : needsOf s = none) : Calls Tryz.prog 50 #[sheetV (ofSh s) ot cap] w fun e w' => e = .returned (.tuple #[.slice none 0 0, .int .i64 5]) ∧ Ext w w' :=
 (sNeeds_any s g ot cap w h).mono fun e w' ⟨hE, hf⟩ => by
  rw [hn] at hf
  exact ⟨hf, hE⟩
theorem needs_r1 {m : List Nat} (hn : needsOf s = some m) : Calls Tryz.prog 51 #[sheetV (ofSh s) ot cap] w fun e w' => (∃ ol cl, e = .returned (.tuple #[.slice ol m.length cl, .bool true]) ∧ IntsAt w' ol (upL m)) ∧ Ext w w' :=
 (rNeeds_any s g ot cap w h).mono fun e w' ⟨hE, hf⟩ => by
  rw [hn] at hf
  exact ⟨foundP_1 hf, hE⟩
theorem needs_r0 (hn : needsOf s = none) : Calls Tryz.prog 51 #[sheetV (ofSh s) ot cap] w fun e w' => e = .returned (.tuple #[.slice none 0 0, .bool false]) ∧ Ext w w' :=
 (rNeeds_any s g ot cap w h).mono fun e w' ⟨hE, hf⟩ => by
  rw [hn] at hf
  exact ⟨hf, hE⟩
end

end Go.Proofs.YtjpekonfjihcoaaGreatDoor
