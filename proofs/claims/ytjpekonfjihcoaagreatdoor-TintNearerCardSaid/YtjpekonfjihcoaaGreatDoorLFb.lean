/- What is found, as slices of natural numbers. No condition. -/
import Derived.ArgAppend
import Derived.Below
import Derived.BigQuiet
import Derived.Deep.DeepCutAuto
import Derived.Deep.DeepFit
import Derived.Deep.LoopGhost
import Derived.Deep.QuietTactic
import Derived.Deep.RegionHeld
import Derived.Deep.RegionHeld3
import Derived.Deep.RegionWith
import Derived.Deep.Upon
import Derived.Defers
import Derived.Laws.BytesArg
import Derived.Laws.EntriesVeiled
import Derived.Laws.OwnMore
import Derived.Lib.Hide
import Derived.Lib.IndexBytes
import Derived.Lib.ItoaNum
import Derived.Lib.SplitLaws
import Derived.LoopIn
import Derived.LoopNIn
import Derived.Maps.AppendAt
import Derived.Maps.Keyed
import Derived.Maps.OwnIn
import Derived.OrdersHeld
import Derived.OwnWalkIn
import Derived.RangeFuncBound
import Derived.RangeFuncCalls
import Derived.RangeFuncLeaves
import Derived.RangeFuncNested
import Derived.Recover
import Derived.RegionIn
import Derived.Shelf.Abstract
import Derived.Shelf.Strconv.Itoa3
import Derived.Shelf.Strings.Split
import Derived.TacticsIn
import Derived.TacticsInMore
import Derived.Test.YtjpekonfjihcoaaGreatDoorProg
import Derived.WalkKit
import Derived.WalkLawsBesides
import Derived.WalkSpells
import Derived.Test.YtjpekonfjihcoaaGreatDoorM2
import Derived.Test.YtjpekonfjihcoaaGreatDoorR10
import Derived.Test.YtjpekonfjihcoaaGreatDoorM3
import Derived.Test.YtjpekonfjihcoaaGreatDoorM36
import Derived.Test.YtjpekonfjihcoaaGreatDoorM1
namespace Go.TintM
end Go.TintM
set_option maxRecDepth 100000
set_option maxHeartbeats 64000000
set_option linter.unusedVariables false
set_option linter.unusedSimpArgs false
namespace Go.Proofs.YtjpekonfjihcoaaGreatDoor
open Go.RowKit Go.My Go.TintM

section
variable {s : Sh} (g : Fine s) (ot : Option Addr) (cap : Nat) (w : World) (h : TinsAt w ot (ofSh s).tins)
include g h
theorem near_s : Calls Tryz.prog 47 #[sheetV (ofSh s) ot cap] w fun e w' => (∃ ol cl, e = .returned (.tuple #[.slice ol (nearOf s).length cl, .int .i64 (offOf s (nearOf s)), .int .i64 0]) ∧ IntsAt w' ol (upL (nearOf s))) ∧ Ext w w' :=
 (sNear_any s g ot cap w h).mono fun e w' ⟨v, h1, h2, hE⟩ => by
  obtain ⟨ol, cl, rfl, _, _, _, h4⟩ := h2
  exact ⟨⟨ol, cl, by rw [h1, upL_length], h4⟩, hE⟩
theorem near_r : Calls Tryz.prog 48 #[sheetV (ofSh s) ot cap] w fun e w' => (∃ ol cl, e = .returned (.tuple #[.slice ol (nearOf s).length cl, .int .i64 (offOf s (nearOf s))]) ∧ IntsAt w' ol (upL (nearOf s))) ∧ Ext w w' :=
 (rNear_any s g ot cap w h).mono fun e w' ⟨v, h1, h2, hE⟩ => by
  obtain ⟨ol, cl, rfl, _, _, _, h4⟩ := h2
  exact ⟨⟨ol, cl, by rw [h1, upL_length], h4⟩, hE⟩
end

end Go.Proofs.YtjpekonfjihcoaaGreatDoor
