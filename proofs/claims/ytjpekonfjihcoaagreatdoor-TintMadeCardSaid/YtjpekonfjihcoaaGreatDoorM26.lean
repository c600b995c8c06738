/- Contracts and mathematics, joined: First2. Conditions stand with each. -/
import Derived.ArgAppend
import Derived.Below
import Derived.BigQuiet
import Derived.Deep.DeepCutAuto
import Derived.Deep.DeepFit
import Derived.Deep.LoopGhost
import Derived.Deep.QuietTactic
import Derived.Deep.RegionHeld
import Derived.Deep.RegionHeld3
import Derived.Deep.RegionWith
import Derived.Laws.EntriesVeiled
import Derived.Laws.OwnMore
import Derived.Lib.Hide
import Derived.LoopIn
import Derived.LoopNIn
import Derived.Maps.Keyed
import Derived.OrdersHeld
import Derived.OwnWalkIn
import Derived.RangeFuncBound
import Derived.RangeFuncCalls
import Derived.RangeFuncLeaves
import Derived.RangeFuncNested
import Derived.RegionIn
import Derived.Shelf.Abstract
import Derived.TacticsInMore
import Derived.Test.YtjpekonfjihcoaaGreatDoorProg
import Derived.WalkKit
import Derived.WalkLawsBesides
import Derived.WalkSpells
import Derived.Test.YtjpekonfjihcoaaGreatDoorM2
import Derived.Test.YtjpekonfjihcoaaGreatDoorM4
import Derived.Test.YtjpekonfjihcoaaGreatDoorM3
import Derived.Test.YtjpekonfjihcoaaGreatDoorM25
import Derived.Test.YtjpekonfjihcoaaGreatDoorM1
namespace Go.TintM
end Go.TintM
set_option maxRecDepth 100000
set_option maxHeartbeats 64000000
set_option linter.unusedVariables false
set_option linter.unusedSimpArgs false
/- Contracts: First, May. No condition beyond sheets as defined. -/
namespace Go.Proofs.YtjpekonfjihcoaaGreatDoor
open Go.RowKit Go.My Go.TintM Go.Shelf
attribute [local go_sem] Oper.semAt_some

theorem first_bad (S : SI) (ot : Option Addr) (cap K : Nat) (w : World) (h : TinsAt w ot S.tins) (hl : S.tins.length ≤ 9223372036854775807) (hb : sheetB S = false) :
  Calls Tryz.prog 88 #[sheetV S ot cap, .func (.func K) #[] #[]] w fun e w' => e = .returned (.tuple #[.slice none 0 0, .int .i64 2]) ∧ Ext w w' := by
 have R72 := Lib.hid (fun W (hW : Ext w W) => isSheet_any S ot cap W (h.ext hW) hl)
 rw [hb] at R72
 clear h hl hb
 refine (callsIn_wide (n := 3)).1 (callsIn_of_wp_marks Tryz.func88 rfl trivial (wpIn_wide.2 ?_))
 simp only [Tryz.ntmps88, List.size_toArray, List.length_cons, List.length_nil, Nat.reduceAdd, Nat.reduceSub, Array.replicate_succ, Array.replicate_zero, List.push_toArray, List.append_toArray, List.nil_append, List.cons_append]
 go_wp2
 go_step3
 go_wp2_with (first | (go_at_call 72; refine (R72.out _ (((Ext.refl w).alloc _).alloc _)).mono ?_; rintro e w1 ⟨rfl, hE1⟩; have HX := Lib.hid ((((Ext.refl w).alloc _).alloc _).trans hE1); clear hE1))
 try rw [Exit.noGoto_ret]
 exact ⟨_, results_tmp2 rfl _ _ _, rfl, HX.out⟩

theorem sFirst_bad (S : SI) (ot : Option Addr) (cap : Nat) (w : World) (h : TinsAt w ot S.tins) (hl : S.tins.length ≤ 9223372036854775807) (hb : sheetB S = false) :
  Calls Tryz.prog 38 #[sheetV S ot cap] w fun e w' => e = .returned (.tuple #[.slice none 0 0, .int .i64 2]) ∧ Ext w w' := by
 have R := Lib.hid (fun W (hW : Ext w W) => first_bad S ot cap 89 W (h.ext hW) hl hb)
 clear h hl hb
 go_enter Tryz.func38, Tryz.ntmps38
 go_wp2_with (first | (go_at_call 88; refine (R.out _ ((Ext.refl w).alloc _)).mono ?_; rintro e w1 ⟨rfl, hE1⟩; have HE1 := Lib.hid (((Ext.refl w).alloc _).trans hE1); clear hE1))
 go_ret2
 exact ⟨rfl, HE1.out⟩
theorem sFirst_any (s : Sh) (g : Fine s) (ot : Option Addr) (cap : Nat) (w : World) (h : TinsAt w ot (ofSh s).tins) :
  Calls Tryz.prog 38 #[sheetV (ofSh s) ot cap] w fun e w' => FoundIn s (surely s) w e w' := by
 have R := Lib.hid (fun W (hW : Ext w W) => first_surely s g ot cap W (h.ext hW))
 unfold FoundIn at R ⊢
 clear h g
 cases hf : (allMix s.tins.length).find? (surely s) with
 | none =>
  rw [hf] at R
  go_enter Tryz.func38, Tryz.ntmps38
  go_wp2_with (first | (go_at_call 88; refine (R.out _ ((Ext.refl w).alloc _)).mono ?_; rintro e w1 ⟨hE1, rfl⟩; have HE1 := Lib.hid (((Ext.refl w).alloc _).trans hE1); clear hE1))
  go_ret2
  exact ⟨HE1.out, rfl⟩
 | some m =>
  rw [hf] at R
  go_enter Tryz.func38, Tryz.ntmps38
  go_wp2_with (first | (go_at_call 88; refine (R.out _ ((Ext.refl w).alloc _)).mono ?_; rintro e w1 ⟨hE1, v, rfl, hi⟩; have HE1 := Lib.hid (((Ext.refl w).alloc _).trans hE1); have Hi := Lib.hid hi; clear hE1 hi))
  go_ret2
  exact ⟨HE1.out, _, rfl, Hi.out⟩

theorem sMay_bad (S : SI) (ot : Option Addr) (cap : Nat) (w : World) (h : TinsAt w ot S.tins) (hl : S.tins.length ≤ 9223372036854775807) (hb : sheetB S = false) :
  Calls Tryz.prog 39 #[sheetV S ot cap] w fun e w' => e = .returned (.tuple #[.slice none 0 0, .int .i64 2]) ∧ Ext w w' := by
 have R := Lib.hid (fun W (hW : Ext w W) => first_bad S ot cap 90 W (h.ext hW) hl hb)
 clear h hl hb
 go_enter Tryz.func39, Tryz.ntmps39
 go_wp2_with (first | (go_at_call 88; refine (R.out _ ((Ext.refl w).alloc _)).mono ?_; rintro e w1 ⟨rfl, hE1⟩; have HE1 := Lib.hid (((Ext.refl w).alloc _).trans hE1); clear hE1))
 go_ret2
 exact ⟨rfl, HE1.out⟩
theorem sMay_any (s : Sh) (g : Fine s) (ot : Option Addr) (cap : Nat) (w : World) (h : TinsAt w ot (ofSh s).tins) :
  Calls Tryz.prog 39 #[sheetV (ofSh s) ot cap] w fun e w' => FoundIn s (mayOf s) w e w' := by
 have R := Lib.hid (fun W (hW : Ext w W) => first_may s g ot cap W (h.ext hW))
 unfold FoundIn at R ⊢
 clear h g
 cases hf : (allMix s.tins.length).find? (mayOf s) with
 | none =>
  rw [hf] at R
  go_enter Tryz.func39, Tryz.ntmps39
  go_wp2_with (first | (go_at_call 88; refine (R.out _ ((Ext.refl w).alloc _)).mono ?_; rintro e w1 ⟨hE1, rfl⟩; have HE1 := Lib.hid (((Ext.refl w).alloc _).trans hE1); clear hE1))
  go_ret2
  exact ⟨HE1.out, rfl⟩
 | some m =>
  rw [hf] at R
  go_enter Tryz.func39, Tryz.ntmps39
  go_wp2_with (first | (go_at_call 88; refine (R.out _ ((Ext.refl w).alloc _)).mono ?_; rintro e w1 ⟨hE1, v, rfl, hi⟩; have HE1 := Lib.hid (((Ext.refl w).alloc _).trans hE1); have Hi := Lib.hid hi; clear hE1 hi))
  go_ret2
  exact ⟨HE1.out, _, rfl, Hi.out⟩

end Go.Proofs.YtjpekonfjihcoaaGreatDoor
