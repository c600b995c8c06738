/- Contract: the reference's Word. No condition beyond sheets and mixtures as defined. -/
import Derived.ArgAppend
import Derived.Below
import Derived.BigQuiet
import Derived.Deep.DeepCutAuto
import Derived.Deep.DeepFit
import Derived.Deep.LoopGhost
import Derived.Deep.QuietTactic
import Derived.Deep.RegionHeld
import Derived.Deep.RegionHeld3
import Derived.Deep.RegionWith
import Derived.Defers
import Derived.Laws.EntriesVeiled
import Derived.Laws.OwnMore
import Derived.Lib.Hide
import Derived.Lib.IndexBytes
import Derived.Lib.ItoaNum
import Derived.Lib.SplitLaws
import Derived.LoopIn
import Derived.LoopNIn
import Derived.Maps.AppendAt
import Derived.Maps.Keyed
import Derived.Maps.OwnIn
import Derived.OrdersHeld
import Derived.OwnWalkIn
import Derived.RangeFuncBound
import Derived.RangeFuncCalls
import Derived.RangeFuncLeaves
import Derived.RangeFuncNested
import Derived.Recover
import Derived.RegionIn
import Derived.Shelf.Abstract
import Derived.TacticsIn
import Derived.TacticsInMore
import Derived.Test.YtjpekonfjihcoaaGreatDoorProg
import Derived.WalkKit
import Derived.WalkLawsBesides
import Derived.WalkSpells
import Derived.Test.YtjpekonfjihcoaaGreatDoorM2
import Derived.Test.YtjpekonfjihcoaaGreatDoorM3
import Derived.Test.YtjpekonfjihcoaaGreatDoorR4
import Derived.Test.YtjpekonfjihcoaaGreatDoorM1
import Derived.Test.YtjpekonfjihcoaaGreatDoorM17
import Derived.Test.YtjpekonfjihcoaaGreatDoorR3
namespace Go.TintM
end Go.TintM
set_option linter.unusedVariables false
set_option linter.unusedSimpArgs false
namespace Go.Proofs.YtjpekonfjihcoaaGreatDoor
open Go.RowKit Go.My Go.TintM

theorem word_three {s : Sh} {m : List Nat} (h : offOf s m ≤ (s.off : Int)) : wordOf s m = 3 := by unfold wordOf; rw [if_pos h]
theorem word_two {s : Sh} {m : List Nat} (h : ¬ offOf s m ≤ (s.off : Int)) (h2 : anyY (yearsOf s m) = true) : wordOf s m = 2 := by unfold wordOf; rw [if_neg h, if_pos (any_iff.1 h2)]
theorem word_one {s : Sh} {m : List Nat} (h : ¬ offOf s m ≤ (s.off : Int)) (h2 : anyY (yearsOf s m) = false) : wordOf s m = 1 := by
  unfold wordOf
  rw [if_neg h, if_neg]
  intro k
  rw [any_iff.2 k] at h2
  cases h2

set_option maxRecDepth 100000 in
set_option maxHeartbeats 4000000 in
theorem rWord_any (s : Sh) (g : Fine s) (m : List Nat) (hm : IsMix s m) (ot : Option Addr) (cap : Nat) (om : Option Addr) (cm : Nat) (w : World) (h : TinsAt w ot (ofSh s).tins) (hi : IntsAt w om (upL m)) :
    Calls Tryz.prog 31 #[sheetV (ofSh s) ot cap, .slice om m.length cm] w fun e w' => e = .returned (.int .i64 (wordOf s m)) ∧ Ext w w' := by
  have R85 := Lib.hid (fun W (hW : Ext w W) => rNeeded_any s g m hm ot cap om cm W (h.ext hW) (hi.ext hW))
  have R30 := Lib.hid (fun W (hW : Ext w W) => rYears_any s g m hm ot cap om cm W (h.ext hW) (hi.ext hW))
  have W3 := Lib.hid (fun hh => word_three (s := s) (m := m) hh)
  have W2 := Lib.hid (fun hh h2 => word_two (s := s) (m := m) hh h2)
  have W1 := Lib.hid (fun hh h2 => word_one (s := s) (m := m) hh h2)
  clear h hi hm g
  generalize wordOf s m = V at *
  generalize offOf s m = F at *
  generalize anyY (yearsOf s m) = b at *
  generalize fstY (yearsOf s m) = y0 at *
  generalize lstY (yearsOf s m) = y1 at *
  go_enter Tryz.func31, Tryz.ntmps31
  go_wp2_with fail
  obtain ⟨wr, hwr⟩ : ∃ wr, wr = w.alloc (.cells (sheetC (ofSh s) ot cap) 28) := ⟨_, rfl⟩
  have HWr := Lib.hid (show Ext w wr by rw [hwr]; exact (Ext.refl w).alloc _)
  have HP := Lib.hid (show SheetBox wr w.heap.size (ofSh s) ot cap by rw [hwr]; exact SheetBox.new _ _ _ _)
  rw [← hwr]
  clear hwr
  have c0 := HP.out 0 _ rfl; have c1 := HP.out 1 _ rfl; have c2 := HP.out 2 _ rfl; have c3 := HP.out 3 _ rfl; have c4 := HP.out 4 _ rfl; have c5 := HP.out 5 _ rfl; have c6 := HP.out 6 _ rfl; have c7 := HP.out 7 _ rfl; have c8 := HP.out 8 _ rfl; have c9 := HP.out 9 _ rfl; have c10 := HP.out 10 _ rfl; have c11 := HP.out 11 _ rfl; have c12 := HP.out 12 _ rfl
  refine wp_region_plan (.take 0 <| .take 1 <| .take 3 <| .take 4 <| .only 2 <| .take 5 <| .done) (fun W => Ext wr W) mixed (by kernel_rfl) (by kernel_rfl) rfl (fun _ _ d _ _ h => by cases d <;> exact h) ((Ext.refl wr).drew) ?_
  repeat ((first | (refine plan_take (v := ?_) rfl rfl (fun W hW => ?_) ?_; rotate_left; (focus (have d0 := cell_ext hW c0; have d1 := cell_ext hW c1; have d2 := cell_ext hW c2; have d3 := cell_ext hW c3; have d4 := cell_ext hW c4; have d5 := cell_ext hW c5; have d6 := cell_ext hW c6; have d7 := cell_ext hW c7; have d8 := cell_ext hW c8; have d9 := cell_ext hW c9; have d10 := cell_ext hW c10; have d11 := cell_ext hW c11; have d12 := cell_ext hW c12; go_simp; first | exact rfl | (split <;> first | exact rfl | (exfalso; omega)) | done))) | refine plan_skip rfl rfl ?_); simp only [Act.put, List.setIfInBounds_toArray, List.set_cons_zero, List.set_cons_succ])
  clear c0 c1 c2 c3 c4 c5 c6 c7 c8 c9 c10 c11 c12
  refine plan_walk rfl ?_; intro K hK
  go_wp2_with (first | (go_at_call 85; refine (R85.out _ (HWr.out.trans (Ext.refl wr).drew)).mono ?_; rintro e w5 ⟨rfl, hE5⟩))
  have X := Lib.hid ((Ext.refl wr).drew.trans hE5)
  refine hK _ _ X.out ?_
  repeat ((first | (refine plan_take (v := ?_) rfl rfl (fun W hW => ?_) ?_; rotate_left; (focus (skip; go_simp; first | exact rfl | (split <;> first | exact rfl | (exfalso; omega)) | done))) | refine plan_skip rfl rfl ?_); simp only [Act.put, List.setIfInBounds_toArray, List.set_cons_zero, List.set_cons_succ])
  refine plan_done ?_
  clear hE5
  have HE := Lib.hid (HWr.out.trans X.out)
  have HP5 := Lib.hid (HP.out.ext X.out)
  clear HP X HWr
  by_cases hF : F ≤ (s.off : Int)
  · have hF2 : F ≤ (ofSh s).off := hF
    obtain rfl := W3.out hF
    clear W1 W2 W3 hF
    go_wp2
    go_ret
    exact ⟨rfl, HE.out⟩
  · have HF := Lib.hid hF
    have hF2 : ¬ F ≤ (ofSh s).off := hF
    have c0 := HP5.out 0 _ rfl; have c1 := HP5.out 1 _ rfl; have c2 := HP5.out 2 _ rfl; have c3 := HP5.out 3 _ rfl; have c4 := HP5.out 4 _ rfl; have c5 := HP5.out 5 _ rfl; have c6 := HP5.out 6 _ rfl; have c7 := HP5.out 7 _ rfl; have c8 := HP5.out 8 _ rfl; have c9 := HP5.out 9 _ rfl; have c10 := HP5.out 10 _ rfl; have c11 := HP5.out 11 _ rfl; have c12 := HP5.out 12 _ rfl
    cases b with
    | true =>
      obtain rfl := W2.out (by have := HF.out; omega) rfl
      clear W1 W2 W3 hF
      go_wp2_with (first | (go_at_call 30; refine (R30.out _ HE.out).mono ?_; rintro e w6 ⟨rfl, hE6⟩))
      go_ret
      exact ⟨rfl, (HE.out.trans hE6).alloc _⟩
    | false =>
      obtain rfl := W1.out (by have := HF.out; omega) rfl
      clear W1 W2 W3 hF
      go_wp2_with (first | (go_at_call 30; refine (R30.out _ HE.out).mono ?_; rintro e w6 ⟨rfl, hE6⟩))
      go_ret
      exact ⟨rfl, (HE.out.trans hE6).alloc _⟩

end Go.Proofs.YtjpekonfjihcoaaGreatDoor
