/- Contract: the reference's Count. No condition beyond sheets as defined. -/
import Derived.ArgAppend
import Derived.Below
import Derived.BigQuiet
import Derived.Deep.DeepCutAuto
import Derived.Deep.DeepFit
import Derived.Deep.LoopGhost
import Derived.Deep.QuietTactic
import Derived.Deep.RegionHeld
import Derived.Deep.RegionHeld3
import Derived.Deep.RegionWith
import Derived.Deep.Upon
import Derived.Defers
import Derived.Laws.EntriesVeiled
import Derived.Laws.OwnMore
import Derived.Lib.Hide
import Derived.Lib.IndexBytes
import Derived.Lib.ItoaNum
import Derived.Lib.SplitLaws
import Derived.LoopIn
import Derived.LoopNIn
import Derived.Maps.AppendAt
import Derived.Maps.Keyed
import Derived.Maps.OwnIn
import Derived.OrdersHeld
import Derived.OwnWalkIn
import Derived.RangeFuncBound
import Derived.RangeFuncCalls
import Derived.RangeFuncLeaves
import Derived.RangeFuncNested
import Derived.Recover
import Derived.RegionIn
import Derived.Shelf.Abstract
import Derived.TacticsIn
import Derived.TacticsInMore
import Derived.Test.YtjpekonfjihcoaaGreatDoorProg
import Derived.WalkKit
import Derived.WalkLawsBesides
import Derived.WalkSpells
import Derived.Test.YtjpekonfjihcoaaGreatDoorM2
import Derived.Test.YtjpekonfjihcoaaGreatDoorM37
import Derived.Test.YtjpekonfjihcoaaGreatDoorM3
import Derived.Test.YtjpekonfjihcoaaGreatDoorM4
import Derived.Test.YtjpekonfjihcoaaGreatDoorM38
import Derived.Test.YtjpekonfjihcoaaGreatDoorR8
import Derived.Test.YtjpekonfjihcoaaGreatDoorM1
import Derived.Test.YtjpekonfjihcoaaGreatDoorM17
namespace Go.TintM
end Go.TintM
set_option maxRecDepth 100000
set_option maxHeartbeats 64000000
set_option linter.unusedVariables false
set_option linter.unusedSimpArgs false
namespace Go.Proofs.YtjpekonfjihcoaaGreatDoor
open Go.RowKit Go.My Go.TintM

def cntLs (s : Sh) (L : List (List Nat)) (k : Nat) : Nat := ((L.take k).filter (surely s)).length
theorem cntLs_succ (s : Sh) (L : List (List Nat)) {k : Nat} (hk : k < L.length) : cntLs s L (k + 1) = cntLs s L k + if surely s L[k] = true then 1 else 0 := by
 unfold cntLs
 rw [List.take_succ_eq_append_getElem hk, List.filter_append, List.length_append]
 congr 1
 rw [List.filter_cons]
 split <;> rfl
theorem cntLs_le (s : Sh) (L : List (List Nat)) (k : Nat) : cntLs s L k ≤ k := Nat.le_trans (List.length_filter_le _ _) (by rw [List.length_take]; omega)

theorem rCount_any (s : Sh) (g : Fine s) (ot : Option Addr) (cap : Nat) (w : World) (h : TinsAt w ot (ofSh s).tins) :
  Calls Tryz.prog 44 #[sheetV (ofSh s) ot cap] w fun e w' => e = .returned (.int .i64 (countOf s : Nat)) ∧ Ext w w' := by
 have RA := Lib.hid (fun W => rAll_any (ofSh s) ot cap (by rw [tins_len]; exact g.len1) (by rw [tins_len]; exact g.len2) W)
 rw [tins_len] at RA
 have RC := Lib.hid (fun m (hm : m ∈ allMix s.tins.length) om cm W (hE : Ext w W) (hi : IntsAt W om (upL m)) => rNeeded_any s g m ((mem_allMix g).1 hm) ot cap om cm W (h.ext hE) hi)
 have hL := (allMix_len ⟨s.tins.length, by have := g.len2; omega⟩ g.len1).1
 simp only at hL
 have Hend := Lib.hid (show cntLs s (allMix s.tins.length) (allMix s.tins.length).length = countOf s by unfold cntLs; rw [List.take_length]; rfl)
 clear h g
 generalize countOf s = CC at *
 generalize allMix s.tins.length = L at *
 have H0 : cntLs s L 0 = 0 := rfl
 go_enter Tryz.func44, Tryz.ntmps44
 go_wp2_with (first | (go_at_call 92; refine (RA.out _).mono ?_; rintro e w1 ⟨⟨v1, rfl, ho1⟩, hE1⟩; obtain ⟨oa, ca, hv1, n1, n2, n3, hr1⟩ := ho1.slice; subst hv1; have HR := Lib.hid hr1; have HE1 := Lib.hid (((Ext.refl w).alloc _).trans hE1); have HP := Lib.hid ((SheetBox.new w (ofSh s) ot cap).ext hE1); clear ho1 hr1 hE1))
 go_loopg [4, 5] L.length (fun g c i wr => ∃ k : Nat, k + g = L.length ∧ i = .int .i64 k ∧ Ext w1 wr ∧ c = .int .i64 (cntLs s L k : Nat))
 case atStart => exact ⟨0, by omega, rfl, Ext.refl _, by rw [H0]; rfl⟩
 case round =>
  clear H0
  obtain ⟨k, hk, rfl, hE, rfl⟩ := hrel
  have HE := Lib.hid hE
  have HPr := Lib.hid (HP.out.ext hE)
  have hcl := cntLs_le s L k
  by_cases hlt : k < L.length
  ·obtain ⟨bA, oA, om, cm, hbA, hcA, hi⟩ := rows_at (HR.out.ext hE) hlt
   subst hbA
   have Hs := Lib.hid (cntLs_succ s L hlt)
   have hmem : L[k] ∈ L := List.getElem_mem hlt
   have R := Lib.hid (fun W (hW : Ext wr W) => RC.out _ hmem om cm W (HE1.out.trans (HE.out.trans hW)) (hi.ints.ext hW))
   clear hmem hi hE
   generalize L[k] = m at *
   generalize cntLs s L k = D at *
   have hltI : (k : Int) < (L.length : Int) := by omega
   have c0 := HPr.out 0 _ rfl
   have c1 := HPr.out 1 _ rfl
   have c2 := HPr.out 2 _ rfl
   have c3 := HPr.out 3 _ rfl
   have c4 := HPr.out 4 _ rfl
   have c5 := HPr.out 5 _ rfl
   have c6 := HPr.out 6 _ rfl
   have c7 := HPr.out 7 _ rfl
   have c8 := HPr.out 8 _ rfl
   have c9 := HPr.out 9 _ rfl
   have c10 := HPr.out 10 _ rfl
   have c11 := HPr.out 11 _ rfl
   have c12 := HPr.out 12 _ rfl
   have hcA' := cell_ext (Ext.refl wr).drew hcA
   go_wp2_with fail
   refine wp_region_plan (.take 0 <| .take 1 <| .take 2 <| .take 3 <| .take 4 <| .take 6 <| .take 7 <| .only 5 <| .take 8 <| .done) (fun W => Ext wr W) mixed (by kernel_rfl) (by kernel_rfl) rfl (fun _ _ d _ _ h => by cases d <;> exact h) ((Ext.refl wr).drew) ?_
   repeat ((first | (refine plan_take (v := ?_) rfl rfl (fun W hW => ?_) ?_; rotate_left; (focus (have d0 := cell_ext hW c0; have d1 := cell_ext hW c1; have d2 := cell_ext hW c2; have d3 := cell_ext hW c3; have d4 := cell_ext hW c4; have d5 := cell_ext hW c5; have d6 := cell_ext hW c6; have d7 := cell_ext hW c7; have d8 := cell_ext hW c8; have d9 := cell_ext hW c9; have d10 := cell_ext hW c10; have d11 := cell_ext hW c11; have d12 := cell_ext hW c12; have d13 := cell_ext hW hcA; go_simp; first | exact rfl | (split <;> first | exact rfl | (exfalso; omega)) | done))) | refine plan_skip rfl rfl ?_); simp only [puts])
   refine plan_walk rfl ?_; intro K hK
   go_wp2_with (first | (go_at_call 85; refine (R.out _ (Ext.refl wr).drew).mono ?_; rintro e w5 ⟨rfl, hE5⟩))
   have X := Lib.hid ((Ext.refl wr).drew.trans hE5)
   refine hK _ _ X.out ?_
   repeat ((first | (refine plan_take (v := ?_) rfl rfl (fun W hW => ?_) ?_; rotate_left; (focus (skip; go_simp; first | exact rfl | (split <;> first | exact rfl | (exfalso; omega)) | done))) | refine plan_skip rfl rfl ?_); simp only [puts])
   refine plan_done ?_
   clear hE5 c0 c1 c2 c3 c4 c5 c6 c7 c8 c9 c10 c11 c12 hcA hcA'
   cases hP : surely s m with
   | true =>
    have hF1 : offOf s m ≤ (s.off : Int) := by simpa [surely] using hP
    have hF2 : offOf s m ≤ (ofSh s).off := hF1
    have Hs2 := Lib.hid (show cntLs s L (k + 1) = D + 1 by rw [Hs.out, if_pos hP])
    clear hF1 hP
    go_wp2
    go_roundg (gk - 1)
    case measure => omega
    case rel => exact ⟨k + 1, by omega, by go_num, HE.out.trans X.out, by rw [Hs2.out]; go_num⟩
   | false =>
    have hF1 : ¬ offOf s m ≤ (s.off : Int) := by simpa [surely] using hP
    have hF2 : ¬ offOf s m ≤ (ofSh s).off := hF1
    have Hs2 := Lib.hid (show cntLs s L (k + 1) = D by rw [Hs.out, if_neg (by rw [hP]; simp)]; rfl)
    clear hF1 hP
    go_wp2
    go_roundg (gk - 1)
    case measure => omega
    case rel => exact ⟨k + 1, by omega, by go_num, HE.out.trans X.out, by rw [Hs2.out]⟩
  ·have hkk : k = L.length := by omega
   have hff := Lib.hid (show cntLs s L k = CC by rw [hkk]; exact Hend.out)
   clear hkk
   rw [hff.out]
   go_wp2
   go_ret
   exact ⟨rfl, HE1.out.trans HE.out⟩

end Go.Proofs.YtjpekonfjihcoaaGreatDoor
