/- Contract of the reference: Needs. No condition beyond sheets as defined. -/
import Derived.ArgAppend
import Derived.Below
import Derived.BigQuiet
import Derived.Deep.DeepCutAuto
import Derived.Deep.DeepFit
import Derived.Deep.LoopGhost
import Derived.Deep.QuietTactic
import Derived.Deep.RegionHeld
import Derived.Deep.RegionHeld3
import Derived.Deep.RegionWith
import Derived.Deep.Upon
import Derived.Defers
import Derived.Laws.BytesArg
import Derived.Laws.EntriesVeiled
import Derived.Laws.OwnMore
import Derived.Lib.Hide
import Derived.Lib.IndexBytes
import Derived.Lib.ItoaNum
import Derived.Lib.SplitLaws
import Derived.LoopIn
import Derived.LoopNIn
import Derived.Maps.AppendAt
import Derived.Maps.Keyed
import Derived.Maps.OwnIn
import Derived.OrdersHeld
import Derived.OwnWalkIn
import Derived.RangeFuncBound
import Derived.RangeFuncCalls
import Derived.RangeFuncLeaves
import Derived.RangeFuncNested
import Derived.Recover
import Derived.RegionIn
import Derived.Shelf.Abstract
import Derived.Shelf.Strconv.Itoa3
import Derived.Shelf.Strings.Split
import Derived.TacticsIn
import Derived.TacticsInMore
import Derived.Test.YtjpekonfjihcoaaGreatDoorProg
import Derived.WalkKit
import Derived.WalkLawsBesides
import Derived.WalkSpells
import Derived.Test.YtjpekonfjihcoaaGreatDoorM3
import Derived.Test.YtjpekonfjihcoaaGreatDoorM2
import Derived.Test.YtjpekonfjihcoaaGreatDoorM37
import Derived.Test.YtjpekonfjihcoaaGreatDoorM4
import Derived.Test.YtjpekonfjihcoaaGreatDoorM8
import Derived.Test.YtjpekonfjihcoaaGreatDoorM27
import Derived.Test.YtjpekonfjihcoaaGreatDoorM38
import Derived.Test.YtjpekonfjihcoaaGreatDoorR8
import Derived.Test.YtjpekonfjihcoaaGreatDoorM1
import Derived.Test.YtjpekonfjihcoaaGreatDoorM17
namespace Go.TintM
end Go.TintM
set_option maxRecDepth 100000
set_option maxHeartbeats 64000000
set_option linter.unusedVariables false
set_option linter.unusedSimpArgs false
namespace Go.Proofs.YtjpekonfjihcoaaGreatDoor
open Go.RowKit Go.My Go.TintM

/-- The fewest tins so far, as a slice. -/
def NeedV (W : World) (v : Value) (o : Option (List Nat)) : Prop :=
 match o with
 | none => v = .slice none 0 0
 | some b => ∃ a cap, v = .slice (some a) b.length cap ∧ Row W (some a) cap b
theorem NeedV.ext {W W' : World} {v : Value} {o : Option (List Nat)} (h : NeedV W v o) (hE : Ext W W') : NeedV W' v o := by
 cases o with
 | none => exact h
 | some b => obtain ⟨a, cap, h1, h2⟩ := h; exact ⟨a, cap, h1, h2.ext hE⟩
theorem NeedV.none_iff {W : World} {v : Value} (h : NeedV W v none) : v = .slice none 0 0 := h
theorem NeedV.some_iff {W : World} {v : Value} {b : List Nat} (h : NeedV W v (some b)) : ∃ a cap, v = .slice (some a) b.length cap ∧ Row W (some a) cap b := h
theorem NeedV.mk {W : World} {a : Addr} {b : List Nat} {cap : Nat} (h : Row W (some a) cap b) : NeedV W (.slice (some a) b.length cap) (some b) := ⟨a, cap, rfl, h⟩
theorem own_row {W : World} {B : Nat} {v : Value} {m : List Nat} (h : My.Own W B 3 v ((upL m).map (Value.int .i64))) (hm : 1 ≤ m.length) : ∃ a cap, v = .slice (some a) m.length cap ∧ Row W (some a) cap m := by
 obtain ⟨oa, cap, hv, h1, h2, h3, h4⟩ := h.ints
 rw [upL_length] at hv h1
 cases oa with
 | none => have := h3 rfl; omega
 | some a => exact ⟨a, cap, hv, h1, h2, h3, h4⟩
def nTo (s : Sh) (L : List (List Nat)) (k : Nat) : Option (List Nat) := (L.take k).foldl (needStep s) none
theorem nTo_succ (s : Sh) (L : List (List Nat)) {k : Nat} (hk : k < L.length) : nTo s L (k + 1) = needStep s (nTo s L k) L[k] := by
 rw [nTo, List.take_succ_eq_append_getElem hk, List.foldl_append]; rfl
theorem nTo_end (s : Sh) : nTo s (allMix s.tins.length) (allMix s.tins.length).length = needsOf s := by
 rw [nTo, List.take_length, fold_need]; rfl
theorem step_no {s : Sh} {o : Option (List Nat)} {m : List Nat} (h : surely s m = false) : needStep s o m = o := by simp [needStep, h]
theorem step_first {s : Sh} {m : List Nat} (h : surely s m = true) : needStep s none m = some (used m) := by simp [needStep, h, needIn]
theorem step_less {s : Sh} {m b : List Nat} (h : surely s m = true) (h2 : lessT (used m) b = true) : needStep s (some b) m = some (used m) := by simp [needStep, h, needIn, h2]
theorem step_more {s : Sh} {m b : List Nat} (h2 : lessT (used m) b = false) : needStep s (some b) m = some b := by simp [needStep, needIn, h2]


theorem rNeeds_any (s : Sh) (g : Fine s) (ot : Option Addr) (cap : Nat) (w : World) (h : TinsAt w ot (ofSh s).tins) :
  Calls Tryz.prog 51 #[sheetV (ofSh s) ot cap] w fun e w' => Ext w w' ∧ FoundP (needsOf s) e w' := by
 have RA := Lib.hid (fun W => rAll_any (ofSh s) ot cap (by rw [tins_len]; exact g.len1) (by rw [tins_len]; exact g.len2) W)
 rw [tins_len] at RA
 have Hmx := Lib.hid (fun m (hm : m ∈ allMix s.tins.length) => (show 1 ≤ (used m).length ∧ m.length ≤ 4 from ⟨used_pos ((mem_allMix g).1 hm), by have := ((mem_allMix g).1 hm).len; have := g.len2; omega⟩))
 have RC := Lib.hid (fun m (hm : m ∈ allMix s.tins.length) om cm W (hE : Ext w W) (hi : IntsAt W om (upL m)) => rNeeded_any s g m ((mem_allMix g).1 hm) ot cap om cm W (h.ext hE) hi)
 have hL := (allMix_len ⟨s.tins.length, by have := g.len2; omega⟩ g.len1).1
 simp only at hL
 have Hend := Lib.hid (nTo_end s)
 clear h g
 generalize needsOf s = NO at *
 generalize allMix s.tins.length = L at *
 go_enter Tryz.func51, Tryz.ntmps51
 go_wp2_with (first | (go_at_call 92; refine (RA.out _).mono ?_; rintro e w1 ⟨⟨v1, rfl, ho1⟩, hE1⟩; obtain ⟨oa, ca, hv1, n1, n2, n3, hr1⟩ := ho1.slice; subst hv1; have HR := Lib.hid hr1; have HE1 := Lib.hid (((Ext.refl w).alloc _).trans hE1); have HP := Lib.hid ((SheetBox.new w (ofSh s) ot cap).ext hE1); clear ho1 hr1 hE1))
 go_loopg [5, 6] L.length (fun g v i wr => ∃ k : Nat, k + g = L.length ∧ i = .int .i64 k ∧ Ext w1 wr ∧ NeedV wr v (nTo s L k))
 case atStart => exact ⟨0, by omega, rfl, Ext.refl _, rfl⟩
 case round =>
  obtain ⟨k, hk, rfl, hE, hv⟩ := hrel
  have HE := Lib.hid hE
  have HPr := Lib.hid (HP.out.ext hE)
  by_cases hlt : k < L.length
  ·obtain ⟨bA, oA, om, cm, hbA, hcA, hi⟩ := rows_at (HR.out.ext hE) hlt
   subst hbA
   have hmem : L[k] ∈ L := List.getElem_mem hlt
   have R := Lib.hid (fun W (hW : Ext wr W) => RC.out _ hmem om cm W (HE1.out.trans (HE.out.trans hW)) (hi.ints.ext hW))
   have U := Lib.hid (fun W (hW : Ext wr W) => rUsed_any L[k] om cm W (hi.ints.ext hW) (by have := (Hmx.out _ hmem).2; omega))
   have Hu := Lib.hid (Hmx.out _ hmem).1
   have Hl4 := Lib.hid (Hmx.out _ hmem).2
   have Hs := Lib.hid (nTo_succ s L hlt)
   have Hi := Lib.hid hi
   have hltI : (k : Int) < (L.length : Int) := by omega
   clear hmem hi hE
   generalize L[k] = m at *
   by_cases hP : surely s m = true
   ·have HPs := Lib.hid hP
    have hF1 : offOf s m ≤ (s.off : Int) := by simpa [surely] using hP
    have hF2 : offOf s m ≤ (ofSh s).off := hF1
    clear hF1 hP
    cases ho : nTo s L k with
    | none =>
     rw [ho] at hv Hs
     obtain rfl := hv.none_iff
     have hst := Lib.hid (show nTo s L (k + 1) = some (used m) by rw [Hs.out, step_first HPs.out])
     clear ho hv
     go_wp2_with (first | (go_at_call 100; refine (U.out _ (Ext.refl wr)).mono ?_; rintro e w5 ⟨v5, rfl, ho5, hE5⟩; obtain ⟨a5, c5', rfl, hr5⟩ := own_row ho5 Hu.out; have Hr5 := Lib.hid hr5; have X5 := Lib.hid hE5; have HP5 := Lib.hid (HPr.out.ext hE5); have HcA := Lib.hid (cell_ext hE5 hcA); clear ho5 hE5 hr5 hcA))
     have c0 := HP5.out 0 _ rfl; have c1 := HP5.out 1 _ rfl; have c2 := HP5.out 2 _ rfl; have c3 := HP5.out 3 _ rfl; have c4 := HP5.out 4 _ rfl; have c5 := HP5.out 5 _ rfl; have c6 := HP5.out 6 _ rfl; have c7 := HP5.out 7 _ rfl; have c8 := HP5.out 8 _ rfl; have c9 := HP5.out 9 _ rfl; have c10 := HP5.out 10 _ rfl; have c11 := HP5.out 11 _ rfl; have c12 := HP5.out 12 _ rfl; have hcA5 := HcA.out
     refine wp_region_plan (.take 0 <| .take 1 <| .take 2 <| .take 3 <| .take 4 <| .take 6 <| .take 7 <| .only 5 <| .take 8 <| .take 9 <| .take 10 <| .take 11 <| .take 12 <| .take 13 <| .take 14 <| .take 15 <| .take 16 <| .take 17 <| .take 18 <| .take 19 <| .take 20 <| .take 21 <| .take 22 <| .take 23 <| .take 24 <| .take 25 <| .take 26 <| .take 27 <| .take 28 <| .take 29 <| .take 30 <| .take 31 <| .done) (fun W => Ext w5 W) mixed (by kernel_rfl) (by kernel_rfl) rfl (fun _ _ d _ _ h => by cases d <;> exact h) ((Ext.refl w5).drew) ?_
     repeat ((first | (refine plan_take (v := ?_) rfl rfl (fun W hW => ?_) ?_; rotate_left; (focus (have d0 := cell_ext hW c0; have d1 := cell_ext hW c1; have d2 := cell_ext hW c2; have d3 := cell_ext hW c3; have d4 := cell_ext hW c4; have d5 := cell_ext hW c5; have d6 := cell_ext hW c6; have d7 := cell_ext hW c7; have d8 := cell_ext hW c8; have d9 := cell_ext hW c9; have d10 := cell_ext hW c10; have d11 := cell_ext hW c11; have d12 := cell_ext hW c12; have d13 := cell_ext hW hcA5; go_simp; first | exact rfl | (split <;> first | exact rfl | (exfalso; omega)) | done))) | refine plan_skip rfl rfl ?_); simp only [puts])
     refine plan_walk rfl ?_; intro K hK
     go_wp2_with (first | (go_at_call 85; refine (R.out _ (X5.out.trans (Ext.refl w5).drew)).mono ?_; rintro e w6 ⟨rfl, hE6⟩))
     have X := Lib.hid ((Ext.refl w5).drew.trans hE6)
     refine hK _ _ X.out ?_
     repeat ((first | (refine plan_take (v := ?_) rfl rfl (fun W hW => ?_) ?_; rotate_left; (focus (skip; go_simp; first | exact rfl | (split <;> first | exact rfl | (exfalso; omega)) | done))) | refine plan_skip rfl rfl ?_); simp only [puts])
     refine plan_done ?_
     clear hE6 c0 c1 c2 c3 c4 c5 c6 c7 c8 c9 c10 c11 c12 hcA5
     go_wp2
     go_roundg (gk - 1)
     case measure => omega
     case rel => exact ⟨k + 1, by omega, by go_num, HE.out.trans (X5.out.trans X.out), by rw [hst.out]; exact .mk (Hr5.out.ext X.out)⟩
    | some b =>
     rw [ho] at hv Hs
     obtain ⟨ab, cb, rfl, hrb⟩ := hv.some_iff
     have Hrb := Lib.hid hrb
     clear ho hv hrb
     by_cases hl1 : (used m).length < b.length
     ·have hst := Lib.hid (show nTo s L (k + 1) = some (used m) by rw [Hs.out, step_less HPs.out (lessT_iff.2 (.inl hl1))])
      have hl1I : ((used m).length : Int) < (b.length : Int) := by omega
      go_wp2_with (first | (go_at_call 100; refine (U.out _ (Ext.refl wr)).mono ?_; rintro e w5 ⟨v5, rfl, ho5, hE5⟩; obtain ⟨a5, c5', rfl, hr5⟩ := own_row ho5 Hu.out; have Hr5 := Lib.hid hr5; have X5 := Lib.hid hE5; have HP5 := Lib.hid (HPr.out.ext hE5); have HcA := Lib.hid (cell_ext hE5 hcA); clear ho5 hE5 hr5 hcA))
      have c0 := HP5.out 0 _ rfl; have c1 := HP5.out 1 _ rfl; have c2 := HP5.out 2 _ rfl; have c3 := HP5.out 3 _ rfl; have c4 := HP5.out 4 _ rfl; have c5 := HP5.out 5 _ rfl; have c6 := HP5.out 6 _ rfl; have c7 := HP5.out 7 _ rfl; have c8 := HP5.out 8 _ rfl; have c9 := HP5.out 9 _ rfl; have c10 := HP5.out 10 _ rfl; have c11 := HP5.out 11 _ rfl; have c12 := HP5.out 12 _ rfl; have hcA5 := HcA.out
      refine wp_region_plan (.take 0 <| .take 1 <| .take 2 <| .take 3 <| .take 4 <| .take 6 <| .take 7 <| .only 5 <| .take 8 <| .take 9 <| .take 10 <| .take 11 <| .take 12 <| .take 13 <| .take 14 <| .take 15 <| .take 16 <| .take 17 <| .take 18 <| .take 19 <| .take 20 <| .take 21 <| .take 22 <| .take 23 <| .take 24 <| .take 25 <| .take 26 <| .take 27 <| .take 28 <| .take 29 <| .take 30 <| .take 31 <| .done) (fun W => Ext w5 W) mixed (by kernel_rfl) (by kernel_rfl) rfl (fun _ _ d _ _ h => by cases d <;> exact h) ((Ext.refl w5).drew) ?_
      repeat ((first | (refine plan_take (v := ?_) rfl rfl (fun W hW => ?_) ?_; rotate_left; (focus (have d0 := cell_ext hW c0; have d1 := cell_ext hW c1; have d2 := cell_ext hW c2; have d3 := cell_ext hW c3; have d4 := cell_ext hW c4; have d5 := cell_ext hW c5; have d6 := cell_ext hW c6; have d7 := cell_ext hW c7; have d8 := cell_ext hW c8; have d9 := cell_ext hW c9; have d10 := cell_ext hW c10; have d11 := cell_ext hW c11; have d12 := cell_ext hW c12; have d13 := cell_ext hW hcA5; go_simp; first | exact rfl | (split <;> first | exact rfl | (exfalso; omega)) | done))) | refine plan_skip rfl rfl ?_); simp only [puts])
      refine plan_walk rfl ?_; intro K hK
      go_wp2_with (first | (go_at_call 85; refine (R.out _ (X5.out.trans (Ext.refl w5).drew)).mono ?_; rintro e w6 ⟨rfl, hE6⟩))
      have X := Lib.hid ((Ext.refl w5).drew.trans hE6)
      refine hK _ _ X.out ?_
      repeat ((first | (refine plan_take (v := ?_) rfl rfl (fun W hW => ?_) ?_; rotate_left; (focus (skip; go_simp; first | exact rfl | (split <;> first | exact rfl | (exfalso; omega)) | done))) | refine plan_skip rfl rfl ?_); simp only [puts])
      refine plan_done ?_
      clear hE6 c0 c1 c2 c3 c4 c5 c6 c7 c8 c9 c10 c11 c12 hcA5
      go_wp2
      go_roundg (gk - 1)
      case measure => omega
      case rel => exact ⟨k + 1, by omega, by go_num, HE.out.trans (X5.out.trans X.out), by rw [hst.out]; exact .mk (Hr5.out.ext X.out)⟩
     ·have hl1I : ¬ ((used m).length : Int) < (b.length : Int) := by omega
      by_cases hl2 : (used m).length = b.length
      ·have hl2I : (((used m).length : Int) == (b.length : Int)) = true := by rw [beq_iff_eq]; omega
       have Hlt := Lib.hid (show lessT (used m) b = lexB (used m) b by simp [lessT, hl2])
       have hul : (used m).length ≤ 4 := Nat.le_trans used_le Hl4.out
       have Hul := Lib.hid hul
       have Hbl := Lib.hid (show b.length ≤ 4 by omega)
       have HQ := Lib.hid (show ∃ q, q = lexB (used m) b from ⟨_, rfl⟩)
       obtain ⟨q, hq⟩ := HQ.out
       rw [← hq] at Hlt
       have Hq := Lib.hid hq
       clear hq hul hl2 HQ
       cases q with
       | true =>
        have hst := Lib.hid (show nTo s L (k + 1) = some (used m) by rw [Hs.out, step_less HPs.out Hlt.out])
        go_wp2_with (first | (go_at_call 100; refine (U.out _ (Ext.refl wr)).mono ?_; rintro e w5 ⟨v5, rfl, ho5, hE5⟩; obtain ⟨a5, c5', rfl, hr5⟩ := own_row ho5 Hu.out; have Hr5 := Lib.hid hr5; have X5 := Lib.hid hE5; have HP5 := Lib.hid (HPr.out.ext hE5); have HcA := Lib.hid (cell_ext hE5 hcA); clear ho5 hE5 hr5 hcA))
        have c0 := HP5.out 0 _ rfl; have c1 := HP5.out 1 _ rfl; have c2 := HP5.out 2 _ rfl; have c3 := HP5.out 3 _ rfl; have c4 := HP5.out 4 _ rfl; have c5 := HP5.out 5 _ rfl; have c6 := HP5.out 6 _ rfl; have c7 := HP5.out 7 _ rfl; have c8 := HP5.out 8 _ rfl; have c9 := HP5.out 9 _ rfl; have c10 := HP5.out 10 _ rfl; have c11 := HP5.out 11 _ rfl; have c12 := HP5.out 12 _ rfl; have hcA5 := HcA.out
        refine wp_region_plan (.take 0 <| .take 1 <| .take 2 <| .take 3 <| .take 4 <| .take 6 <| .take 7 <| .only 5 <| .take 8 <| .take 9 <| .take 10 <| .take 11 <| .take 12 <| .take 13 <| .take 14 <| .take 15 <| .take 16 <| .take 17 <| .take 18 <| .take 19 <| .take 20 <| .take 21 <| .take 22 <| .take 23 <| .take 24 <| .take 25 <| .take 26 <| .take 27 <| .only 28 <| .take 29 <| .take 30 <| .take 31 <| .done) (fun W => Ext w5 W) mixed (by kernel_rfl) (by kernel_rfl) rfl (fun _ _ d _ _ h => by cases d <;> exact h) ((Ext.refl w5).drew) ?_
        repeat ((first | (refine plan_take (v := ?_) rfl rfl (fun W hW => ?_) ?_; rotate_left; (focus (have d0 := cell_ext hW c0; have d1 := cell_ext hW c1; have d2 := cell_ext hW c2; have d3 := cell_ext hW c3; have d4 := cell_ext hW c4; have d5 := cell_ext hW c5; have d6 := cell_ext hW c6; have d7 := cell_ext hW c7; have d8 := cell_ext hW c8; have d9 := cell_ext hW c9; have d10 := cell_ext hW c10; have d11 := cell_ext hW c11; have d12 := cell_ext hW c12; have d13 := cell_ext hW hcA5; go_simp; first | exact rfl | (split <;> first | exact rfl | (exfalso; omega)) | done))) | refine plan_skip rfl rfl ?_); simp only [puts])
        refine plan_walk rfl ?_; intro K hK
        go_wp2_with (first | (go_at_call 85; refine (R.out _ (X5.out.trans (Ext.refl w5).drew)).mono ?_; rintro e w6 ⟨rfl, hE6⟩))
        have X := Lib.hid ((Ext.refl w5).drew.trans hE6)
        refine hK _ _ X.out ?_
        repeat ((first | (refine plan_take (v := ?_) rfl rfl (fun W hW => ?_) ?_; rotate_left; (focus (skip; go_simp; first | exact rfl | (split <;> first | exact rfl | (exfalso; omega)) | done))) | refine plan_skip rfl rfl ?_); simp only [puts])
        refine plan_walk rfl ?_; intro K hK
        clear hE6 c0 c1 c2 c3 c4 c5 c6 c7 c8 c9 c10 c11 c12 hcA5
        go_wp2_with (first | (go_at_call 54; refine (tbefore_any (used m) b _ _ _ _ _ (Hr5.out.ints.ext X.out) (Hrb.out.ints.ext (X5.out.trans X.out)) (by have := Hul.out; omega) (by have := Hbl.out; omega)).mono ?_; rintro e w7 ⟨rfl, hE7⟩))
        have Y := Lib.hid (X.out.trans hE7)
        rw [← Hq.out]
        refine hK _ _ Y.out ?_
        repeat ((first | (refine plan_take (v := ?_) rfl rfl (fun W hW => ?_) ?_; rotate_left; (focus (skip; go_simp; first | exact rfl | (split <;> first | exact rfl | (exfalso; omega)) | done))) | refine plan_skip rfl rfl ?_); simp only [puts])
        refine plan_done ?_
        clear hE7
        go_wp2
        go_roundg (gk - 1)
        case measure => omega
        case rel => exact ⟨k + 1, by omega, by go_num, HE.out.trans (X5.out.trans Y.out), by rw [hst.out]; exact .mk (Hr5.out.ext Y.out)⟩
       | false =>
        have hst := Lib.hid (show nTo s L (k + 1) = some b by rw [Hs.out, step_more Hlt.out])
        go_wp2_with (first | (go_at_call 100; refine (U.out _ (Ext.refl wr)).mono ?_; rintro e w5 ⟨v5, rfl, ho5, hE5⟩; obtain ⟨a5, c5', rfl, hr5⟩ := own_row ho5 Hu.out; have Hr5 := Lib.hid hr5; have X5 := Lib.hid hE5; have HP5 := Lib.hid (HPr.out.ext hE5); have HcA := Lib.hid (cell_ext hE5 hcA); clear ho5 hE5 hr5 hcA))
        have c0 := HP5.out 0 _ rfl; have c1 := HP5.out 1 _ rfl; have c2 := HP5.out 2 _ rfl; have c3 := HP5.out 3 _ rfl; have c4 := HP5.out 4 _ rfl; have c5 := HP5.out 5 _ rfl; have c6 := HP5.out 6 _ rfl; have c7 := HP5.out 7 _ rfl; have c8 := HP5.out 8 _ rfl; have c9 := HP5.out 9 _ rfl; have c10 := HP5.out 10 _ rfl; have c11 := HP5.out 11 _ rfl; have c12 := HP5.out 12 _ rfl; have hcA5 := HcA.out
        refine wp_region_plan (.take 0 <| .take 1 <| .take 2 <| .take 3 <| .take 4 <| .take 6 <| .take 7 <| .only 5 <| .take 8 <| .take 9 <| .take 10 <| .take 11 <| .take 12 <| .take 13 <| .take 14 <| .take 15 <| .take 16 <| .take 17 <| .take 18 <| .take 19 <| .take 20 <| .take 21 <| .take 22 <| .take 23 <| .take 24 <| .take 25 <| .take 26 <| .take 27 <| .only 28 <| .take 29 <| .take 30 <| .take 31 <| .done) (fun W => Ext w5 W) mixed (by kernel_rfl) (by kernel_rfl) rfl (fun _ _ d _ _ h => by cases d <;> exact h) ((Ext.refl w5).drew) ?_
        repeat ((first | (refine plan_take (v := ?_) rfl rfl (fun W hW => ?_) ?_; rotate_left; (focus (have d0 := cell_ext hW c0; have d1 := cell_ext hW c1; have d2 := cell_ext hW c2; have d3 := cell_ext hW c3; have d4 := cell_ext hW c4; have d5 := cell_ext hW c5; have d6 := cell_ext hW c6; have d7 := cell_ext hW c7; have d8 := cell_ext hW c8; have d9 := cell_ext hW c9; have d10 := cell_ext hW c10; have d11 := cell_ext hW c11; have d12 := cell_ext hW c12; have d13 := cell_ext hW hcA5; go_simp; first | exact rfl | (split <;> first | exact rfl | (exfalso; omega)) | done))) | refine plan_skip rfl rfl ?_); simp only [puts])
        refine plan_walk rfl ?_; intro K hK
        go_wp2_with (first | (go_at_call 85; refine (R.out _ (X5.out.trans (Ext.refl w5).drew)).mono ?_; rintro e w6 ⟨rfl, hE6⟩))
        have X := Lib.hid ((Ext.refl w5).drew.trans hE6)
        refine hK _ _ X.out ?_
        repeat ((first | (refine plan_take (v := ?_) rfl rfl (fun W hW => ?_) ?_; rotate_left; (focus (skip; go_simp; first | exact rfl | (split <;> first | exact rfl | (exfalso; omega)) | done))) | refine plan_skip rfl rfl ?_); simp only [puts])
        refine plan_walk rfl ?_; intro K hK
        clear hE6 c0 c1 c2 c3 c4 c5 c6 c7 c8 c9 c10 c11 c12 hcA5
        go_wp2_with (first | (go_at_call 54; refine (tbefore_any (used m) b _ _ _ _ _ (Hr5.out.ints.ext X.out) (Hrb.out.ints.ext (X5.out.trans X.out)) (by have := Hul.out; omega) (by have := Hbl.out; omega)).mono ?_; rintro e w7 ⟨rfl, hE7⟩))
        have Y := Lib.hid (X.out.trans hE7)
        rw [← Hq.out]
        refine hK _ _ Y.out ?_
        repeat ((first | (refine plan_take (v := ?_) rfl rfl (fun W hW => ?_) ?_; rotate_left; (focus (skip; go_simp; first | exact rfl | (split <;> first | exact rfl | (exfalso; omega)) | done))) | refine plan_skip rfl rfl ?_); simp only [puts])
        refine plan_done ?_
        clear hE7
        go_wp2
        go_roundg (gk - 1)
        case measure => omega
        case rel => exact ⟨k + 1, by omega, by go_num, HE.out.trans (X5.out.trans Y.out), by rw [hst.out]; exact .mk (Hrb.out.ext (X5.out.trans Y.out))⟩
      ·have hl2I : (((used m).length : Int) == (b.length : Int)) = false := by rw [beq_eq_false_iff_ne]; omega
       have hst := Lib.hid (show nTo s L (k + 1) = some b by rw [Hs.out, step_more (by simp [lessT, hl1, hl2])])
       clear hl2
       go_wp2_with (first | (go_at_call 100; refine (U.out _ (Ext.refl wr)).mono ?_; rintro e w5 ⟨v5, rfl, ho5, hE5⟩; obtain ⟨a5, c5', rfl, hr5⟩ := own_row ho5 Hu.out; have Hr5 := Lib.hid hr5; have X5 := Lib.hid hE5; have HP5 := Lib.hid (HPr.out.ext hE5); have HcA := Lib.hid (cell_ext hE5 hcA); clear ho5 hE5 hr5 hcA))
       have c0 := HP5.out 0 _ rfl; have c1 := HP5.out 1 _ rfl; have c2 := HP5.out 2 _ rfl; have c3 := HP5.out 3 _ rfl; have c4 := HP5.out 4 _ rfl; have c5 := HP5.out 5 _ rfl; have c6 := HP5.out 6 _ rfl; have c7 := HP5.out 7 _ rfl; have c8 := HP5.out 8 _ rfl; have c9 := HP5.out 9 _ rfl; have c10 := HP5.out 10 _ rfl; have c11 := HP5.out 11 _ rfl; have c12 := HP5.out 12 _ rfl; have hcA5 := HcA.out
       refine wp_region_plan (.take 0 <| .take 1 <| .take 2 <| .take 3 <| .take 4 <| .take 6 <| .take 7 <| .only 5 <| .take 8 <| .take 9 <| .take 10 <| .take 11 <| .take 12 <| .take 13 <| .take 14 <| .take 15 <| .take 16 <| .take 17 <| .take 18 <| .take 19 <| .take 20 <| .take 21 <| .take 22 <| .take 23 <| .take 24 <| .take 25 <| .take 26 <| .take 27 <| .take 28 <| .take 29 <| .take 30 <| .take 31 <| .done) (fun W => Ext w5 W) mixed (by kernel_rfl) (by kernel_rfl) rfl (fun _ _ d _ _ h => by cases d <;> exact h) ((Ext.refl w5).drew) ?_
       repeat ((first | (refine plan_take (v := ?_) rfl rfl (fun W hW => ?_) ?_; rotate_left; (focus (have d0 := cell_ext hW c0; have d1 := cell_ext hW c1; have d2 := cell_ext hW c2; have d3 := cell_ext hW c3; have d4 := cell_ext hW c4; have d5 := cell_ext hW c5; have d6 := cell_ext hW c6; have d7 := cell_ext hW c7; have d8 := cell_ext hW c8; have d9 := cell_ext hW c9; have d10 := cell_ext hW c10; have d11 := cell_ext hW c11; have d12 := cell_ext hW c12; have d13 := cell_ext hW hcA5; go_simp; first | exact rfl | (split <;> first | exact rfl | (exfalso; omega)) | done))) | refine plan_skip rfl rfl ?_); simp only [puts])
       refine plan_walk rfl ?_; intro K hK
       go_wp2_with (first | (go_at_call 85; refine (R.out _ (X5.out.trans (Ext.refl w5).drew)).mono ?_; rintro e w6 ⟨rfl, hE6⟩))
       have X := Lib.hid ((Ext.refl w5).drew.trans hE6)
       refine hK _ _ X.out ?_
       repeat ((first | (refine plan_take (v := ?_) rfl rfl (fun W hW => ?_) ?_; rotate_left; (focus (skip; go_simp; first | exact rfl | (split <;> first | exact rfl | (exfalso; omega)) | done))) | refine plan_skip rfl rfl ?_); simp only [puts])
       refine plan_done ?_
       clear hE6 c0 c1 c2 c3 c4 c5 c6 c7 c8 c9 c10 c11 c12 hcA5
       go_wp2
       go_roundg (gk - 1)
       case measure => omega
       case rel => exact ⟨k + 1, by omega, by go_num, HE.out.trans (X5.out.trans X.out), by rw [hst.out]; exact .mk (Hrb.out.ext (X5.out.trans X.out))⟩
   ·have hP : surely s m = false := by simpa using hP
    have hF1 : ¬ offOf s m ≤ (s.off : Int) := by simpa [surely] using hP
    have hF2 : ¬ offOf s m ≤ (ofSh s).off := hF1
    have hF3 : decide (offOf s m ≤ (ofSh s).off) = false := by simpa using hF2
    have hF4 : (ofSh s).off < offOf s m := by omega
    have hst := Lib.hid (show nTo s L (k + 1) = nTo s L k by rw [Hs.out, step_no hP])
    have Hv := Lib.hid hv
    clear hF1 hP hv
    go_wp2_with (first | (go_at_call 100; refine (U.out _ (Ext.refl wr)).mono ?_; rintro e w5 ⟨v5, rfl, ho5, hE5⟩; obtain ⟨a5, c5', rfl, hr5⟩ := own_row ho5 Hu.out; have Hr5 := Lib.hid hr5; have X5 := Lib.hid hE5; have HP5 := Lib.hid (HPr.out.ext hE5); have HcA := Lib.hid (cell_ext hE5 hcA); clear ho5 hE5 hr5 hcA))
    have c0 := HP5.out 0 _ rfl; have c1 := HP5.out 1 _ rfl; have c2 := HP5.out 2 _ rfl; have c3 := HP5.out 3 _ rfl; have c4 := HP5.out 4 _ rfl; have c5 := HP5.out 5 _ rfl; have c6 := HP5.out 6 _ rfl; have c7 := HP5.out 7 _ rfl; have c8 := HP5.out 8 _ rfl; have c9 := HP5.out 9 _ rfl; have c10 := HP5.out 10 _ rfl; have c11 := HP5.out 11 _ rfl; have c12 := HP5.out 12 _ rfl; have hcA5 := HcA.out
    refine wp_region_plan (.take 0 <| .take 1 <| .take 2 <| .take 3 <| .take 4 <| .take 6 <| .take 7 <| .only 5 <| .take 8 <| .take 9 <| .take 10 <| .take 11 <| .take 12 <| .take 13 <| .take 14 <| .take 15 <| .take 16 <| .take 17 <| .take 18 <| .take 19 <| .take 20 <| .take 21 <| .take 22 <| .take 23 <| .take 24 <| .take 25 <| .take 26 <| .take 27 <| .take 28 <| .take 29 <| .take 30 <| .take 31 <| .done) (fun W => Ext w5 W) mixed (by kernel_rfl) (by kernel_rfl) rfl (fun _ _ d _ _ h => by cases d <;> exact h) ((Ext.refl w5).drew) ?_
    repeat ((first | (refine plan_take (v := ?_) rfl rfl (fun W hW => ?_) ?_; rotate_left; (focus (have d0 := cell_ext hW c0; have d1 := cell_ext hW c1; have d2 := cell_ext hW c2; have d3 := cell_ext hW c3; have d4 := cell_ext hW c4; have d5 := cell_ext hW c5; have d6 := cell_ext hW c6; have d7 := cell_ext hW c7; have d8 := cell_ext hW c8; have d9 := cell_ext hW c9; have d10 := cell_ext hW c10; have d11 := cell_ext hW c11; have d12 := cell_ext hW c12; have d13 := cell_ext hW hcA5; go_simp; first | exact rfl | (split <;> first | exact rfl | (exfalso; omega)) | done))) | refine plan_skip rfl rfl ?_); simp only [puts])
    refine plan_walk rfl ?_; intro K hK
    go_wp2_with (first | (go_at_call 85; refine (R.out _ (X5.out.trans (Ext.refl w5).drew)).mono ?_; rintro e w6 ⟨rfl, hE6⟩))
    have X := Lib.hid ((Ext.refl w5).drew.trans hE6)
    refine hK _ _ X.out ?_
    repeat ((first | (refine plan_take (v := ?_) rfl rfl (fun W hW => ?_) ?_; rotate_left; (focus (skip; go_simp; first | exact rfl | (split <;> first | exact rfl | (exfalso; omega)) | done))) | refine plan_skip rfl rfl ?_); simp only [puts])
    refine plan_done ?_
    clear hE6 c0 c1 c2 c3 c4 c5 c6 c7 c8 c9 c10 c11 c12 hcA5
    go_wp2
    go_roundg (gk - 1)
    case measure => omega
    case rel => exact ⟨k + 1, by omega, by go_num, HE.out.trans (X5.out.trans X.out), by rw [hst.out]; exact Hv.out.ext (X5.out.trans X.out)⟩
  ·have hkk : k = L.length := by omega
   have hend : nTo s L k = NO := by rw [hkk]; exact Hend.out
   rw [hend] at hv
   clear hend
   clear hkk
   cases NO with
   | none =>
    obtain rfl := hv.none_iff
    clear hv hE
    go_wp2
    refine bodyPost_ret (results_tmp2 rfl _ _ _) (by simp) ?_
    exact ⟨HE1.out.trans HE.out, rfl⟩
   | some b =>
    obtain ⟨ab, cb, rfl, hrb⟩ := hv.some_iff
    have Hrb := Lib.hid hrb
    clear hv hrb hE
    go_wp2
    refine bodyPost_ret (results_tmp2 rfl _ _ _) (by simp) ?_
    exact ⟨HE1.out.trans HE.out, _, rfl, isInts_of Hrb.out⟩

end Go.Proofs.YtjpekonfjihcoaaGreatDoor
