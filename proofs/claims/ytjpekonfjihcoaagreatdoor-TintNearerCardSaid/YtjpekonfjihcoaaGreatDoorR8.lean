/- Contracts: the reference's First and May. No condition beyond sheets as defined. -/
import Derived.ArgAppend
import Derived.Below
import Derived.BigQuiet
import Derived.Deep.DeepCutAuto
import Derived.Deep.DeepFit
import Derived.Deep.LoopGhost
import Derived.Deep.QuietTactic
import Derived.Deep.RegionHeld
import Derived.Deep.RegionHeld3
import Derived.Deep.RegionWith
import Derived.Deep.Upon
import Derived.Defers
import Derived.Laws.EntriesVeiled
import Derived.Laws.OwnMore
import Derived.Lib.Hide
import Derived.Lib.IndexBytes
import Derived.Lib.ItoaNum
import Derived.Lib.SplitLaws
import Derived.LoopIn
import Derived.LoopNIn
import Derived.Maps.AppendAt
import Derived.Maps.Keyed
import Derived.Maps.OwnIn
import Derived.OrdersHeld
import Derived.OwnWalkIn
import Derived.RangeFuncBound
import Derived.RangeFuncCalls
import Derived.RangeFuncLeaves
import Derived.RangeFuncNested
import Derived.Recover
import Derived.RegionIn
import Derived.Shelf.Abstract
import Derived.TacticsIn
import Derived.TacticsInMore
import Derived.Test.YtjpekonfjihcoaaGreatDoorProg
import Derived.WalkKit
import Derived.WalkLawsBesides
import Derived.WalkSpells
import Derived.Test.YtjpekonfjihcoaaGreatDoorM2
import Derived.Test.YtjpekonfjihcoaaGreatDoorM37
import Derived.Test.YtjpekonfjihcoaaGreatDoorM38
import Derived.Test.YtjpekonfjihcoaaGreatDoorM3
import Derived.Test.YtjpekonfjihcoaaGreatDoorM25
import Derived.Test.YtjpekonfjihcoaaGreatDoorM4
import Derived.Test.YtjpekonfjihcoaaGreatDoorM1
import Derived.Test.YtjpekonfjihcoaaGreatDoorM17
namespace Go.TintM
end Go.TintM
set_option maxRecDepth 100000
set_option maxHeartbeats 64000000
set_option linter.unusedVariables false
set_option linter.unusedSimpArgs false
namespace Go.Proofs.YtjpekonfjihcoaaGreatDoor
open Go.RowKit Go.My Go.TintM

/-- A row of numbers, and what its slice's cap says. -/
structure Row (w : World) (oa : Option Addr) (cap : Nat) (m : List Nat) : Prop where
 le : m.length ≤ cap
 max : cap ≤ maxLen
 nb : oa = none → cap = 0
 ints : IntsAt w oa (upL m)
theorem Row.ext {w w' : World} {oa : Option Addr} {cap : Nat} {m : List Nat} (h : Row w oa cap m) (hE : Ext w w') : Row w' oa cap m := ⟨h.le, h.max, h.nb, h.ints.ext hE⟩
theorem isInts_of {w : World} {oa : Option Addr} {cap : Nat} {m : List Nat} (h : Row w oa cap m) : IsInts w (.slice oa m.length cap) (upL m) := ⟨oa, cap, by rw [upL_length], by rw [upL_length]; exact h.le, h.max, h.nb, h.ints⟩
theorem rows_at {w : World} {oa : Option Addr} {ss : List (List Nat)} (h : RowsAt w oa (uppL ss)) {k : Nat} (hk : k < ss.length) :
  ∃ b off oa' cap', oa = some ⟨b, off, none⟩ ∧ w.cell? ⟨b, off + k, none⟩ = some (.slice oa' ss[k].length cap') ∧ Row w oa' cap' ss[k] := by
 obtain ⟨b, off, u, h1, h2, h3, oa', cap', rfl, h4, h5, h6, h7⟩ := h k (upL ss[k]) (by simp [uppL, hk])
 rw [upL_length] at h3 h4
 exact ⟨b, off, oa', cap', h1, h3, h4, h5, h6, h7⟩
def FoundP (o : Option (List Nat)) (e : Ending) (w' : World) : Prop :=
 match o with
  | some m => ∃ v, e = .returned (.tuple #[v, .bool true]) ∧ IsInts w' v (upL m)
  | none => e = .returned (.tuple #[.slice none 0 0, .bool false])
def FoundR (s : Sh) (P : List Nat → Bool) (w : World) (e : Ending) (w' : World) : Prop := Ext w w' ∧ FoundP ((allMix s.tins.length).find? P) e w'

theorem rFirst_any (s : Sh) (g : Fine s) (ot : Option Addr) (cap : Nat) (w : World) (h : TinsAt w ot (ofSh s).tins) :
  Calls Tryz.prog 41 #[sheetV (ofSh s) ot cap] w fun e w' => FoundR s (surely s) w e w' := by
 have RA := Lib.hid (fun W => rAll_any (ofSh s) ot cap (by rw [tins_len]; exact g.len1) (by rw [tins_len]; exact g.len2) W)
 rw [tins_len] at RA
 have Hmx := Lib.hid (fun m (hm : m ∈ allMix s.tins.length) => (mem_allMix g).1 hm)
 have RC := Lib.hid (fun m (hm : m ∈ allMix s.tins.length) om cm W (hE : Ext w W) (hi : IntsAt W om (upL m)) => rNeeded_any s g m ((mem_allMix g).1 hm) ot cap om cm W (h.ext hE) hi)
 have hL := (allMix_len ⟨s.tins.length, by have := g.len2; omega⟩ g.len1).1
 simp only at hL
 clear h g
 unfold FoundR
 generalize allMix s.tins.length = L at *
 go_enter Tryz.func41, Tryz.ntmps41
 go_wp2_with (first | (go_at_call 92; refine (RA.out _).mono ?_; rintro e w1 ⟨⟨v1, rfl, ho1⟩, hE1⟩; obtain ⟨oa, ca, hv1, n1, n2, n3, hr1⟩ := ho1.slice; subst hv1; have HR := Lib.hid hr1; have HE1 := Lib.hid (((Ext.refl w).alloc _).trans hE1); have HP := Lib.hid ((SheetBox.new w (ofSh s) ot cap).ext hE1); clear ho1 hr1 hE1))
 go_loopg [5] L.length (fun g i wr => ∃ k : Nat, k + g = L.length ∧ i = .int .i64 k ∧ Ext w1 wr ∧ (L.drop k).find? (surely s) = L.find? (surely s))
 case atStart => exact ⟨0, by omega, rfl, Ext.refl _, by rw [List.drop_zero]⟩
 case round =>
  obtain ⟨k, hk, rfl, hE, hf⟩ := hrel
  have HE := Lib.hid hE
  have HF := Lib.hid hf
  have HPr := Lib.hid (HP.out.ext hE)
  clear hf
  by_cases hlt : k < L.length
  ·obtain ⟨bA, oA, om, cm, hbA, hcA, hi⟩ := rows_at (HR.out.ext hE) hlt
   subst hbA
   have hmem : L[k] ∈ L := List.getElem_mem hlt
   have R := Lib.hid (fun W (hW : Ext wr W) => RC.out _ hmem om cm W (HE1.out.trans (HE.out.trans hW)) (hi.ints.ext hW))
   have Hi := Lib.hid hi
   have Hd := Lib.hid (show L.drop k = L[k] :: L.drop (k + 1) from List.drop_eq_getElem_cons hlt)
   clear hmem hi hE
   generalize L[k] = m at *
   have hltI : (k : Int) < (L.length : Int) := by omega
   have c0 := HPr.out 0 _ rfl
   have c1 := HPr.out 1 _ rfl
   have c2 := HPr.out 2 _ rfl
   have c3 := HPr.out 3 _ rfl
   have c4 := HPr.out 4 _ rfl
   have c5 := HPr.out 5 _ rfl
   have c6 := HPr.out 6 _ rfl
   have c7 := HPr.out 7 _ rfl
   have c8 := HPr.out 8 _ rfl
   have c9 := HPr.out 9 _ rfl
   have c10 := HPr.out 10 _ rfl
   have c11 := HPr.out 11 _ rfl
   have c12 := HPr.out 12 _ rfl
   have hcA' := cell_ext (Ext.refl wr).drew hcA
   go_wp2_with fail
   refine wp_region_plan (.take 0 <| .take 1 <| .take 2 <| .take 3 <| .take 4 <| .take 6 <| .take 7 <| .only 5 <| .take 8 <| .done) (fun W => Ext wr W) mixed (by kernel_rfl) (by kernel_rfl) rfl (fun _ _ d _ _ h => by cases d <;> exact h) ((Ext.refl wr).drew) ?_
   repeat ((first | (refine plan_take (v := ?_) rfl rfl (fun W hW => ?_) ?_; rotate_left; (focus (have d0 := cell_ext hW c0; have d1 := cell_ext hW c1; have d2 := cell_ext hW c2; have d3 := cell_ext hW c3; have d4 := cell_ext hW c4; have d5 := cell_ext hW c5; have d6 := cell_ext hW c6; have d7 := cell_ext hW c7; have d8 := cell_ext hW c8; have d9 := cell_ext hW c9; have d10 := cell_ext hW c10; have d11 := cell_ext hW c11; have d12 := cell_ext hW c12; have d13 := cell_ext hW hcA; go_simp; first | exact rfl | (split <;> first | exact rfl | (exfalso; omega)) | done))) | refine plan_skip rfl rfl ?_); simp only [puts])
   refine plan_walk rfl ?_; intro K hK
   go_wp2_with (first | (go_at_call 85; refine (R.out _ (Ext.refl wr).drew).mono ?_; rintro e w5 ⟨rfl, hE5⟩))
   have X := Lib.hid ((Ext.refl wr).drew.trans hE5)
   refine hK _ _ X.out ?_
   repeat ((first | (refine plan_take (v := ?_) rfl rfl (fun W hW => ?_) ?_; rotate_left; (focus (skip; go_simp; first | exact rfl | (split <;> first | exact rfl | (exfalso; omega)) | done))) | refine plan_skip rfl rfl ?_); simp only [puts])
   refine plan_done ?_
   have hcA5 := cell_ext X.out hcA
   clear hE5 c0 c1 c2 c3 c4 c5 c6 c7 c8 c9 c10 c11 c12 hcA hcA'
   cases hP : (surely s) m with
   | true =>
    have hff := Lib.hid (show L.find? (surely s) = some m by rw [← HF.out, Hd.out, List.find?_cons, hP])
    have hF1 : offOf s m ≤ (s.off : Int) := by simpa [surely] using hP
    have hF2 : offOf s m ≤ (ofSh s).off := hF1
    clear hF1
    clear hP
    go_wp2
    refine bodyPost_ret (results_tmp2 rfl _ _ _) (by simp) ?_
    refine ⟨(HE1.out.trans HE.out).trans X.out, ?_⟩
    rw [hff.out]
    exact ⟨_, rfl, isInts_of (Hi.out.ext X.out)⟩
   | false =>
    have hff := Lib.hid (show (L.drop (k + 1)).find? (surely s) = L.find? (surely s) by rw [← HF.out, Hd.out, List.find?_cons, hP])
    have hF1 : ¬ offOf s m ≤ (s.off : Int) := by simpa [surely] using hP
    have hF2 : ¬ offOf s m ≤ (ofSh s).off := hF1
    clear hF1
    clear hP
    go_wp2
    go_roundg (gk - 1)
    case measure => omega
    case rel => exact ⟨k + 1, by omega, by go_num, HE.out.trans X.out, hff.out⟩
  ·have hkk : k = L.length := by omega
   have hff := Lib.hid (show L.find? (surely s) = none by rw [← HF.out, hkk, List.drop_length]; rfl)
   clear hkk
   go_wp2
   refine bodyPost_ret (results_tmp2 rfl _ _ _) (by simp) ?_
   refine ⟨HE1.out.trans HE.out, ?_⟩
   rw [hff.out]
   exact (rfl : Ending.returned _ = _)

theorem rMay_any (s : Sh) (g : Fine s) (ot : Option Addr) (cap : Nat) (w : World) (h : TinsAt w ot (ofSh s).tins) :
  Calls Tryz.prog 42 #[sheetV (ofSh s) ot cap] w fun e w' => FoundR s (mayOf s) w e w' := by
 have RA := Lib.hid (fun W => rAll_any (ofSh s) ot cap (by rw [tins_len]; exact g.len1) (by rw [tins_len]; exact g.len2) W)
 rw [tins_len] at RA
 have Hmx := Lib.hid (fun m (hm : m ∈ allMix s.tins.length) => (mem_allMix g).1 hm)
 have RC := Lib.hid (fun m (hm : m ∈ allMix s.tins.length) om cm W (hE : Ext w W) (hi : IntsAt W om (upL m)) => rWord_any s g m ((mem_allMix g).1 hm) ot cap om cm W (h.ext hE) hi)
 have hL := (allMix_len ⟨s.tins.length, by have := g.len2; omega⟩ g.len1).1
 simp only at hL
 clear h g
 unfold FoundR
 generalize allMix s.tins.length = L at *
 go_enter Tryz.func42, Tryz.ntmps42
 go_wp2_with (first | (go_at_call 92; refine (RA.out _).mono ?_; rintro e w1 ⟨⟨v1, rfl, ho1⟩, hE1⟩; obtain ⟨oa, ca, hv1, n1, n2, n3, hr1⟩ := ho1.slice; subst hv1; have HR := Lib.hid hr1; have HE1 := Lib.hid (((Ext.refl w).alloc _).trans hE1); have HP := Lib.hid ((SheetBox.new w (ofSh s) ot cap).ext hE1); clear ho1 hr1 hE1))
 go_loopg [5] L.length (fun g i wr => ∃ k : Nat, k + g = L.length ∧ i = .int .i64 k ∧ Ext w1 wr ∧ (L.drop k).find? (mayOf s) = L.find? (mayOf s))
 case atStart => exact ⟨0, by omega, rfl, Ext.refl _, by rw [List.drop_zero]⟩
 case round =>
  obtain ⟨k, hk, rfl, hE, hf⟩ := hrel
  have HE := Lib.hid hE
  have HF := Lib.hid hf
  have HPr := Lib.hid (HP.out.ext hE)
  clear hf
  by_cases hlt : k < L.length
  ·obtain ⟨bA, oA, om, cm, hbA, hcA, hi⟩ := rows_at (HR.out.ext hE) hlt
   subst hbA
   have hmem : L[k] ∈ L := List.getElem_mem hlt
   have R := Lib.hid (fun W (hW : Ext wr W) => RC.out _ hmem om cm W (HE1.out.trans (HE.out.trans hW)) (hi.ints.ext hW))
   have Hi := Lib.hid hi
   have Hd := Lib.hid (show L.drop k = L[k] :: L.drop (k + 1) from List.drop_eq_getElem_cons hlt)
   clear hmem hi hE
   generalize L[k] = m at *
   have hltI : (k : Int) < (L.length : Int) := by omega
   have c0 := HPr.out 0 _ rfl
   have c1 := HPr.out 1 _ rfl
   have c2 := HPr.out 2 _ rfl
   have c3 := HPr.out 3 _ rfl
   have c4 := HPr.out 4 _ rfl
   have c5 := HPr.out 5 _ rfl
   have c6 := HPr.out 6 _ rfl
   have c7 := HPr.out 7 _ rfl
   have c8 := HPr.out 8 _ rfl
   have c9 := HPr.out 9 _ rfl
   have c10 := HPr.out 10 _ rfl
   have c11 := HPr.out 11 _ rfl
   have c12 := HPr.out 12 _ rfl
   have hcA' := cell_ext (Ext.refl wr).drew hcA
   go_wp2_with fail
   refine wp_region_plan (.take 0 <| .take 1 <| .take 2 <| .take 3 <| .take 4 <| .only 5 <| .take 6 <| .done) (fun W => Ext wr W) mixed (by kernel_rfl) (by kernel_rfl) rfl (fun _ _ d _ _ h => by cases d <;> exact h) ((Ext.refl wr).drew) ?_
   repeat ((first | (refine plan_take (v := ?_) rfl rfl (fun W hW => ?_) ?_; rotate_left; (focus (have d0 := cell_ext hW c0; have d1 := cell_ext hW c1; have d2 := cell_ext hW c2; have d3 := cell_ext hW c3; have d4 := cell_ext hW c4; have d5 := cell_ext hW c5; have d6 := cell_ext hW c6; have d7 := cell_ext hW c7; have d8 := cell_ext hW c8; have d9 := cell_ext hW c9; have d10 := cell_ext hW c10; have d11 := cell_ext hW c11; have d12 := cell_ext hW c12; have d13 := cell_ext hW hcA; go_simp; first | exact rfl | (split <;> first | exact rfl | (exfalso; omega)) | done))) | refine plan_skip rfl rfl ?_); simp only [puts])
   refine plan_walk rfl ?_; intro K hK
   go_wp2_with (first | (go_at_call 31; refine (R.out _ (Ext.refl wr).drew).mono ?_; rintro e w5 ⟨rfl, hE5⟩))
   have X := Lib.hid ((Ext.refl wr).drew.trans hE5)
   refine hK _ _ X.out ?_
   repeat ((first | (refine plan_take (v := ?_) rfl rfl (fun W hW => ?_) ?_; rotate_left; (focus (skip; go_simp; first | exact rfl | (split <;> first | exact rfl | (exfalso; omega)) | done))) | refine plan_skip rfl rfl ?_); simp only [puts])
   refine plan_done ?_
   have hcA5 := cell_ext X.out hcA
   clear hE5 c0 c1 c2 c3 c4 c5 c6 c7 c8 c9 c10 c11 c12 hcA hcA'
   cases hP : (mayOf s) m with
   | true =>
    have hff := Lib.hid (show L.find? (mayOf s) = some m by rw [← HF.out, Hd.out, List.find?_cons, hP])
    have hF2 : (wordOf s m == 1) = false := by simpa [mayOf] using hP
    clear hP
    go_wp2
    refine bodyPost_ret (results_tmp2 rfl _ _ _) (by simp) ?_
    refine ⟨(HE1.out.trans HE.out).trans X.out, ?_⟩
    rw [hff.out]
    exact ⟨_, rfl, isInts_of (Hi.out.ext X.out)⟩
   | false =>
    have hff := Lib.hid (show (L.drop (k + 1)).find? (mayOf s) = L.find? (mayOf s) by rw [← HF.out, Hd.out, List.find?_cons, hP])
    have hF2 : (wordOf s m == 1) = true := by simpa [mayOf] using hP
    clear hP
    go_wp2
    go_roundg (gk - 1)
    case measure => omega
    case rel => exact ⟨k + 1, by omega, by go_num, HE.out.trans X.out, hff.out⟩
  ·have hkk : k = L.length := by omega
   have hff := Lib.hid (show L.find? (mayOf s) = none by rw [← HF.out, hkk, List.drop_length]; rfl)
   clear hkk
   go_wp2
   refine bodyPost_ret (results_tmp2 rfl _ _ _) (by simp) ?_
   refine ⟨HE1.out.trans HE.out, ?_⟩
   rw [hff.out]
   exact (rfl : Ending.returned _ = _)

end Go.Proofs.YtjpekonfjihcoaaGreatDoor
