/- Contracts and mathematics, joined: First, Count. Conditions stand with each. -/
import Derived.ArgAppend
import Derived.Below
import Derived.BigQuiet
import Derived.Deep.DeepCutAuto
import Derived.Deep.DeepFit
import Derived.Deep.LoopGhost
import Derived.Deep.QuietTactic
import Derived.Deep.RegionHeld
import Derived.Deep.RegionHeld3
import Derived.Deep.RegionWith
import Derived.Laws.EntriesVeiled
import Derived.Laws.OwnMore
import Derived.Lib.Hide
import Derived.LoopIn
import Derived.LoopNIn
import Derived.Maps.Keyed
import Derived.OrdersHeld
import Derived.OwnWalkIn
import Derived.RangeFuncBound
import Derived.RangeFuncCalls
import Derived.RangeFuncLeaves
import Derived.RangeFuncNested
import Derived.RegionIn
import Derived.Shelf.Abstract
import Derived.TacticsInMore
import Derived.Test.YtjpekonfjihcoaaGreatDoorProg
import Derived.WalkKit
import Derived.WalkLawsBesides
import Derived.WalkSpells
import Derived.Test.YtjpekonfjihcoaaGreatDoorM3
import Derived.Test.YtjpekonfjihcoaaGreatDoorM2
import Derived.Test.YtjpekonfjihcoaaGreatDoorM5
import Derived.Test.YtjpekonfjihcoaaGreatDoorM4
import Derived.Test.YtjpekonfjihcoaaGreatDoorM12
import Derived.Test.YtjpekonfjihcoaaGreatDoorM9
import Derived.Test.YtjpekonfjihcoaaGreatDoorM23
import Derived.Test.YtjpekonfjihcoaaGreatDoorM10
import Derived.Test.YtjpekonfjihcoaaGreatDoorM11
import Derived.Test.YtjpekonfjihcoaaGreatDoorM1
import Derived.Test.YtjpekonfjihcoaaGreatDoorM22
import Derived.Test.YtjpekonfjihcoaaGreatDoorM17
namespace Go.TintM
end Go.TintM
set_option maxRecDepth 100000
set_option maxHeartbeats 64000000
set_option linter.unusedVariables false
set_option linter.unusedSimpArgs false
/- Contracts: mixes, first. No condition beyond sheets as defined. -/
namespace Go.Proofs.YtjpekonfjihcoaaGreatDoor
open Go.RowKit Go.My Go.TintM Go.Shelf
attribute [local go_sem] Oper.semAt_some

theorem mixes_any (c : Array Value) (w : World) : Calls Tryz.prog 91 #[.agg c] w fun e w' => e = .returned (.func (.func 123) #[] #[.pointer (some ⟨w.heap.size, 0, none⟩)]) ∧ w' = w.alloc (.cells c 28) := by
 go_enter Tryz.func91, Tryz.ntmps91
 go_wp2
 go_ret
 exact ⟨rfl, rfl⟩

theorem is_cell (w : World) (A : Obj) (v : Value) : ((w.alloc A).alloc (.cells #[v] 115)).cell? ⟨w.heap.size + 1, 0, none⟩ = some v := by go_simp

/-- The first mixture of which something is so, or none. -/
def FoundIn (s : Sh) (P : List Nat → Bool) (w : World) (e : Ending) (w' : World) : Prop :=
 Ext w w' ∧ (match (allMix s.tins.length).find? P with
  | some m => ∃ v, e = .returned (.tuple #[v, .int .i64 0]) ∧ IsInts w' v (upL m)
  | none => e = .returned (.tuple #[.slice none 0 0, .int .i64 5]))
theorem surely_call (s : Sh) (g : Fine s) (m : List Nat) (hm : IsMix s m) (ot : Option Addr) (cap : Nat) (om : Option Addr) (cm : Nat) (w : World) (h : TinsAt w ot (ofSh s).tins) (hi : IntsAt w om (upL m)) :
  Calls Tryz.prog 89 #[potV s ot cap om m.length cm] w fun e w' => e = .returned (.bool (surely s m)) ∧ Ext w w' := surely_any s g m hm ot cap om cm w h hi
def mayOf (s : Sh) (m : List Nat) : Bool := !(wordOf s m == 1)


theorem first_surely (s : Sh) (g : Fine s) (ot : Option Addr) (cap : Nat) (w : World) (h : TinsAt w ot (ofSh s).tins) :
  Calls Tryz.prog 88 #[sheetV (ofSh s) ot cap, .func (.func 89) #[] #[]] w fun e w' => FoundIn s (surely s) w e w' := by
 have hl : (ofSh s).tins.length ≤ 9223372036854775807 := by rw [tins_len]; have := g.len2; omega
 have R72 := Lib.hid (fun W (hW : Ext w W) => isSheet_any (ofSh s) ot cap W (h.ext hW) hl)
 rw [sheet_of g] at R72
 have RK := Lib.hid (fun m (hm : IsMix s m) om cm W (hW : TinsAt W ot (ofSh s).tins) (hi : IntsAt W om (upL m)) => surely_call s g m hm ot cap om cm W hW hi)
 have H := Lib.hid h
 have G := Lib.hid g
 clear h hl g
 refine (callsIn_wide (n := 3)).1 (callsIn_of_wp_marks Tryz.func88 rfl trivial (wpIn_wide.2 ?_))
 simp only [Tryz.ntmps88, List.size_toArray, List.length_cons, List.length_nil, Nat.reduceAdd, Nat.reduceSub, Array.replicate_succ, Array.replicate_zero, List.push_toArray, List.append_toArray, List.nil_append, List.cons_append]
 go_wp2
 go_step3
 go_wp2_with (first | (go_at_call 72; refine (R72.out _ (((Ext.refl w).alloc _).alloc _)).mono ?_; rintro e w1 ⟨rfl, hE1⟩; have HX := Lib.hid ((((Ext.refl w).alloc (.cells (sheetC (ofSh s) ot cap) 28)).alloc (.cells #[.func (.func 89) #[] #[]] 115)).trans hE1); have HS := Lib.hid (((SheetBox.new w (ofSh s) ot cap).ext ((Ext.refl _).alloc (.cells #[.func (.func 89) #[] #[]] 115))).ext hE1); have hif := cell_ext hE1 (is_cell w _ _); have l0 : w.heap.size < w1.heap.size := (by have := hE1.size; simp at this; omega); have l1 : w.heap.size + 1 < w1.heap.size := (by have := hE1.size; simp at this; omega); clear hE1; have c0 := HS.out 0 _ rfl; have c1 := HS.out 1 _ rfl; have c2 := HS.out 2 _ rfl; have c3 := HS.out 3 _ rfl; have c4 := HS.out 4 _ rfl; have c5 := HS.out 5 _ rfl; have c6 := HS.out 6 _ rfl; have c7 := HS.out 7 _ rfl; have c8 := HS.out 8 _ rfl; have c9 := HS.out 9 _ rfl; have c10 := HS.out 10 _ rfl; have c11 := HS.out 11 _ rfl; have c12 := HS.out 12 _ rfl) | (go_at_call 91; refine (mixes_any _ _).mono ?_; rintro e w2 ⟨rfl, rfl⟩))
 go_step3
 go_wp2_with (first | (go_at_call 91; refine (mixes_any _ _).mono ?_; rintro e w2 ⟨rfl, rfl⟩))
 obtain ⟨wA, hwA⟩ : ∃ wA, wA = (w1.alloc (.cells #[.slice none 0 0] 29)).alloc (.cells (sheetC (ofSh s) ot cap) 28) := ⟨_, rfl⟩
 have hXA : Ext w1 wA := by rw [hwA]; exact ((Ext.refl w1).alloc _).alloc _
 have hq0 : wA.cell? ⟨w1.heap.size, 0, none⟩ = some (.slice none 0 0) := by rw [hwA]; go_simp
 have hqf : wA.frozen? ⟨w1.heap.size, 0, none⟩ = false := by rw [hwA]; go_simp
 have hsz : wA.heap.size = w1.heap.size + 2 := by rw [hwA]; simp
 have hsb : SheetBox wA (w1.heap.size + 1) (ofSh s) ot cap := by
  rw [hwA]
  have := SheetBox.new (w1.alloc (.cells #[.slice none 0 0] 29)) (ofSh s) ot cap
  rwa [World.size_alloc] at this
 have hfnA := cell_ext hXA hif
 have HA := Lib.hid (HX.out.trans hXA)
 have HIt := Lib.hid (iter_any s G.out ot cap (w1.heap.size + 1) (fun i => i = w1.heap.size) wA (by omega) (by omega) hsb)
 have Hq0 := Lib.hid hq0
 have Hqf := Lib.hid hqf
 have Hfn := Lib.hid hfnA
 rw [← hwA]
 clear hwA hq0 hqf hfnA hif c0 c1 c2 c3 c4 c5 c6 c7 c8 c9 c10 c11 c12 hsb HS
 refine wp_rangeFunc_each (gf := 123) (lb := #[.pointer (some ⟨w1.heap.size + 1, 0, none⟩)]) rfl (enters_of Tryz.func123 (by kernel_rfl) rfl) (allMix s.tins.length).length (fun i => i = w1.heap.size) (MixP s ot cap wA.heap.size)
  (NoneYet s (surely s) wA) (NoneYet.steady s (surely s) wA) (NoneYet.put s (surely s) wA) (HitIn s (surely s) w1.heap.size wA) (HitIn.put s (surely s) w1.heap.size wA (by omega)) (NoneYet.zero s (surely s) wA) HIt.out
  (PotAt s wA ot cap fun qb x => { tmps := #[sheetV (ofSh s) ot cap, .func (.func 89) #[] #[], .pointer (some ⟨w.heap.size, 0, none⟩), .pointer (some ⟨w.heap.size + 1, 0, none⟩), .slice none 0 0, .int .i64 0, .pointer (some ⟨w1.heap.size, 0, none⟩), .pointer (some ⟨qb, 0, none⟩), sheetV (ofSh s) ot cap, .bool true, .bool false, sheetV (ofSh s) ot cap, .func (.func 123) #[] #[.pointer (some ⟨w1.heap.size + 1, 0, none⟩)], x, undef, undef, undef, undef, undef, undef, undef, undef], defers := [] })
  (PotAt.put s wA ot cap _) ?assign ?body ?norm ?stop
 case assign =>
  rintro l m k I x W hk hj ⟨mm, base, om, cm, hm, rfl, ho, hI1, hb⟩ hI K hK
  have Hk := Lib.hid (hK _ _ (keeps_ext ((Ext.refl W).alloc (.cells (potC s ot cap om mm.length cm) 108))) (Mv.of_ext ((Ext.refl W).alloc (.cells (potC s ot cap om mm.length cm) 108))) (NoneYet.steady s (surely s) wA _ _ _ _ _ hj (Mv.of_ext ((Ext.refl W).alloc _)) fun i hi => ⟨.inl hi, Nat.lt_of_lt_of_le (hI i hi).2 (by simp)⟩) (PotAt.start s wA hm ho hI1 hb hI hj.1.size))
  clear hK
  gi_wp2
  exact Hk.out
 case body =>
  intro l m k I x a' W hk hj hp hI
  obtain ⟨mm, base, om, cm, qb, hm, rfl, rfl, ho, hI1, hb, hpb, hqI, hqA, hqW⟩ := hp
  have hmM : IsMix s mm := (mem_allMix G.out).1 (List.mem_of_getElem? hm)
  have R := Lib.hid (RK.out mm hmM om cm W (H.out.ext (HA.out.trans hj.1)) (own_ints ho))
  have c0 := hpb 0 _ rfl; have c1 := hpb 1 _ rfl; have c2 := hpb 2 _ rfl; have c3 := hpb 3 _ rfl; have c4 := hpb 4 _ rfl; have c5 := hpb 5 _ rfl; have c6 := hpb 6 _ rfl; have c7 := hpb 7 _ rfl; have c8 := hpb 8 _ rfl; have c9 := hpb 9 _ rfl; have c10 := hpb 10 _ rfl; have c11 := hpb 11 _ rfl; have c12 := hpb 12 _ rfl; have c13 : World.cell? W ⟨qb, 13, none⟩ = some (.slice om mm.length cm) := hpb 13 _ rfl
  have ci := cell_ext hj.1 Hfn.out
  have hgk : (allMix s.tins.length)[k] = mm := (List.getElem?_eq_some_iff.1 hm).2
  have Hgk := Lib.hid hgk
  have Ho := Lib.hid ho
  have Hj := Lib.hid hj
  have hWA := hj.1.size
  clear ho hj hm hpb hgk hmM
  cases hP : surely s mm
  ·rw [hP] at R
   have Hn := Lib.hid (take_no hk Hj.out.2.2 (by rw [Hgk.out]; exact hP))
   clear hP
   gi_wp2_with (first | (refine ⟨trivial, (fun h => by cases h), ?_⟩; gi_at_call 89; refine (CallsIn.inRound l (callsIn_wide.2 R.out)).mono ?_; rintro e w5 ⟨rfl, hE5⟩; have HE5 := Lib.hid hE5; clear hE5))
   exact ⟨keeps_ext HE5.out, Mv.of_ext HE5.out, Hj.out.1.trans HE5.out, Hj.out.2.1, Hn.out⟩
  ·rw [hP] at R
   have Hn := Lib.hid (find_hit hk Hj.out.2.2 (by rw [Hgk.out]; exact hP))
   clear hP
   gi_wp2_with (first | (refine ⟨trivial, (fun h => by cases h), ?_⟩; gi_at_call 89; refine (CallsIn.inRound l (callsIn_wide.2 R.out)).mono ?_; rintro e w5 ⟨rfl, hE5⟩; have HE5 := Lib.hid hE5; have c13' := cell_ext hE5 c13; have cq := cell_ext (Hj.out.1.trans hE5) Hq0.out; have cqf := (frozen_ext (p := ⟨w1.heap.size, 0, none⟩) (Hj.out.1.trans hE5) (by simp; omega)).trans Hqf.out; clear hE5))
   refine ⟨(keeps_ext HE5.out).trans (KeepsOthers.setCell _ _ _), (Mv.of_ext HE5.out).trans (Mv.of_grown ((Turned.refl w1.heap.size w5).set 0 _) fun i e => ?_), rfl, (Turned.of_ext (Hj.out.1.trans HE5.out)).set 0 _, mm, _, by rw [Hn.out, Hgk.out], by go_simp, ((Ho.out.ext HE5.out).turned ((Turned.refl w1.heap.size w5).set 0 _) (by omega)).low hb⟩
   cases e
   rintro (e | e)
   ·have := Hj.out.2.1 _ e; omega
   ·exact e.2 rfl
 case norm =>
  intro D I W hj hD hK
  have hn : (allMix s.tins.length).find? (surely s) = none := find_no fun x hx => hj.2.2 x (by rwa [List.take_length])
  have Hn := Lib.hid hn
  have cq := cell_ext hj.1 Hq0.out
  have e0 := eq29n
  have HW := Lib.hid (HA.out.trans hj.1)
  have HK := Lib.hid hK
  have hA := HA.out.size
  clear hn hj hK
  go_wp2
  try rw [Exit.noGoto_ret]
  refine ⟨by simp, .inl ⟨_, _, rfl, run_takeDeferred HK.out, ?_⟩⟩
  exact ⟨_, results_tmp2 rfl _ _ _, Mv.ext HW.out (putObj_mv W D _) fun i e => by rw [e]; exact Nat.le_trans hA hD, by rw [Hn.out]; rfl⟩
 case stop =>
  rintro D c W ⟨rfl, hT, mm, x, hf, hx, ho⟩ hD hK
  have hmM : IsMix s mm := (mem_allMix G.out).1 (List.mem_of_find?_eq_some hf)
  have h1 := G.out.len1
  obtain ⟨g, c, rfl, hc⟩ := own_some (n := mm.length - 1) ho (by rw [List.length_map, upL_length, hmM.len]; omega)
  have Hf := Lib.hid hf
  have Ho := Lib.hid ho
  have HT := Lib.hid hT
  have HK := Lib.hid hK
  have hA := HA.out.size
  have e0 := eq29s
  clear hf ho hT hK hmM
  go_wp2
  try rw [Exit.noGoto_ret]
  refine ⟨by simp, .inl ⟨_, _, rfl, run_takeDeferred HK.out, ?_⟩⟩
  have hE : Ext w W := ext_own HA.out HT.out (by omega)
  refine ⟨_, results_tmp2 rfl _ _ _, Mv.ext hE (putObj_mv W D _) fun i e => by rw [e]; exact Nat.le_trans hA hD, ?_⟩
  rw [Hf.out]
  exact ⟨_, rfl, (own_put Ho.out HK.out rfl).ints⟩

theorem may_call (s : Sh) (g : Fine s) (m : List Nat) (hm : IsMix s m) (ot : Option Addr) (cap : Nat) (om : Option Addr) (cm : Nat) (w : World) (h : TinsAt w ot (ofSh s).tins) (hi : IntsAt w om (upL m)) :
  Calls Tryz.prog 90 #[potV s ot cap om m.length cm] w fun e w' => e = .returned (.bool (mayOf s m)) ∧ Ext w w' := by
 have R := Lib.hid (fun W (hW : Ext w W) => word_any s g m hm ot cap om cm W (h.ext hW) (hi.ext hW))
 have Hd := Lib.hid (show mayOf s m = !(wordOf s m == 1) from rfl)
 clear h hi hm g
 generalize wordOf s m = z at *
 go_enter Tryz.func90, Tryz.ntmps90
 go_wp2_with (first | (go_at_call 82; refine (R.out _ ((Ext.refl w).alloc _)).mono ?_; rintro e w1 ⟨rfl, hE1⟩; have HE1 := Lib.hid hE1; clear hE1))
 go_ret
 exact ⟨ret_bool (by rw [Hd.out]; first | rfl | simp [bne]), ((Ext.refl w).alloc _).trans HE1.out⟩

theorem first_may (s : Sh) (g : Fine s) (ot : Option Addr) (cap : Nat) (w : World) (h : TinsAt w ot (ofSh s).tins) :
  Calls Tryz.prog 88 #[sheetV (ofSh s) ot cap, .func (.func 90) #[] #[]] w fun e w' => FoundIn s (mayOf s) w e w' := by
 have hl : (ofSh s).tins.length ≤ 9223372036854775807 := by rw [tins_len]; have := g.len2; omega
 have R72 := Lib.hid (fun W (hW : Ext w W) => isSheet_any (ofSh s) ot cap W (h.ext hW) hl)
 rw [sheet_of g] at R72
 have RK := Lib.hid (fun m (hm : IsMix s m) om cm W (hW : TinsAt W ot (ofSh s).tins) (hi : IntsAt W om (upL m)) => may_call s g m hm ot cap om cm W hW hi)
 have H := Lib.hid h
 have G := Lib.hid g
 clear h hl g
 refine (callsIn_wide (n := 3)).1 (callsIn_of_wp_marks Tryz.func88 rfl trivial (wpIn_wide.2 ?_))
 simp only [Tryz.ntmps88, List.size_toArray, List.length_cons, List.length_nil, Nat.reduceAdd, Nat.reduceSub, Array.replicate_succ, Array.replicate_zero, List.push_toArray, List.append_toArray, List.nil_append, List.cons_append]
 go_wp2
 go_step3
 go_wp2_with (first | (go_at_call 72; refine (R72.out _ (((Ext.refl w).alloc _).alloc _)).mono ?_; rintro e w1 ⟨rfl, hE1⟩; have HX := Lib.hid ((((Ext.refl w).alloc (.cells (sheetC (ofSh s) ot cap) 28)).alloc (.cells #[.func (.func 90) #[] #[]] 115)).trans hE1); have HS := Lib.hid (((SheetBox.new w (ofSh s) ot cap).ext ((Ext.refl _).alloc (.cells #[.func (.func 90) #[] #[]] 115))).ext hE1); have hif := cell_ext hE1 (is_cell w _ _); have l0 : w.heap.size < w1.heap.size := (by have := hE1.size; simp at this; omega); have l1 : w.heap.size + 1 < w1.heap.size := (by have := hE1.size; simp at this; omega); clear hE1; have c0 := HS.out 0 _ rfl; have c1 := HS.out 1 _ rfl; have c2 := HS.out 2 _ rfl; have c3 := HS.out 3 _ rfl; have c4 := HS.out 4 _ rfl; have c5 := HS.out 5 _ rfl; have c6 := HS.out 6 _ rfl; have c7 := HS.out 7 _ rfl; have c8 := HS.out 8 _ rfl; have c9 := HS.out 9 _ rfl; have c10 := HS.out 10 _ rfl; have c11 := HS.out 11 _ rfl; have c12 := HS.out 12 _ rfl) | (go_at_call 91; refine (mixes_any _ _).mono ?_; rintro e w2 ⟨rfl, rfl⟩))
 go_step3
 go_wp2_with (first | (go_at_call 91; refine (mixes_any _ _).mono ?_; rintro e w2 ⟨rfl, rfl⟩))
 obtain ⟨wA, hwA⟩ : ∃ wA, wA = (w1.alloc (.cells #[.slice none 0 0] 29)).alloc (.cells (sheetC (ofSh s) ot cap) 28) := ⟨_, rfl⟩
 have hXA : Ext w1 wA := by rw [hwA]; exact ((Ext.refl w1).alloc _).alloc _
 have hq0 : wA.cell? ⟨w1.heap.size, 0, none⟩ = some (.slice none 0 0) := by rw [hwA]; go_simp
 have hqf : wA.frozen? ⟨w1.heap.size, 0, none⟩ = false := by rw [hwA]; go_simp
 have hsz : wA.heap.size = w1.heap.size + 2 := by rw [hwA]; simp
 have hsb : SheetBox wA (w1.heap.size + 1) (ofSh s) ot cap := by
  rw [hwA]
  have := SheetBox.new (w1.alloc (.cells #[.slice none 0 0] 29)) (ofSh s) ot cap
  rwa [World.size_alloc] at this
 have hfnA := cell_ext hXA hif
 have HA := Lib.hid (HX.out.trans hXA)
 have HIt := Lib.hid (iter_any s G.out ot cap (w1.heap.size + 1) (fun i => i = w1.heap.size) wA (by omega) (by omega) hsb)
 have Hq0 := Lib.hid hq0
 have Hqf := Lib.hid hqf
 have Hfn := Lib.hid hfnA
 rw [← hwA]
 clear hwA hq0 hqf hfnA hif c0 c1 c2 c3 c4 c5 c6 c7 c8 c9 c10 c11 c12 hsb HS
 refine wp_rangeFunc_each (gf := 123) (lb := #[.pointer (some ⟨w1.heap.size + 1, 0, none⟩)]) rfl (enters_of Tryz.func123 (by kernel_rfl) rfl) (allMix s.tins.length).length (fun i => i = w1.heap.size) (MixP s ot cap wA.heap.size)
  (NoneYet s (mayOf s) wA) (NoneYet.steady s (mayOf s) wA) (NoneYet.put s (mayOf s) wA) (HitIn s (mayOf s) w1.heap.size wA) (HitIn.put s (mayOf s) w1.heap.size wA (by omega)) (NoneYet.zero s (mayOf s) wA) HIt.out
  (PotAt s wA ot cap fun qb x => { tmps := #[sheetV (ofSh s) ot cap, .func (.func 90) #[] #[], .pointer (some ⟨w.heap.size, 0, none⟩), .pointer (some ⟨w.heap.size + 1, 0, none⟩), .slice none 0 0, .int .i64 0, .pointer (some ⟨w1.heap.size, 0, none⟩), .pointer (some ⟨qb, 0, none⟩), sheetV (ofSh s) ot cap, .bool true, .bool false, sheetV (ofSh s) ot cap, .func (.func 123) #[] #[.pointer (some ⟨w1.heap.size + 1, 0, none⟩)], x, undef, undef, undef, undef, undef, undef, undef, undef], defers := [] })
  (PotAt.put s wA ot cap _) ?assign ?body ?norm ?stop
 case assign =>
  rintro l m k I x W hk hj ⟨mm, base, om, cm, hm, rfl, ho, hI1, hb⟩ hI K hK
  have Hk := Lib.hid (hK _ _ (keeps_ext ((Ext.refl W).alloc (.cells (potC s ot cap om mm.length cm) 108))) (Mv.of_ext ((Ext.refl W).alloc (.cells (potC s ot cap om mm.length cm) 108))) (NoneYet.steady s (mayOf s) wA _ _ _ _ _ hj (Mv.of_ext ((Ext.refl W).alloc _)) fun i hi => ⟨.inl hi, Nat.lt_of_lt_of_le (hI i hi).2 (by simp)⟩) (PotAt.start s wA hm ho hI1 hb hI hj.1.size))
  clear hK
  gi_wp2
  exact Hk.out
 case body =>
  intro l m k I x a' W hk hj hp hI
  obtain ⟨mm, base, om, cm, qb, hm, rfl, rfl, ho, hI1, hb, hpb, hqI, hqA, hqW⟩ := hp
  have hmM : IsMix s mm := (mem_allMix G.out).1 (List.mem_of_getElem? hm)
  have R := Lib.hid (RK.out mm hmM om cm W (H.out.ext (HA.out.trans hj.1)) (own_ints ho))
  have c0 := hpb 0 _ rfl; have c1 := hpb 1 _ rfl; have c2 := hpb 2 _ rfl; have c3 := hpb 3 _ rfl; have c4 := hpb 4 _ rfl; have c5 := hpb 5 _ rfl; have c6 := hpb 6 _ rfl; have c7 := hpb 7 _ rfl; have c8 := hpb 8 _ rfl; have c9 := hpb 9 _ rfl; have c10 := hpb 10 _ rfl; have c11 := hpb 11 _ rfl; have c12 := hpb 12 _ rfl; have c13 : World.cell? W ⟨qb, 13, none⟩ = some (.slice om mm.length cm) := hpb 13 _ rfl
  have ci := cell_ext hj.1 Hfn.out
  have hgk : (allMix s.tins.length)[k] = mm := (List.getElem?_eq_some_iff.1 hm).2
  have Hgk := Lib.hid hgk
  have Ho := Lib.hid ho
  have Hj := Lib.hid hj
  have hWA := hj.1.size
  clear ho hj hm hpb hgk hmM
  cases hP : mayOf s mm
  ·rw [hP] at R
   have Hn := Lib.hid (take_no hk Hj.out.2.2 (by rw [Hgk.out]; exact hP))
   clear hP
   gi_wp2_with (first | (refine ⟨trivial, (fun h => by cases h), ?_⟩; gi_at_call 90; refine (CallsIn.inRound l (callsIn_wide.2 R.out)).mono ?_; rintro e w5 ⟨rfl, hE5⟩; have HE5 := Lib.hid hE5; clear hE5))
   exact ⟨keeps_ext HE5.out, Mv.of_ext HE5.out, Hj.out.1.trans HE5.out, Hj.out.2.1, Hn.out⟩
  ·rw [hP] at R
   have Hn := Lib.hid (find_hit hk Hj.out.2.2 (by rw [Hgk.out]; exact hP))
   clear hP
   gi_wp2_with (first | (refine ⟨trivial, (fun h => by cases h), ?_⟩; gi_at_call 90; refine (CallsIn.inRound l (callsIn_wide.2 R.out)).mono ?_; rintro e w5 ⟨rfl, hE5⟩; have HE5 := Lib.hid hE5; have c13' := cell_ext hE5 c13; have cq := cell_ext (Hj.out.1.trans hE5) Hq0.out; have cqf := (frozen_ext (p := ⟨w1.heap.size, 0, none⟩) (Hj.out.1.trans hE5) (by simp; omega)).trans Hqf.out; clear hE5))
   refine ⟨(keeps_ext HE5.out).trans (KeepsOthers.setCell _ _ _), (Mv.of_ext HE5.out).trans (Mv.of_grown ((Turned.refl w1.heap.size w5).set 0 _) fun i e => ?_), rfl, (Turned.of_ext (Hj.out.1.trans HE5.out)).set 0 _, mm, _, by rw [Hn.out, Hgk.out], by go_simp, ((Ho.out.ext HE5.out).turned ((Turned.refl w1.heap.size w5).set 0 _) (by omega)).low hb⟩
   cases e
   rintro (e | e)
   ·have := Hj.out.2.1 _ e; omega
   ·exact e.2 rfl
 case norm =>
  intro D I W hj hD hK
  have hn : (allMix s.tins.length).find? (mayOf s) = none := find_no fun x hx => hj.2.2 x (by rwa [List.take_length])
  have Hn := Lib.hid hn
  have cq := cell_ext hj.1 Hq0.out
  have e0 := eq29n
  have HW := Lib.hid (HA.out.trans hj.1)
  have HK := Lib.hid hK
  have hA := HA.out.size
  clear hn hj hK
  go_wp2
  try rw [Exit.noGoto_ret]
  refine ⟨by simp, .inl ⟨_, _, rfl, run_takeDeferred HK.out, ?_⟩⟩
  exact ⟨_, results_tmp2 rfl _ _ _, Mv.ext HW.out (putObj_mv W D _) fun i e => by rw [e]; exact Nat.le_trans hA hD, by rw [Hn.out]; rfl⟩
 case stop =>
  rintro D c W ⟨rfl, hT, mm, x, hf, hx, ho⟩ hD hK
  have hmM : IsMix s mm := (mem_allMix G.out).1 (List.mem_of_find?_eq_some hf)
  have h1 := G.out.len1
  obtain ⟨g, c, rfl, hc⟩ := own_some (n := mm.length - 1) ho (by rw [List.length_map, upL_length, hmM.len]; omega)
  have Hf := Lib.hid hf
  have Ho := Lib.hid ho
  have HT := Lib.hid hT
  have HK := Lib.hid hK
  have hA := HA.out.size
  have e0 := eq29s
  clear hf ho hT hK hmM
  go_wp2
  try rw [Exit.noGoto_ret]
  refine ⟨by simp, .inl ⟨_, _, rfl, run_takeDeferred HK.out, ?_⟩⟩
  have hE : Ext w W := ext_own HA.out HT.out (by omega)
  refine ⟨_, results_tmp2 rfl _ _ _, Mv.ext hE (putObj_mv W D _) fun i e => by rw [e]; exact Nat.le_trans hA hD, ?_⟩
  rw [Hf.out]
  exact ⟨_, rfl, (own_put Ho.out HK.out rfl).ints⟩

end Go.Proofs.YtjpekonfjihcoaaGreatDoor
/- Contract: Count. No condition beyond sheets as defined. -/
namespace Go.Proofs.YtjpekonfjihcoaaGreatDoor
open Go.RowKit Go.My Go.TintM Go.Shelf
attribute [local go_sem] Oper.semAt_some

theorem Turned_mv {q : Nat} {wA W W' : World} {I : Nat → Prop} (h : Turned q wA W) (hI : ∀ i, I i → wA.heap.size ≤ i) (hM : Mv I W W') : Turned q wA W' :=
 ⟨hM.os.trans h.os, hM.tape.trans h.tape, hM.output.trans h.output, Nat.le_trans h.size hM.size, fun i hi hne => (hM.block i (Nat.lt_of_lt_of_le hi h.size) fun k => by have := hI i k; omega).trans (h.block i hi hne)⟩

section
variable (s : Sh) (q : Nat) (wA : World)
def cntTo (k : Nat) : Nat := (((allMix s.tins.length).take k).filter (surely s)).length
/-- How many there are so far lies in the variable. -/
structure CountIn (k : Nat) (I : Nat → Prop) (W : World) : Prop where
 turned : Turned q wA W
 own : ∀ i, I i → wA.heap.size ≤ i
 cell : W.cell? ⟨q, 0, none⟩ = some (.int .i64 (cntTo s k : Nat))
 frozen : W.frozen? ⟨q, 0, none⟩ = false
theorem CountIn.steady (hq : q < wA.heap.size) : Steady (CountIn s q wA) := fun k I I' W W' h hM hI' => by
 have hn : ¬ I q := fun k => by have := h.own q k; omega
 refine ⟨Turned_mv h.turned h.own hM, fun i hi => ?_, hM.cell hn h.cell, (hM.frozen hn (World.block_lt_of_cell? _ _ h.cell)).trans h.frozen⟩
 rcases (hI' i hi).1 with k | k
 ·exact h.own i k
 ·exact Nat.le_trans h.turned.size k
theorem CountIn.put (hq : q < wA.heap.size) (k : Nat) (I : Nat → Prop) (W : World) (l : Nat) (o o' : Obj) (h : CountIn s q wA k I W) (hl : wA.heap.size ≤ l) (_ : W.heap[l]? = some o) (_ : o.isCells = false) : CountIn s q wA k I (W.putObj l o') := by
 have hM := putObj_mv W l o'
 have hn : ¬ q = l := by omega
 exact ⟨h.turned.own (grownBy_putObj' W l o') hl, h.own, hM.cell hn h.cell, (hM.frozen hn (World.block_lt_of_cell? _ _ h.cell)).trans h.frozen⟩
end

theorem sCount_any (s : Sh) (g : Fine s) (ot : Option Addr) (cap : Nat) (w : World) (h : TinsAt w ot (ofSh s).tins) :
  Calls Tryz.prog 40 #[sheetV (ofSh s) ot cap] w fun e w' => e = .returned (.tuple #[.int .i64 (countOf s : Nat), .int .i64 0]) ∧ Ext w w' := by
 have hl : (ofSh s).tins.length ≤ 9223372036854775807 := by rw [tins_len]; have := g.len2; omega
 have R72 := Lib.hid (fun W (hW : Ext w W) => isSheet_any (ofSh s) ot cap W (h.ext hW) hl)
 rw [sheet_of g] at R72
 have RK := Lib.hid (fun m (hm : IsMix s m) om cm W (hW : TinsAt W ot (ofSh s).tins) (hi : IntsAt W om (upL m)) => surely_call s g m hm ot cap om cm W hW hi)
 have H := Lib.hid h
 have G := Lib.hid g
 clear h hl g
 refine (callsIn_wide (n := 3)).1 (callsIn_of_wp_marks Tryz.func40 rfl trivial (wpIn_wide.2 ?_))
 simp only [Tryz.ntmps40, List.size_toArray, List.length_cons, List.length_nil, Nat.reduceAdd, Nat.reduceSub, Array.replicate_succ, Array.replicate_zero, List.push_toArray, List.append_toArray, List.nil_append, List.cons_append]
 go_wp2_with (first | (go_at_call 72; refine (R72.out _ ((Ext.refl w).alloc _)).mono ?_; rintro e w1 ⟨rfl, hE1⟩; have HX := Lib.hid (((Ext.refl w).alloc (.cells (sheetC (ofSh s) ot cap) 28)).trans hE1); have HS := Lib.hid ((SheetBox.new w (ofSh s) ot cap).ext hE1); have l0 : w.heap.size < w1.heap.size := (by have := hE1.size; simp at this; omega); clear hE1; have c0 := HS.out 0 _ rfl; have c1 := HS.out 1 _ rfl; have c2 := HS.out 2 _ rfl; have c3 := HS.out 3 _ rfl; have c4 := HS.out 4 _ rfl; have c5 := HS.out 5 _ rfl; have c6 := HS.out 6 _ rfl; have c7 := HS.out 7 _ rfl; have c8 := HS.out 8 _ rfl; have c9 := HS.out 9 _ rfl; have c10 := HS.out 10 _ rfl; have c11 := HS.out 11 _ rfl; have c12 := HS.out 12 _ rfl) | (go_at_call 91; refine (mixes_any _ _).mono ?_; rintro e w2 ⟨rfl, rfl⟩))
 obtain ⟨wA, hwA⟩ : ∃ wA, wA = (w1.alloc (.cells #[.int .i64 0] 3)).alloc (.cells (sheetC (ofSh s) ot cap) 28) := ⟨_, rfl⟩
 have hXA : Ext w1 wA := by rw [hwA]; exact ((Ext.refl w1).alloc _).alloc _
 have hq0 : wA.cell? ⟨w1.heap.size, 0, none⟩ = some (.int .i64 0) := by rw [hwA]; go_simp
 have hqf : wA.frozen? ⟨w1.heap.size, 0, none⟩ = false := by rw [hwA]; go_simp
 have hsz : wA.heap.size = w1.heap.size + 2 := by rw [hwA]; simp
 have hsb : SheetBox wA (w1.heap.size + 1) (ofSh s) ot cap := by
  rw [hwA]
  have := SheetBox.new (w1.alloc (.cells #[.int .i64 0] 3)) (ofSh s) ot cap
  rwa [World.size_alloc] at this
 have HA := Lib.hid (HX.out.trans hXA)
 have HIt := Lib.hid (iter_any s G.out ot cap (w1.heap.size + 1) (fun i => i = w1.heap.size) wA (by omega) (by omega) hsb)
 have h0 : CountIn s w1.heap.size wA 0 (fun _ => False) wA := ⟨Turned.refl _ _, fun _ h => h.elim, by rw [hq0]; simp [cntTo], hqf⟩
 rw [← hwA]
 clear hwA hq0 hqf c0 c1 c2 c3 c4 c5 c6 c7 c8 c9 c10 c11 c12 hsb HS
 refine wp_rangeFunc_each (gf := 123) (lb := #[.pointer (some ⟨w1.heap.size + 1, 0, none⟩)]) rfl (enters_of Tryz.func123 (by kernel_rfl) rfl) (allMix s.tins.length).length (fun i => i = w1.heap.size) (MixP s ot cap wA.heap.size)
  (CountIn s w1.heap.size wA) (CountIn.steady s w1.heap.size wA (by omega)) (CountIn.put s w1.heap.size wA (by omega)) (fun _ _ => False) (fun _ _ _ _ _ h => h.elim) h0 HIt.out
  (PotAt s wA ot cap fun qb x => { tmps := #[sheetV (ofSh s) ot cap, .pointer (some ⟨w.heap.size, 0, none⟩), .int .i64 0, .int .i64 0, .pointer (some ⟨w1.heap.size, 0, none⟩), .pointer (some ⟨qb, 0, none⟩), sheetV (ofSh s) ot cap, .bool true, .bool false, sheetV (ofSh s) ot cap, .func (.func 123) #[] #[.pointer (some ⟨w1.heap.size + 1, 0, none⟩)], x, undef, undef, undef, undef, undef], defers := [] })
  (PotAt.put s wA ot cap _) ?assign ?body ?norm ?stop
 case assign =>
  rintro l m k I x W hk hj ⟨mm, base, om, cm, hm, rfl, ho, hI1, hb⟩ hI K hK
  have Hk := Lib.hid (hK _ _ (keeps_ext ((Ext.refl W).alloc (.cells (potC s ot cap om mm.length cm) 108))) (Mv.of_ext ((Ext.refl W).alloc (.cells (potC s ot cap om mm.length cm) 108))) (CountIn.steady s w1.heap.size wA (by omega) _ _ _ _ _ hj (Mv.of_ext ((Ext.refl W).alloc _)) fun i hi => ⟨.inl hi, Nat.lt_of_lt_of_le (hI i hi).2 (by simp)⟩) (PotAt.start s wA hm ho hI1 hb hI hj.turned.size))
  clear hK
  gi_wp2
  exact Hk.out
 case body =>
  intro l m k I x a' W hk hj hp hI
  obtain ⟨mm, base, om, cm, qb, hm, rfl, rfl, ho, hI1, hb, hpb, hqI, hqA, hqW⟩ := hp
  have hmM : IsMix s mm := (mem_allMix G.out).1 (List.mem_of_getElem? hm)
  have hEW : Ext w W := ext_own HA.out hj.turned (by have := HX.out.size; omega)
  have R := Lib.hid (RK.out mm hmM om cm W (H.out.ext hEW) (own_ints ho))
  have c0 := hpb 0 _ rfl; have c1 := hpb 1 _ rfl; have c2 := hpb 2 _ rfl; have c3 := hpb 3 _ rfl; have c4 := hpb 4 _ rfl; have c5 := hpb 5 _ rfl; have c6 := hpb 6 _ rfl; have c7 := hpb 7 _ rfl; have c8 := hpb 8 _ rfl; have c9 := hpb 9 _ rfl; have c10 := hpb 10 _ rfl; have c11 := hpb 11 _ rfl; have c12 := hpb 12 _ rfl; have c13 : World.cell? W ⟨qb, 13, none⟩ = some (.slice om mm.length cm) := hpb 13 _ rfl
  have hgk : (allMix s.tins.length)[k] = mm := (List.getElem?_eq_some_iff.1 hm).2
  have Hj := Lib.hid hj
  have hq := hj.cell
  have hqf := hj.frozen
  have hcs := count_step (P := surely s) hk
  rw [hgk] at hcs
  have hcl : cntTo s k ≤ 494 := Nat.le_trans (List.length_filter_le _ _) (by rw [List.length_take]; have := (allMix_len ⟨s.tins.length, by have := G.out.len2; omega⟩ G.out.len1).1; simp only at this; omega)
  have Hcs := Lib.hid (show cntTo s (k + 1) = cntTo s k + if surely s mm = true then 1 else 0 from hcs)
  clear ho hj hm hpb hgk hmM hcs hEW
  generalize hC : cntTo s k = C at *
  cases hP : surely s mm
  ·rw [hP] at R Hcs
   clear hP
   gi_wp2_with (first | (refine ⟨trivial, (fun h => by cases h), ?_⟩; gi_at_call 89; refine (CallsIn.inRound l (callsIn_wide.2 R.out)).mono ?_; rintro e w5 ⟨rfl, hE5⟩; have HE5 := Lib.hid hE5; clear hE5))
   exact ⟨keeps_ext HE5.out, Mv.of_ext HE5.out, ⟨Turned.trans Hj.out.turned (Turned.of_ext HE5.out), Hj.out.own, by rw [Hcs.out]; exact cell_ext HE5.out hq, (frozen_ext (p := ⟨w1.heap.size, 0, none⟩) HE5.out (World.block_lt_of_cell? _ _ hq)).trans hqf⟩⟩
  ·rw [hP] at R Hcs
   clear hP
   have qs : IntKind.i64.wrap ((C : Int) + 1) = ((C + 1 : Nat) : Int) := by rw [IntWalk.i64_in _ (by omega)]; omega
   gi_wp2_with (first | (refine ⟨trivial, (fun h => by cases h), ?_⟩; gi_at_call 89; refine (CallsIn.inRound l (callsIn_wide.2 R.out)).mono ?_; rintro e w5 ⟨rfl, hE5⟩; have HE5 := Lib.hid hE5; have cq := cell_ext hE5 hq; have cqf := (frozen_ext (p := ⟨w1.heap.size, 0, none⟩) hE5 (by simp; omega)).trans hqf; clear hE5))
   refine ⟨(keeps_ext HE5.out).trans (KeepsOthers.setCell _ _ _), (Mv.of_ext HE5.out).trans (Mv.of_grown ((Turned.refl w1.heap.size w5).set 0 _) fun i e => ?_), ⟨Turned.trans Hj.out.turned ((Turned.of_ext HE5.out).set 0 _), Hj.out.own, by rw [Hcs.out]; go_simp, by go_simp⟩⟩
   cases e
   rintro (e | e)
   ·have := Hj.out.own _ e; omega
   ·exact e.2 rfl
 case norm =>
  intro D I W hj hD hK
  have hn : cntTo s (allMix s.tins.length).length = countOf s := by simp [cntTo, countOf]
  have Hn := Lib.hid hn
  have cq := hj.cell
  have HW := Lib.hid (ext_own HA.out hj.turned (by have := HX.out.size; omega))
  have HK := Lib.hid hK
  have hA := HA.out.size
  rw [hn] at cq
  clear hn hj hK
  go_wp2
  refine ⟨by simp, .inl ⟨_, _, rfl, run_takeDeferred HK.out, ?_⟩⟩
  exact ⟨_, results_tmp2 rfl _ _ _, rfl, Mv.ext HW.out (putObj_mv W D _) fun i e => by rw [e]; exact Nat.le_trans hA hD⟩
 case stop =>
  rintro D c W h
  exact h.elim

theorem sCount_bad (S : SI) (ot : Option Addr) (cap : Nat) (w : World) (h : TinsAt w ot S.tins) (hl : S.tins.length ≤ 9223372036854775807) (hb : sheetB S = false) :
  Calls Tryz.prog 40 #[sheetV S ot cap] w fun e w' => e = .returned (.tuple #[.int .i64 0, .int .i64 2]) ∧ Ext w w' := by
 have R72 := Lib.hid (fun W (hW : Ext w W) => isSheet_any S ot cap W (h.ext hW) hl)
 rw [hb] at R72
 clear h hl hb
 refine (callsIn_wide (n := 3)).1 (callsIn_of_wp_marks Tryz.func40 rfl trivial (wpIn_wide.2 ?_))
 simp only [Tryz.ntmps40, List.size_toArray, List.length_cons, List.length_nil, Nat.reduceAdd, Nat.reduceSub, Array.replicate_succ, Array.replicate_zero, List.push_toArray, List.append_toArray, List.nil_append, List.cons_append]
 go_wp2_with (first | (go_at_call 72; refine (R72.out _ ((Ext.refl w).alloc _)).mono ?_; rintro e w1 ⟨rfl, hE1⟩; have HX := Lib.hid (((Ext.refl w).alloc _).trans hE1); clear hE1))
 exact ⟨_, results_tmp2 rfl _ _ _, rfl, HX.out⟩

end Go.Proofs.YtjpekonfjihcoaaGreatDoor
