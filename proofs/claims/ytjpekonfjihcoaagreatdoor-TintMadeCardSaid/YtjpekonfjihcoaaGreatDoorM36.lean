/- Contracts and mathematics, joined: Near. Conditions stand with each. -/
import Derived.ArgAppend
import Derived.Below
import Derived.BigQuiet
import Derived.Deep.DeepCutAuto
import Derived.Deep.DeepFit
import Derived.Deep.LoopGhost
import Derived.Deep.QuietTactic
import Derived.Deep.RegionHeld
import Derived.Deep.RegionHeld3
import Derived.Deep.RegionWith
import Derived.Laws.EntriesVeiled
import Derived.Laws.OwnMore
import Derived.Lib.Hide
import Derived.LoopIn
import Derived.LoopNIn
import Derived.Maps.AppendAt
import Derived.Maps.Keyed
import Derived.Maps.OwnIn
import Derived.OrdersHeld
import Derived.OwnWalkIn
import Derived.RangeFuncBound
import Derived.RangeFuncCalls
import Derived.RangeFuncLeaves
import Derived.RangeFuncNested
import Derived.RegionIn
import Derived.Shelf.Abstract
import Derived.TacticsIn
import Derived.TacticsInMore
import Derived.Test.YtjpekonfjihcoaaGreatDoorProg
import Derived.WalkKit
import Derived.WalkLawsBesides
import Derived.WalkSpells
import Derived.Test.YtjpekonfjihcoaaGreatDoorM2
import Derived.Test.YtjpekonfjihcoaaGreatDoorM5
import Derived.Test.YtjpekonfjihcoaaGreatDoorM29
import Derived.Test.YtjpekonfjihcoaaGreatDoorM15
import Derived.Test.YtjpekonfjihcoaaGreatDoorM4
import Derived.Test.YtjpekonfjihcoaaGreatDoorM12
import Derived.Test.YtjpekonfjihcoaaGreatDoorM9
import Derived.Test.YtjpekonfjihcoaaGreatDoorM3
import Derived.Test.YtjpekonfjihcoaaGreatDoorM25
import Derived.Test.YtjpekonfjihcoaaGreatDoorM21
import Derived.Test.YtjpekonfjihcoaaGreatDoorM10
import Derived.Test.YtjpekonfjihcoaaGreatDoorM11
import Derived.Test.YtjpekonfjihcoaaGreatDoorM35
import Derived.Test.YtjpekonfjihcoaaGreatDoorM1
import Derived.Test.YtjpekonfjihcoaaGreatDoorM22
import Derived.Test.YtjpekonfjihcoaaGreatDoorM17
import Derived.Test.YtjpekonfjihcoaaGreatDoorM23
namespace Go.TintM
end Go.TintM
set_option maxRecDepth 100000
set_option maxHeartbeats 64000000
set_option linter.unusedVariables false
set_option linter.unusedSimpArgs false
/- Contract: Near, but for the best one. No condition beyond sheets as defined. -/
namespace Go.Proofs.YtjpekonfjihcoaaGreatDoor
open Go.RowKit Go.My Go.TintM Go.Shelf
attribute [local go_sem] Oper.semAt_some

theorem i124 : (Tryz.prog.info? 124).map (fun i => (i.zero, i.size, i.bytes)) = some (some (.agg #[.slice none 0 0, .int .i64 0]), 2, 32) := by kernel_rfl
theorem is_cell0 (w : World) (x y : Value) (t : TypeId) : (w.alloc (.cells #[x, y] t)).cell? ⟨w.heap.size, 0, none⟩ = some x := by go_simp
theorem is_cell1 (w : World) (x y : Value) (t : TypeId) : (w.alloc (.cells #[x, y] t)).cell? ⟨w.heap.size, 1, none⟩ = some y := by go_simp
theorem allMix_eight : ∀ t : Fin 5, 1 ≤ t.val → 8 ≤ (allMix t.val).length := by decide +kernel
abbrev offTl (s : Sh) (m : List Nat) : List Value := [.int .i64 (offOf s m)]

theorem sNear_any (s : Sh) (g : Fine s) (ot : Option Addr) (cap : Nat) (w : World) (h : TinsAt w ot (ofSh s).tins) :
  Calls Tryz.prog 47 #[sheetV (ofSh s) ot cap] w fun e w' => ∃ v, e = .returned (.tuple #[v, .int .i64 (offOf s (nearOf s)), .int .i64 0]) ∧ IsInts w' v (upL (nearOf s)) ∧ Ext w w' := by
 have hl : (ofSh s).tins.length ≤ 9223372036854775807 := by rw [tins_len]; have := g.len2; omega
 have R72 := Lib.hid (fun W (hW : Ext w W) => isSheet_any (ofSh s) ot cap W (h.ext hW) hl)
 rw [sheet_of g] at R72
 have RK := Lib.hid (fun m (hm : IsMix s m) om cm W (hW : TinsAt W ot (ofSh s).tins) (hi : IntsAt W om (upL m)) => off_any s g m hm ot cap om cm W hW hi)
 have H := Lib.hid h
 have G := Lib.hid g
 have hall := (allMix_len ⟨s.tins.length, by have := g.len2; omega⟩ g.len1).1
 have hall8 := allMix_eight ⟨s.tins.length, by have := g.len2; omega⟩ g.len1
 simp only at hall hall8
 clear h hl g
 refine (callsIn_wide (n := 3)).1 (callsIn_of_wp_marks Tryz.func47 rfl trivial (wpIn_wide.2 ?_))
 simp only [Tryz.ntmps47, List.size_toArray, List.length_cons, List.length_nil, Nat.reduceAdd, Nat.reduceSub, Array.replicate_succ, Array.replicate_zero, List.push_toArray, List.append_toArray, List.nil_append, List.cons_append]
 go_wp2_with (first | (go_at_call 72; refine (R72.out _ ((Ext.refl w).alloc _)).mono ?_; rintro e w1 ⟨rfl, hE1⟩; have HX := Lib.hid (((Ext.refl w).alloc (.cells (sheetC (ofSh s) ot cap) 28)).trans hE1); have HS := Lib.hid ((SheetBox.new w (ofSh s) ot cap).ext hE1); have l0 : w.heap.size < w1.heap.size := (by have := hE1.size; simp at this; omega); clear hE1; have c0 := HS.out 0 _ rfl; have c1 := HS.out 1 _ rfl; have c2 := HS.out 2 _ rfl; have c3 := HS.out 3 _ rfl; have c4 := HS.out 4 _ rfl; have c5 := HS.out 5 _ rfl; have c6 := HS.out 6 _ rfl; have c7 := HS.out 7 _ rfl; have c8 := HS.out 8 _ rfl; have c9 := HS.out 9 _ rfl; have c10 := HS.out 10 _ rfl; have c11 := HS.out 11 _ rfl; have c12 := HS.out 12 _ rfl) | (go_at_call 91; refine (mixes_any _ _).mono ?_; rintro e w2 ⟨rfl, rfl⟩))
 obtain ⟨wA, hwA⟩ : ∃ wA, wA = (w1.alloc (.cells #[.slice none 0 0] 121)).alloc (.cells (sheetC (ofSh s) ot cap) 28) := ⟨_, rfl⟩
 have hXA : Ext w1 wA := by rw [hwA]; exact ((Ext.refl w1).alloc _).alloc _
 have hq0 : wA.cell? ⟨w1.heap.size, 0, none⟩ = some (.slice none 0 0) := by rw [hwA]; go_simp
 have hqf : wA.frozen? ⟨w1.heap.size, 0, none⟩ = false := by rw [hwA]; go_simp
 have hsz : wA.heap.size = w1.heap.size + 2 := by rw [hwA]; simp
 have hsb : SheetBox wA (w1.heap.size + 1) (ofSh s) ot cap := by
  rw [hwA]
  have := SheetBox.new (w1.alloc (.cells #[.slice none 0 0] 121)) (ofSh s) ot cap
  rwa [World.size_alloc] at this
 have HA := Lib.hid (HX.out.trans hXA)
 have HIt := Lib.hid (iter_any s G.out ot cap (w1.heap.size + 1) (fun i => i = w1.heap.size) wA (by omega) (by omega) hsb)
 have h0 : TriedIn 124 (offTl s) 2 w1.heap.size wA ((allMix s.tins.length).take 0) (fun _ => False) wA := ⟨Turned.refl _ _, fun _ h => h.elim, hqf, _, [], hq0, World.ownsRow_nil _ _ _ _, (fun b hb => by cases hb), fun j l hl => by simp at hl⟩
 have hszl : w1.heap.size < wA.heap.size := by omega
 rw [← hwA]
 clear hsz hwA hq0 hqf c0 c1 c2 c3 c4 c5 c6 c7 c8 c9 c10 c11 c12 hsb HS
 refine wp_rangeFunc_each (gf := 123) (lb := #[.pointer (some ⟨w1.heap.size + 1, 0, none⟩)]) rfl (enters_of Tryz.func123 (by kernel_rfl) rfl) (allMix s.tins.length).length (fun i => i = w1.heap.size) (MixP s ot cap wA.heap.size)
  (fun k => TriedIn 124 (offTl s) 2 w1.heap.size wA ((allMix s.tins.length).take k)) (fun k I I' W W' h hM hI' => h.mv (by omega) hM hI') (fun k I W l o o' h hl ho hoc => h.put (by omega) hl ho hoc) (fun _ _ => False) (fun _ _ _ _ _ h => h.elim) h0 HIt.out
  (PotAtH s wA ot cap fun qb x => { tmps := #[sheetV (ofSh s) ot cap, .pointer (some ⟨w.heap.size, 0, none⟩), .slice none 0 0, .int .i64 0, .int .i64 0, .pointer (some ⟨w1.heap.size, 0, none⟩), .pointer (some ⟨qb, 0, none⟩), undef, sheetV (ofSh s) ot cap, .bool true, .bool false, sheetV (ofSh s) ot cap, .func (.func 123) #[] #[.pointer (some ⟨w1.heap.size + 1, 0, none⟩)], x, undef, undef, undef, undef, undef, undef, undef, undef, undef, undef, undef, undef, undef, undef], defers := [] })
  (PotAtH.put s wA ot cap _) ?assign ?body ?norm ?stop
 case assign =>
  rintro l m k I x W hk hj ⟨mm, base, om, cm, hm, rfl, ho, hI1, hb⟩ hI K hK
  have Hk := Lib.hid (hK _ _ (keeps_ext ((Ext.refl W).alloc (.cells (potC s ot cap om mm.length cm) 108))) (Mv.of_ext ((Ext.refl W).alloc (.cells (potC s ot cap om mm.length cm) 108))) (hj.mv (by omega) (Mv.of_ext ((Ext.refl W).alloc _)) fun i hi => ⟨.inl hi, Nat.lt_of_lt_of_le (hI i hi).2 (by simp)⟩) (PotAtH.start hm ho hI1 hb hI hj.turned.size))
  clear hK
  gi_wp2
  exact Hk.out
 case body =>
  intro l m k I x a' Wb hk hj hp hI
  obtain ⟨mm, base, om, cm, qb, hm, rfl, rfl, ho, hI1, hb, hpb, hqI, hqA⟩ := hp
  have hqW : qb < Wb.heap.size := (Array.getElem?_eq_some_iff.1 hpb).1
  have hmM : IsMix s mm := (mem_allMix G.out).1 (List.mem_of_getElem? hm)
  have hEW : Ext w Wb := ext_own HA.out hj.turned (by have := HX.out.size; omega)
  have R := Lib.hid (fun W (hW : Ext Wb W) => RK.out mm hmM om cm W (H.out.ext (hEW.trans hW)) ((own_ints ho).ext hW))
  have hoI : ∀ b, (Value.slice om mm.length cm).ownBlock = some b → ¬ I b := fun b hb hi => by
   have := (ho.lt b hb).1; have := hI1 b hi; omega
  have Ho := Lib.hid (And.intro (ho.low hb) hoI)
  have Hj := Lib.hid hj
  have Hpb := Lib.hid (pot_heap hpb)
  have Hph := Lib.hid hpb
  obtain ⟨v, xs, hv, hrow, hvI, hel⟩ := hj.var
  have hkl : ((allMix s.tins.length).take k).length = k := by rw [List.length_take]; omega
  have hk1 : (allMix s.tins.length).take (k + 1) = (allMix s.tins.length).take k ++ [mm] := by
   rw [List.take_succ_eq_append_getElem hk, (List.getElem?_eq_some_iff.1 hm).2]
  have hvc : ∃ oa c, v = .slice oa k c := by
   rcases hrow.2 with ⟨h1, h2⟩ | ⟨g, c, cur, h1, _⟩
   ·exact ⟨none, 0, by rw [h1, ← hkl, h2]⟩
   ·exact ⟨_, c, by rw [h1, hkl]⟩
  obtain ⟨oa, c, rfl⟩ := hvc
  have Hrow := Lib.hid hrow
  have Hrow0 := Lib.hid hrow
  rw [hkl] at Hrow
  have Hkl := Lib.hid hkl
  have Hnp := Lib.hid (pot_row hpb hrow (by decide))
  have Hel := Lib.hid (And.intro hvI hel)
  have Hk1 := Lib.hid hk1
  have hqf := hj.frozen
  clear ho hm hpb hmM hEW hj hrow hvI hel hk1 hkl
  refine wpIn_block ?_
  refine wpIn_region_planR (.take 1 <| .take 2 <| .take 3 <| .two 0 4 (.only 4 <| .take 5 <| .only 6 <| .only 7 <| .only 8 <| .done) (.take 5 <| .two 0 6 (.only 6 <| .only 7 <| .only 8 <| .done) (.only 0 <| .only 7 <| .only 8 <| .done))) (fun W => PotBox W qb s ot cap om mm.length cm) mixed (by kernel_rfl) (by kernel_rfl) rfl (fun _ _ d _ _ h => by cases d <;> exact h) (fun _ h => h) (Hpb.out.ext (Ext.refl Wb).drew) (by kernel_rfl) ?_
  repeat (refine planIn_take (v := ?_) rfl rfl (fun W hW => ?_) ?_; rotate_left; (focus (have c0 := hW 0 _ rfl; have c1 := hW 1 _ rfl; have c2 := hW 2 _ rfl; have c3 := hW 3 _ rfl; have c4 := hW 4 _ rfl; have c5 := hW 5 _ rfl; have c6 := hW 6 _ rfl; have c7 := hW 7 _ rfl; have c8 := hW 8 _ rfl; have c9 := hW 9 _ rfl; have c10 := hW 10 _ rfl; have c11 := hW 11 _ rfl; have c12 := hW 12 _ rfl; have c13 : World.cell? W ⟨qb, 13, none⟩ = some (.slice om mm.length cm) := hW 13 _ rfl; go_simp; first | exact rfl | (split <;> first | exact rfl | (exfalso; omega)) | done)); simp only [puts])
  refine planIn_two rfl rfl ?_ ?_
  ·intro K hK
   gi_wp2
   refine hK _ _ (Hpb.out.ext (Ext.refl Wb).drew) ?_
   refine planIn_walk rfl ?_; intro K hK
   gi_wp2_with (first | (refine ⟨trivial, (fun h => by cases h), ?_⟩; gi_at_call 93; refine (callsIn_wide.2 (R.out _ (Ext.refl Wb).drew)).mono ?_; rintro e w5 ⟨rfl, hE5⟩; have X1 := (Ext.refl Wb).drew.trans hE5; clear hE5))
   refine hK _ _ (Hpb.out.ext X1) ?_
   repeat (refine planIn_take (v := ?_) rfl rfl (fun W hW => ?_) ?_; rotate_left; (focus (skip; go_simp; first | exact rfl | (split <;> first | exact rfl | (exfalso; omega)) | done)); simp only [puts])
   refine planIn_walk rfl ?_; intro K hK
   gi_wp2
   have X2 := X1.alloc (.cells #[.slice om mm.length cm, .int .i64 (offOf s mm)] 124)
   refine hK _ _ (Hpb.out.ext X2) ?_
   refine planIn_walk rfl ?_; intro K hK
   obtain ⟨ii, hi1, hi2, hi3, hi4⟩ := info_parts i124
   have hn1 := is_cell0 w5 (.slice om mm.length cm) (.int .i64 (offOf s mm)) 124
   have hn2 := is_cell1 w5 (.slice om mm.length cm) (.int .i64 (offOf s mm)) 124
   gi_wp2_with (first | (gi_at_builtin; refine wpListIn_append_own_at _ rfl _ _ 121 rfl wA.heap.size 124 ii _ 2 32 Tryz.underlying121 hi1 hi2 hi3 hi4 rfl (by decide) _ k xs rfl (row_mv Hrow.out (Mv.of_ext (I := fun _ => False) X2) (fun _ _ h => h)) ⟨w5.heap.size, 0, none⟩ 1 1 [.slice om mm.length cm, .int .i64 (offOf s mm)] rfl rfl ?_ (by simp [Value.oneCell']) (by unfold maxLen; omega) (by omega) (Nat.le_trans Hj.out.turned.size X2.size) ?_))
   ·intro j u hu
    match j, hu with
    | 0, hu => simp at hu; subst hu; simp [Addr.add]
    | 1, hu => simp at hu; subst hu; simp [Addr.add]
   ·intro v' w7 hr7 hg7 _ hat
    have hm7 := TriedIn.more (e := 124) (by decide) (by omega) Hj.out (fun i hi => (hI i hi).2) X2 hv Hrow0.out Hel.out.1 Hel.out.2 ((Ho.out.1).ext X2) Ho.out.2 (by rw [Hkl.out]; exact hr7) hg7 (by rw [World.size_alloc]; exact hat) (by decide)
    rw [← Hk1.out] at hm7
    obtain ⟨g7, c7, hv7⟩ : ∃ g c, v' = .slice (some ⟨g, 0, none⟩) (k + 1) c := by
     rcases hr7.2 with ⟨_, h2⟩ | ⟨g, c, cur, h1, _⟩
     ·omega
     ·exact ⟨g, c, h1⟩
    subst hv7
    have Hm7 := Lib.hid hm7
    have hE7 : Mv (fun i => (Value.slice oa k c).ownBlock = some i) (w5.alloc (.cells #[.slice om mm.length cm, .int .i64 (offOf s mm)] 124)) w7 := Mv.of_grown hg7 fun i h => h
    have hp7 : PotBox w7 qb s ot cap om mm.length cm := fun i u hu => hE7.cell Hnp.out ((Hpb.out.ext X2) i u hu)
    have hqb : ¬ (Value.slice oa k c).ownBlock = some w1.heap.size := fun h => by have := (World.ownsRow.lt Hrow.out _ h).1; omega
    have cq7 : w7.cell? ⟨w1.heap.size, 0, none⟩ = some (.slice oa k c) := hE7.cell hqb (cell_ext X2 hv)
    have cf7 : w7.frozen? ⟨w1.heap.size, 0, none⟩ = false := (hE7.frozen hqb (Nat.lt_of_lt_of_le Hj.out.lt X2.size)).trans ((frozen_ext X2 Hj.out.lt).trans hqf)
    clear hm7 hr7 hg7 hat hn1 hn2 hE7 hqb
    refine hK _ _ hp7 ?_
    refine planIn_walk rfl ?_; intro K hK
    gi_wp2
    refine hK _ _ (hp7.turned ((Turned.refl w1.heap.size w7).set 0 _) (by omega)) ?_
    refine planIn_done ?_
    exact ⟨Hm7.out.2.2, Hm7.out.2.1, Hm7.out.1⟩
  ·intro K hK
   gi_wp2_with (first | (refine ⟨trivial, (fun h => by cases h), ?_⟩; gi_at_call 93; refine (callsIn_wide.2 (R.out _ (Ext.refl Wb).drew)).mono ?_; rintro e w5 ⟨rfl, hE5⟩; have X1 := (Ext.refl Wb).drew.trans hE5; clear hE5))
   refine hK _ _ (Hpb.out.ext X1) ?_
   repeat (refine planIn_take (v := ?_) rfl rfl (fun W hW => ?_) ?_; rotate_left; (focus (skip; go_simp; first | exact rfl | (split <;> first | exact rfl | (exfalso; omega)) | done)); simp only [puts])
   have hv1 := cell_ext X1 hv
   refine planIn_two rfl rfl ?_ ?_
   ·intro K hK
    gi_wp2
    refine hK _ _ (Hpb.out.ext X1) ?_
    clear hv1
    refine planIn_walk rfl ?_; intro K hK
    gi_wp2
    have X2 := X1.alloc (.cells #[.slice om mm.length cm, .int .i64 (offOf s mm)] 124)
    refine hK _ _ (Hpb.out.ext X2) ?_
    refine planIn_walk rfl ?_; intro K hK
    obtain ⟨ii, hi1, hi2, hi3, hi4⟩ := info_parts i124
    have hn1 := is_cell0 w5 (.slice om mm.length cm) (.int .i64 (offOf s mm)) 124
    have hn2 := is_cell1 w5 (.slice om mm.length cm) (.int .i64 (offOf s mm)) 124
    gi_wp2_with (first | (gi_at_builtin; refine wpListIn_append_own_at _ rfl _ _ 121 rfl wA.heap.size 124 ii _ 2 32 Tryz.underlying121 hi1 hi2 hi3 hi4 rfl (by decide) _ k xs rfl (row_mv Hrow.out (Mv.of_ext (I := fun _ => False) X2) (fun _ _ h => h)) ⟨w5.heap.size, 0, none⟩ 1 1 [.slice om mm.length cm, .int .i64 (offOf s mm)] rfl rfl ?_ (by simp [Value.oneCell']) (by unfold maxLen; omega) (by omega) (Nat.le_trans Hj.out.turned.size X2.size) ?_))
    ·intro j u hu
     match j, hu with
     | 0, hu => simp at hu; subst hu; simp [Addr.add]
     | 1, hu => simp at hu; subst hu; simp [Addr.add]
    ·intro v' w7 hr7 hg7 _ hat
     have hm7 := TriedIn.more (e := 124) (by decide) (by omega) Hj.out (fun i hi => (hI i hi).2) X2 hv Hrow0.out Hel.out.1 Hel.out.2 ((Ho.out.1).ext X2) Ho.out.2 (by rw [Hkl.out]; exact hr7) hg7 (by rw [World.size_alloc]; exact hat) (by decide)
     rw [← Hk1.out] at hm7
     obtain ⟨g7, c7, hv7⟩ : ∃ g c, v' = .slice (some ⟨g, 0, none⟩) (k + 1) c := by
      rcases hr7.2 with ⟨_, h2⟩ | ⟨g, c, cur, h1, _⟩
      ·omega
      ·exact ⟨g, c, h1⟩
     subst hv7
     have Hm7 := Lib.hid hm7
     have hE7 : Mv (fun i => (Value.slice oa k c).ownBlock = some i) (w5.alloc (.cells #[.slice om mm.length cm, .int .i64 (offOf s mm)] 124)) w7 := Mv.of_grown hg7 fun i h => h
     have hp7 : PotBox w7 qb s ot cap om mm.length cm := fun i u hu => hE7.cell Hnp.out ((Hpb.out.ext X2) i u hu)
     have hqb : ¬ (Value.slice oa k c).ownBlock = some w1.heap.size := fun h => by have := (World.ownsRow.lt Hrow.out _ h).1; omega
     have cq7 : w7.cell? ⟨w1.heap.size, 0, none⟩ = some (.slice oa k c) := hE7.cell hqb (cell_ext X2 hv)
     have cf7 : w7.frozen? ⟨w1.heap.size, 0, none⟩ = false := (hE7.frozen hqb (Nat.lt_of_lt_of_le Hj.out.lt X2.size)).trans ((frozen_ext X2 Hj.out.lt).trans hqf)
     clear hm7 hr7 hg7 hat hn1 hn2 hE7 hqb
     refine hK _ _ hp7 ?_
     refine planIn_walk rfl ?_; intro K hK
     gi_wp2
     refine hK _ _ (hp7.turned ((Turned.refl w1.heap.size w7).set 0 _) (by omega)) ?_
     refine planIn_done ?_
     exact ⟨Hm7.out.2.2, Hm7.out.2.1, Hm7.out.1⟩
   ·intro K hK
    clear hv1
    gi_wp2
    have X2 := X1.alloc (.cells #[.slice om mm.length cm, .int .i64 (offOf s mm)] 124)
    refine hK _ _ (Hpb.out.ext X2) ?_
    refine planIn_walk rfl ?_; intro K hK
    have hv1 := cell_ext X2 hv
    gi_wp2
    refine hK _ _ (Hpb.out.ext X2) ?_
    clear hv1
    refine planIn_walk rfl ?_; intro K hK
    obtain ⟨ii, hi1, hi2, hi3, hi4⟩ := info_parts i124
    have hn1 := is_cell0 w5 (.slice om mm.length cm) (.int .i64 (offOf s mm)) 124
    have hn2 := is_cell1 w5 (.slice om mm.length cm) (.int .i64 (offOf s mm)) 124
    gi_wp2_with (first | (gi_at_builtin; refine wpListIn_append_own_at _ rfl _ _ 121 rfl wA.heap.size 124 ii _ 2 32 Tryz.underlying121 hi1 hi2 hi3 hi4 rfl (by decide) _ k xs rfl (row_mv Hrow.out (Mv.of_ext (I := fun _ => False) X2) (fun _ _ h => h)) ⟨w5.heap.size, 0, none⟩ 1 1 [.slice om mm.length cm, .int .i64 (offOf s mm)] rfl rfl ?_ (by simp [Value.oneCell']) (by unfold maxLen; omega) (by omega) (Nat.le_trans Hj.out.turned.size X2.size) ?_))
    ·intro j u hu
     match j, hu with
     | 0, hu => simp at hu; subst hu; simp [Addr.add]
     | 1, hu => simp at hu; subst hu; simp [Addr.add]
    ·intro v' w7 hr7 hg7 _ hat
     have hm7 := TriedIn.more (e := 124) (by decide) (by omega) Hj.out (fun i hi => (hI i hi).2) X2 hv Hrow0.out Hel.out.1 Hel.out.2 ((Ho.out.1).ext X2) Ho.out.2 (by rw [Hkl.out]; exact hr7) hg7 (by rw [World.size_alloc]; exact hat) (by decide)
     rw [← Hk1.out] at hm7
     obtain ⟨g7, c7, hv7⟩ : ∃ g c, v' = .slice (some ⟨g, 0, none⟩) (k + 1) c := by
      rcases hr7.2 with ⟨_, h2⟩ | ⟨g, c, cur, h1, _⟩
      ·omega
      ·exact ⟨g, c, h1⟩
     subst hv7
     have Hm7 := Lib.hid hm7
     have hE7 : Mv (fun i => (Value.slice oa k c).ownBlock = some i) (w5.alloc (.cells #[.slice om mm.length cm, .int .i64 (offOf s mm)] 124)) w7 := Mv.of_grown hg7 fun i h => h
     have hp7 : PotBox w7 qb s ot cap om mm.length cm := fun i u hu => hE7.cell Hnp.out ((Hpb.out.ext X2) i u hu)
     have hqb : ¬ (Value.slice oa k c).ownBlock = some w1.heap.size := fun h => by have := (World.ownsRow.lt Hrow.out _ h).1; omega
     have cq7 : w7.cell? ⟨w1.heap.size, 0, none⟩ = some (.slice oa k c) := hE7.cell hqb (cell_ext X2 hv)
     have cf7 : w7.frozen? ⟨w1.heap.size, 0, none⟩ = false := (hE7.frozen hqb (Nat.lt_of_lt_of_le Hj.out.lt X2.size)).trans ((frozen_ext X2 Hj.out.lt).trans hqf)
     clear hm7 hr7 hg7 hat hn1 hn2 hE7 hqb
     refine hK _ _ hp7 ?_
     refine planIn_walk rfl ?_; intro K hK
     gi_wp2
     refine hK _ _ (hp7.turned ((Turned.refl w1.heap.size w7).set 0 _) (by omega)) ?_
     refine planIn_done ?_
     exact ⟨Hm7.out.2.2, Hm7.out.2.1, Hm7.out.1⟩
 case norm =>
  intro D I W hj hD hK
  have hN : (allMix s.tins.length).take (allMix s.tins.length).length = allMix s.tins.length := List.take_length
  rw [hN] at hj
  obtain ⟨g, c, hq, hgl, hlc, hcm, E, hE⟩ := hj.cells (by omega)
  obtain ⟨n, hn⟩ : ∃ n, (allMix s.tins.length).length = n + 1 := ⟨(allMix s.tins.length).length - 1, by omega⟩
  have hb := best_any n g c (fun j => (E j).1) (fun j => ((allMix s.tins.length).getD j []).length) (fun j => (E j).2) (fun j => offOf s ((allMix s.tins.length).getD j [])) W hgl
   (fun j hj => by have := (hE j (by omega)).1 0 _ rfl; rwa [Nat.mul_comm]) (fun j hj => by have := (hE j (by omega)).1 1 _ rfl; rwa [Nat.mul_comm]) (by omega) hcm (by omega)
  have hi := argm_le (fun j => offOf s ((allMix s.tins.length).getD j [])) n
  have hbest : nearOf s = (allMix s.tins.length).getD (argm (fun j => offOf s ((allMix s.tins.length).getD j [])) n) [] := by
   rw [← argm_best (offOf s) (allMix s.tins.length) [] n (by omega)]
   unfold nearOf
   cases hL : allMix s.tins.length with
   | nil => rw [hL] at hn; simp at hn
   | cons x l =>
    rw [hL] at hn
    simp only [List.length_cons, Nat.add_right_cancel_iff] at hn
    subst hn
    simp [List.getD]
  have ho := (hE (argm (fun j => offOf s ((allMix s.tins.length).getD j [])) n) (by omega)).2
  generalize argm (fun j => offOf s ((allMix s.tins.length).getD j [])) n = i at *
  rw [← hbest] at ho hb
  have HW := Lib.hid (ext_own HA.out hj.turned (by have := HX.out.size; omega))
  have Ho := Lib.hid ho
  have Hb := Lib.hid hb
  have HK := Lib.hid hK
  have hA := HA.out.size
  rw [hn] at hq
  clear hbest hN hE ho hb hj hK hi
  generalize (nearOf s).length = N at *
  generalize (E i).1 = eo at *
  generalize (E i).2 = ec at *
  generalize hO : offOf s (nearOf s) = O at *
  have HO := Lib.hid hO
  clear hO
  go_wp2_with (first | (go_at_call 94; refine Hb.out.mono ?_; rintro e w9 ⟨rfl, hE9⟩; have HE9 := Lib.hid hE9; clear hE9))
  obtain ⟨w10, hw10⟩ : ∃ W, W = w9.alloc (.cells #[.slice eo N ec, .int .i64 O] 124) := ⟨_, rfl⟩
  have hE10 : Ext W w10 := by rw [hw10]; exact HE9.out.alloc _
  have b0 : w10.cell? ⟨w9.heap.size, 0, none⟩ = some (.slice eo N ec) := by rw [hw10]; go_simp
  have b1 : w10.cell? ⟨w9.heap.size, 1, none⟩ = some (.int .i64 O) := by rw [hw10]; go_simp
  rw [← hw10]
  have HE10 := Lib.hid hE10
  clear hw10 hE10
  refine wp_calm ?_
  refine wp_region_plan (.take 0 <| .take 1 <| .take 2 <| .take 3 <| .take 4 <| .take 5 <| .take 6 <| .done) (fun W => Ext w10 W) mixed (by kernel_rfl) (by kernel_rfl) rfl (fun _ _ d _ _ h => by cases d <;> exact h) ((Ext.refl w10).drew) ?_
  repeat ((first | (refine plan_take (v := ?_) rfl rfl (fun W hW => ?_) ?_; rotate_left; (focus (have d0 := cell_ext hW b0; have d1 := cell_ext hW b1; go_simp; first | exact rfl | (split <;> first | exact rfl | (exfalso; omega)) | done))) | refine plan_skip rfl rfl ?_); simp only [puts])
  refine plan_done ?_
  clear b0 b1
  go_wp2
  have hKd : w10.drew.heap[D]? = some (.deferred (some [])) := (HE10.out.drew.block D (Array.getElem?_eq_some_iff.1 HK.out).1).trans HK.out
  refine ⟨by simp, .inl ⟨_, _, rfl, run_takeDeferred hKd, ?_⟩⟩
  exact ⟨_, results_tmp3 rfl _ _ _, _, by rw [HO.out]; rfl, (own_put (Ho.out.ext HE10.out.drew) hKd rfl).ints, Mv.ext (HW.out.trans HE10.out.drew) (putObj_mv _ D _) fun i e => by rw [e]; exact Nat.le_trans hA hD⟩
 case stop =>
  rintro D c W h
  exact h.elim

theorem sNear_bad (S : SI) (ot : Option Addr) (cap : Nat) (w : World) (h : TinsAt w ot S.tins) (hl : S.tins.length ≤ 9223372036854775807) (hb : sheetB S = false) :
  Calls Tryz.prog 47 #[sheetV S ot cap] w fun e w' => e = .returned (.tuple #[.slice none 0 0, .int .i64 0, .int .i64 2]) ∧ Ext w w' := by
 have R72 := Lib.hid (fun W (hW : Ext w W) => isSheet_any S ot cap W (h.ext hW) hl)
 rw [hb] at R72
 clear h hl hb
 refine (callsIn_wide (n := 3)).1 (callsIn_of_wp_marks Tryz.func47 rfl trivial (wpIn_wide.2 ?_))
 simp only [Tryz.ntmps47, List.size_toArray, List.length_cons, List.length_nil, Nat.reduceAdd, Nat.reduceSub, Array.replicate_succ, Array.replicate_zero, List.push_toArray, List.append_toArray, List.nil_append, List.cons_append]
 go_wp2_with (first | (go_at_call 72; refine (R72.out _ ((Ext.refl w).alloc _)).mono ?_; rintro e w1 ⟨rfl, hE1⟩; have HX := Lib.hid (((Ext.refl w).alloc _).trans hE1); clear hE1))
 exact ⟨_, results_tmp3 rfl _ _ _, rfl, HX.out⟩

end Go.Proofs.YtjpekonfjihcoaaGreatDoor
