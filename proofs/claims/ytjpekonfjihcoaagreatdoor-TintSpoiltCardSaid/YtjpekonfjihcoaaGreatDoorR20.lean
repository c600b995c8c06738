/- Contract of the reference: Read. No condition beyond short texts. -/
import Derived.ArgAppend
import Derived.Below
import Derived.BigQuiet
import Derived.Deep.DeepCutAuto
import Derived.Deep.DeepFit
import Derived.Deep.LoopGhost
import Derived.Deep.QuietTactic
import Derived.Deep.RegionHeld
import Derived.Deep.RegionHeld3
import Derived.Deep.RegionWith
import Derived.Deep.Upon
import Derived.Defers
import Derived.Laws.BytesArg
import Derived.Laws.EntriesVeiled
import Derived.Laws.OwnMore
import Derived.Lib.Hide
import Derived.Lib.IndexBytes
import Derived.Lib.ItoaNum
import Derived.Lib.SplitLaws
import Derived.LoopIn
import Derived.LoopNIn
import Derived.Maps.AppendAt
import Derived.Maps.Keyed
import Derived.Maps.OwnIn
import Derived.OrdersHeld
import Derived.OwnWalkIn
import Derived.RangeFuncBound
import Derived.RangeFuncCalls
import Derived.RangeFuncLeaves
import Derived.RangeFuncNested
import Derived.Recover
import Derived.RegionIn
import Derived.Shelf.Abstract
import Derived.Shelf.Strconv.Itoa3
import Derived.Shelf.Strings.Split
import Derived.TacticsIn
import Derived.TacticsInMore
import Derived.Test.YtjpekonfjihcoaaGreatDoorProg
import Derived.WalkKit
import Derived.WalkLawsBesides
import Derived.WalkSpells
import Derived.Test.YtjpekonfjihcoaaGreatDoorM32
import Derived.Test.YtjpekonfjihcoaaGreatDoorM2
import Derived.Test.YtjpekonfjihcoaaGreatDoorM18
import Derived.Test.YtjpekonfjihcoaaGreatDoorM7
import Derived.Test.YtjpekonfjihcoaaGreatDoorM30
import Derived.Test.YtjpekonfjihcoaaGreatDoorM9
import Derived.Test.YtjpekonfjihcoaaGreatDoorM4
import Derived.Test.YtjpekonfjihcoaaGreatDoorM27
import Derived.Test.YtjpekonfjihcoaaGreatDoorM31
import Derived.Test.YtjpekonfjihcoaaGreatDoorM6
import Derived.Test.YtjpekonfjihcoaaGreatDoorM1
import Derived.Test.YtjpekonfjihcoaaGreatDoorM29
import Derived.Test.YtjpekonfjihcoaaGreatDoorT6
namespace Go.TintM
end Go.TintM
set_option maxRecDepth 100000
set_option maxHeartbeats 64000000
set_option linter.unusedVariables false
set_option linter.unusedSimpArgs false
namespace Go.Proofs.YtjpekonfjihcoaaGreatDoor
open Go.RowKit Go.My Go.TintM

/-- What the reference reads. -/
def ReadT (l : List UInt8) (e : Ending) (w' : World) : Prop :=
 (∀ x, parse l = some x → ∃ oa cap, e = .returned (.tuple #[sheetV (siOf x) oa cap, .bool true]) ∧ TinsAt w' oa (siOf x).tins) ∧ (parse l = none → e = .returned (.tuple #[sheetV noSI none 0, .bool false]))
theorem rt_no {l : List UInt8} {e : Ending} {w' : World} (h : parse l = none) (he : e = .returned (.tuple #[sheetV noSI none 0, .bool false])) : ReadT l e w' := ⟨fun x hn => (by rw [h] at hn; cases hn), fun _ => he⟩
theorem strs_tail {w : World} {g cap : Nat} {L : List (List UInt8)} (h : StrsAt w (some ⟨g, 0, none⟩) L) (h1 : 1 ≤ L.length) (hc : L.length ≤ cap) :
  ∃ of2, (if cap = 1 then some (⟨g, 0, none⟩ : Addr) else some ⟨g, 1, none⟩) = some ⟨g, of2, none⟩ ∧ StrsAt w (some ⟨g, of2, none⟩) L.tail := by
 by_cases e : cap = 1
 ·refine ⟨0, if_pos e, fun i x hx => ?_⟩
  have : L.tail.length = 0 := by rw [List.length_tail]; omega
  rw [List.eq_nil_of_length_eq_zero this] at hx
  simp at hx
 ·refine ⟨1, if_neg e, fun i x hx => ?_⟩
  rw [List.getElem?_tail] at hx
  obtain ⟨b, off, e1, e2, e3⟩ := h (i + 1) x hx
  cases e1
  exact ⟨g, 1, rfl, e2, by rw [show 1 + i = 0 + (i + 1) by omega]; exact e3⟩
/-- Whether the first of some numbers are not below 0. -/
def nonneg (zs : List Int) (k : Nat) : Bool := (zs.take k).all fun z => decide (0 ≤ z)
theorem nonneg_succ {zs : List Int} {k : Nat} (hk : k < zs.length) : nonneg zs (k + 1) = (nonneg zs k && decide (0 ≤ zs[k])) := by
 rw [nonneg, List.take_succ_eq_append_getElem hk, List.all_append, nonneg]; simp
theorem nonneg_up {zs : List Int} (h : nonneg zs zs.length = true) : numsOf zs = some (zs.map Int.toNat) ∧ zs = upL (zs.map Int.toNat) := by
 rw [nonneg, List.take_of_length_le (Nat.le_refl _)] at h
 refine ⟨by rw [numsOf, if_pos h], ?_⟩
 rw [List.all_eq_true] at h
 simp only [upL, List.map_map]
 conv => lhs; rw [← List.map_id zs]
 exact List.map_congr_left fun z hz => by have := h z hz; simp at this ⊢; omega
theorem nonneg_not {zs : List Int} (h : nonneg zs zs.length = false) : numsOf zs = none := by
 rw [nonneg, List.take_of_length_le (Nat.le_refl _)] at h
 rw [numsOf, if_neg (by rw [h]; decide)]
theorem lineOk_none {r : List UInt8} (h : (spl 32 r).tail.mapM parseNum = none) : lineOk r = none := by rw [lineOk, h]; rfl


theorem rread_any (l : List UInt8) (w : World) (hl : l.length ≤ 900) : Calls Tryz.prog 67 #[.string (bs l)] w fun e w' => ReadT l e w' ∧ Ext w w' := by
 have hsp : ∀ W, Calls Tryz.prog 109 #[.string (bs l), .int .u8 10] W fun e w' => ∃ g cap, e = .returned (.slice (some ⟨g, 0, none⟩) (spl 10 l).length cap) ∧ W.heap.size ≤ g ∧ (spl 10 l).length ≤ cap ∧ cap ≤ maxLen ∧ StrsAt w' (some ⟨g, 0, none⟩) (spl 10 l) ∧ Ext W w' := fun W => rsplit_any 10 l W (by omega)
 have Hsp := Lib.hid hsp
 have hpl := spl_len 10 l
 have hpp := spl_pos 10 l
 have Hps := Lib.hid (@parse_short l)
 have Hpa := Lib.hid (fun r (hr : r ∈ spl 10 l) => spl_part hr)
 have Hst := Lib.hid (fun i => @parse_stop l i)
 have Hpe := Lib.hid (show parse l = if (spl 10 l).length < 4 then none else (stTo (spl 10 l) ((spl 10 l).length - 2)).bind fun x => if textB x = l then some x else none from rfl)
 clear hsp
 generalize spl 10 l = R at *
 go_enter Tryz.func67, Tryz.ntmps67
 go_wp2_with (first | (go_at_call 109; refine (Hsp.out _).mono ?_; rintro e w1 ⟨g, cg, rfl, hg, hcg1, hcg2, hrows, hE1⟩; have Hrows := Lib.hid hrows; have HE1 := Lib.hid hE1; clear hrows hE1; simp only [World.size_alloc] at hg))
 have hE1 := HE1.out
 have hs1 := hE1.size
 simp only [World.size_alloc] at hs1
 have hres : SOwn w1 w.heap.size noSI none 0 := ((sheet_new w).ext ((Ext.refl _).alloc _)).ext hE1
 have hbx : SOwn w1 (w.heap.size + 1) noSI none 0 := by
  have := sheet_new (w.alloc (.cells #[.int .i64 0, .int .i64 0, .int .i64 0, .int .i64 0, .int .i64 0, .int .i64 0, .int .i64 0, .int .i64 0, .int .i64 0, .int .i64 0, .int .i64 0, .int .i64 0, .slice none 0 0] 28))
  rw [World.size_alloc] at this
  exact this.ext hE1
 have hps0 : PSt w w1 w1 (w.heap.size + 1) noTx none 0 := ⟨(((Ext.refl w).alloc _).alloc _).trans hE1, Turned.refl _ _, hbx, World.ownsRow_nil _ _ _ _, by omega, by omega⟩
 have Hps0 := Lib.hid hps0
 have Hres := Lib.hid hres
 clear hps0 hres hbx hE1
 have hr2 : IntKind.i64.wrap ((R.length : Int) - 2) = (R.length : Int) - 2 := by rw [IntWalk.i64_in _ (by omega)]
 go_loopg [6, 7, 8, 9] (R.length - 2) (fun g i a b c wr => ∃ (k : Nat) (x : Tx) (oa : Option Addr) (cap : Nat), k + g = R.length - 2 ∧ i = .int .i64 k ∧ stTo R k = some x ∧ PSt w w1 wr (w.heap.size + 1) x oa cap)
 case atStart => exact ⟨0, noTx, _, _, by simp, rfl, rfl, Hps0.out⟩
 case round =>
  clear Hps0
  obtain ⟨k, x, oa, cap, hk, rfl, hst, ps⟩ := hrel
  have Ps := Lib.hid ps
  have HST := Lib.hid hst
  clear ps hst
  by_cases hlt : k < R.length - 2
  ·have hkR : k < R.length := by omega
   have hkI : (k : Int) < (R.length : Int) - 2 := by omega
   obtain ⟨b0, off0, e0, _, hr0⟩ := Hrows.out k R[k] (by simp [hkR])
   cases e0
   rw [Nat.zero_add] at hr0
   replace hr0 := Turned.cell Ps.out.turned (by simp; omega) hr0
   have hrl := Hpa.out _ (List.getElem_mem hkR)
   have hrk : R[k]? = some R[k] := by simp [hkR]
   have Hrk := Lib.hid hrk
   clear hrk
   generalize R[k] = r at *
   obtain ⟨wo, rfl⟩ : ∃ wo : World, wo = wr := ⟨_, rfl⟩
   obtain ⟨g0, rfl⟩ : ∃ g0 : Nat, g0 = gk := ⟨_, rfl⟩
   have hsr : ∀ W, Calls Tryz.prog 109 #[.string (bs r), .int .u8 32] W fun e w' => ∃ g cap, e = .returned (.slice (some ⟨g, 0, none⟩) (spl 32 r).length cap) ∧ W.heap.size ≤ g ∧ (spl 32 r).length ≤ cap ∧ cap ≤ maxLen ∧ StrsAt w' (some ⟨g, 0, none⟩) (spl 32 r) ∧ Ext W w' := fun W => rsplit_any 32 r W (by omega)
   have Hsr := Lib.hid hsr
   have hW1 := spl_pos 32 r
   have hWl := spl_len 32 r
   have hWp : ∀ x ∈ (spl 32 r).tail, x.length ≤ 100000 := fun x hx => by have := spl_part (List.mem_of_mem_tail hx); omega
   have HWp := Lib.hid hWp
   have HT := Lib.hid (fun ns => @lineOk_of r ns)
   have HN := Lib.hid (@lineOk_none r)
   clear hsr hWp
   generalize spl 32 r = Wd at *
   have hWI : (1 : Int) ≤ (Wd.length : Int) := by omega
   have htl : Wd.tail.length = Wd.length - 1 := List.length_tail
   go_wp2_with (first | (go_at_call 109; refine (Hsr.out _).mono ?_; rintro e w4 ⟨g2, c2, rfl, hg2, hc21, hc22, hst2, hE4⟩; obtain ⟨of2, hif, hst3⟩ := strs_tail hst2 hW1 hc21; have hci : (Wd.length : Int) ≤ (c2 : Int) := (by omega); have hs4 := hE4.size; have HE4 := Lib.hid hE4; have hnm := rnumbers_any Wd.tail (some ⟨g2, of2, none⟩) (c2 - 1) w4 hst3 (by omega) HWp.out; rw [htl] at hnm; have Hnm := Lib.hid hnm; clear hst2 hst3 hE4 hnm) | (go_at_call 110; refine Hnm.out.mono ?_; rintro e wp ⟨vn, zs, is, rfl, hown, hnr, hE5⟩; obtain ⟨oN, cN, hvN, n1, n2, n3, n4⟩ := hown.slice; rw [List.length_map] at hvN n1; subst hvN; have Hown := Lib.hid hown; have Hnr := Lib.hid hnr; have N4 := Lib.hid n4; have HE5 := Lib.hid (HE4.out.trans hE5); clear hown hnr n4 hE5 Hnm Hsr HE4))
   have hz1 := Hnr.out.small
   have hzl : zs.length ≤ 1000 := by
    cases is
    ·rw [(Hnr.out.no rfl).2]; decide
    ·have := (Hnr.out.yes rfl).2; rw [htl] at this; omega
   have Hz1 := Lib.hid hz1
   clear hz1 hif
   go_loopg [8, 9] zs.length (fun g b j wr => ∃ j' : Nat, j' + g = zs.length ∧ j = .int .i64 j' ∧ wr = wp ∧ b = .bool (is && nonneg zs j'))
   case atStart => exact ⟨0, by simp, rfl, rfl, by simp [nonneg]⟩
   case round =>
    obtain ⟨j, hj, rfl, hwr, rfl⟩ := hrel
    obtain rfl := hwr.symm
    by_cases hjl : j < zs.length
    ·have his : is = true := by
      cases is
      ·rw [(Hnr.out.no rfl).2] at hjl; simp at hjl
      ·rfl
     subst his
     obtain ⟨bz, hoN, _, hca⟩ := N4.out j (.int .i64 zs[j]) (by simp [hjl])
     subst hoN
     have Hsu := Lib.hid (nonneg_succ hjl)
     generalize zs[j] = Z at *
     generalize nonneg zs j = nb at *
     cases nb
     ·go_wp2
      go_roundg (gk - 1)
      case measure => omega
      case rel => exact ⟨j + 1, by omega, by go_num, rfl, by rw [Hsu.out]; rfl⟩
     ·by_cases hZ : 0 ≤ Z
      ·go_wp2
       go_roundg (gk - 1)
       case measure => omega
       case rel => exact ⟨j + 1, by omega, by go_num, rfl, by rw [Hsu.out]; simp [hZ]⟩
      ·go_wp2
       go_roundg (gk - 1)
       case measure => omega
       case rel => exact ⟨j + 1, by omega, by go_num, rfl, by rw [Hsu.out]; simp [hZ]⟩
    ·obtain rfl : j = zs.length := by omega
     have hEo := HE5.out
     have hsEo := hEo.size
     have Ps5 := Lib.hid (Ps.out.next hEo)
     by_cases hok : is = true ∧ nonneg zs zs.length = true
     ·obtain ⟨rfl, hnn⟩ := hok
      obtain ⟨hn1, hn2⟩ := nonneg_up hnn
      have hmm := (Hnr.out.yes rfl).1.trans hn1
      rw [hnn]
      clear hnn hn1 Hz1 Hnr Hown
      generalize zs.map Int.toNat = ns at *
      subst hn2
      rw [upL_length] at *
      have Hok := Lib.hid (HT.out ns hmm)
      clear hmm HT HN HWp hEo
      by_cases hn6 : ns.length = 6
      ·have hst1 : stTo R (k + 1) = some (setTx x k ns) := by rw [stTo_next HST.out Hrk.out, Hok.out, if_pos hn6]; rfl
       have Hst1 := Lib.hid hst1
       have hn6' : ((ns.length : Int) == 6) = true := by simp [hn6]
       have hni := fun i (hi : i < 6) => N4.out i (.int .i64 (ns.getD i 0 : Nat)) (by simp [upL, List.getD, show i < ns.length by omega])
       obtain ⟨bN, hoN, hbN, u0⟩ := hni 0 (by omega)
       subst hoN
       have hbo : ∀ i, i < 6 → wp.cell? ⟨bN, i, none⟩ = some (.int .i64 (ns.getD i 0 : Nat)) := fun i hi => by
        obtain ⟨b', h1, _, h2⟩ := hni i hi
        simp only [Option.some.injEq, Addr.mk.injEq, and_true] at h1
        subst h1
        exact h2
       obtain ⟨a0, a1, a2, a3, a4, a5, hns⟩ := six_of hn6
       have u1 := hbo 1 (by omega)
       have u2 := hbo 2 (by omega)
       have u3 := hbo 3 (by omega)
       have u4 := hbo 4 (by omega)
       have u5 := hbo 5 (by omega)
       clear hni hbo hst1
       subst hns
       simp only [List.getD_cons_zero, List.getD_cons_succ, List.getD_eq_getElem?_getD, List.getElem?_cons_zero, List.getElem?_cons_succ, Option.getD_some, List.length_cons, List.length_nil, Nat.reduceAdd, Nat.zero_add] at u0 u1 u2 u3 u4 u5 hn6' n1 ⊢
       have hbl := World.block_lt_of_cell? _ _ u0
       simp only at hbl
       have hsz5 := Ps5.out.size
       have hbne : ¬ bN = w.heap.size + 1 := by have := Ps.out.size; omega
       have Hsp6 := Lib.hid (fun W (hW : Ext wp W) => rspans_any a0 a1 a2 a3 a4 a5 bN cN n1 W (cell_ext hW u0) (cell_ext hW u1) (cell_ext hW u2) (cell_ext hW u3) (cell_ext hW u4) (cell_ext hW u5))
       have hEw : Ext w wp := Ps5.out.ext
       have HPs := Ps5
       have hs13 : (w.heap.size + 1) < wp.heap.size := by have := Ps5.out.size; omega
       by_cases hk0 : k = 0
       ·subst hk0
        have Hfr := Lib.hid Ps5.out.own
        go_wp2_with fail
        refine wp_region_plan (.take 0 <| .take 1 <| .take 2 <| .take 3 <| .take 4 <| .take 5 <| .take 6 <| .take 7 <| .take 8 <| .take 9 <| .take 10 <| .take 11 <| .take 12 <| .take 13 <| .take 14 <| .take 15 <| .take 16 <| .take 17 <| .take 18 <| .take 19 <| .take 20 <| .only 21 <| .take 22 <| .only 23 <| .take 24 <| .only 25 <| .done) (fun W => Turned (w.heap.size + 1) wp W) mixed (by kernel_rfl) (by kernel_rfl) rfl (fun _ _ d _ _ h => by cases d <;> exact h) (Turned.of_ext (Ext.refl wp).drew) ?_
        repeat ((first | (refine plan_take (v := ?_) rfl rfl (fun W hW => ?_) ?_; rotate_left; (focus (have d0 := Turned.cell hW (p := ⟨bN, 0, none⟩) (by simpa using hbne) u0; have d1 := Turned.cell hW (p := ⟨bN, 1, none⟩) (by simpa using hbne) u1; have d2 := Turned.cell hW (p := ⟨bN, 2, none⟩) (by simpa using hbne) u2; have d3 := Turned.cell hW (p := ⟨bN, 3, none⟩) (by simpa using hbne) u3; have d4 := Turned.cell hW (p := ⟨bN, 4, none⟩) (by simpa using hbne) u4; have d5 := Turned.cell hW (p := ⟨bN, 5, none⟩) (by simpa using hbne) u5; go_simp; first | exact rfl | (split <;> first | exact rfl | (exfalso; omega)) | done))) | refine plan_skip rfl rfl ?_); simp only [puts])
        refine plan_walk rfl ?_; intro K hK
        have HE1 := Lib.hid ((Ext.refl wp).drew)
        have HT := Lib.hid (Turned.of_ext (b := w.heap.size + 1) (Ext.refl wp).drew)
        have Psd := Lib.hid (Ps5.out.next (Ext.refl wp).drew)
        clear u0 u1 u2 u3 u4 u5 Hsp6 Hfr
        generalize wp.drew = wd at *
        have c0 := Psd.out.own.box 0 _ rfl; have c1 := Psd.out.own.box 1 _ rfl; have c2 := Psd.out.own.box 2 _ rfl; have c3 := Psd.out.own.box 3 _ rfl; have c4 := Psd.out.own.box 4 _ rfl; have c5 := Psd.out.own.box 5 _ rfl; have c6 := Psd.out.own.box 6 _ rfl; have c7 := Psd.out.own.box 7 _ rfl; have c8 := Psd.out.own.box 8 _ rfl; have c9 := Psd.out.own.box 9 _ rfl; have c10 := Psd.out.own.box 10 _ rfl; have c11 := Psd.out.own.box 11 _ rfl; have c12 : World.cell? wd ⟨(w.heap.size + 1), 12, none⟩ = some (.slice oa (siOf x).tins.length cap) := Psd.out.own.box 12 _ rfl
        clear c3 c4 c5 c6 c7 c8 c12
        have f0 := Psd.out.own.fr 0 (by omega)
        have f1 := Psd.out.own.fr 1 (by omega)
        have f2 := Psd.out.own.fr 2 (by omega)
        have f9 := Psd.out.own.fr 9 (by omega)
        have f10 := Psd.out.own.fr 10 (by omega)
        have f11 := Psd.out.own.fr 11 (by omega)
        go_wp2
        refine hK _ _ (((HT.out.set 0 _).set 1 _).set 2 _) ?_
        repeat ((first | (refine plan_take (v := ?_) rfl rfl (fun W hW => ?_) ?_; rotate_left; (focus (skip; go_simp; first | exact rfl | (split <;> first | exact rfl | (exfalso; omega)) | done))) | refine plan_skip rfl rfl ?_); simp only [puts])
        refine plan_walk rfl ?_; intro K hK
        go_wp2
        refine hK _ _ (((((HT.out.set 0 _).set 1 _).set 2 _).set 9 _).set 10 _) ?_
        repeat ((first | (refine plan_take (v := ?_) rfl rfl (fun W hW => ?_) ?_; rotate_left; (focus (skip; go_simp; first | exact rfl | (split <;> first | exact rfl | (exfalso; omega)) | done))) | refine plan_skip rfl rfl ?_); simp only [puts])
        refine plan_walk rfl ?_; intro K hK
        go_wp2
        refine hK _ _ ((((((HT.out.set 0 _).set 1 _).set 2 _).set 9 _).set 10 _).set 11 _) ?_
        refine plan_done ?_
        clear c0 c1 c2 c9 c10 c11 f0 f1 f2 f9 f10 f11
        go_wp2
        go_roundg (g0 - 1)
        case measure => omega
        case rel => exact ⟨1, _, _, _, by omega, by go_num, Hst1.out, Psd.out.head a0 a1 a2 a3 a4 a5⟩
       ·by_cases hk1 : k = 1
        ·subst hk1
         go_wp2_with (first | (go_at_call 111; refine (Hsp6.out _ (Ext.refl wp)).mono ?_; rintro e w7 ⟨rfl, hE7⟩; have Ps7 := Lib.hid (Ps5.out.next hE7); clear hE7; have c0 := Ps7.out.own.box 0 _ rfl; have c1 := Ps7.out.own.box 1 _ rfl; have c2 := Ps7.out.own.box 2 _ rfl; have c3 := Ps7.out.own.box 3 _ rfl; have c4 := Ps7.out.own.box 4 _ rfl; have c5 := Ps7.out.own.box 5 _ rfl; have c6 := Ps7.out.own.box 6 _ rfl; have c7 := Ps7.out.own.box 7 _ rfl; have c8 := Ps7.out.own.box 8 _ rfl; have c9 := Ps7.out.own.box 9 _ rfl; have c10 := Ps7.out.own.box 10 _ rfl; have c11 := Ps7.out.own.box 11 _ rfl; have c12 : World.cell? w7 ⟨(w.heap.size + 1), 12, none⟩ = some (.slice oa (siOf x).tins.length cap) := Ps7.out.own.box 12 _ rfl; clear c0 c1 c2 c9 c10 c11 c12; have f3 := Ps7.out.own.fr 3 (by omega); have f4 := Ps7.out.own.fr 4 (by omega); have f5 := Ps7.out.own.fr 5 (by omega); have f6 := Ps7.out.own.fr 6 (by omega); have f7 := Ps7.out.own.fr 7 (by omega); have f8 := Ps7.out.own.fr 8 (by omega)))
         clear c3 c4 c5 c6 c7 c8 f3 f4 f5 f6 f7 f8
         go_roundg (g0 - 1)
         case measure => omega
         case rel => exact ⟨2, _, _, _, by omega, by go_num, Hst1.out, Ps7.out.fade a0 a1 a2 a3 a4 a5⟩
        ·have hkk0 : ((k : Int) == 0) = false := by simpa using hk0
         have hkk1 : ((k : Int) == 1) = false := by simpa using (by omega : ¬ (k : Int) = 1)
         have Q12 := Lib.hid (fun W (hE : Ext wp W) => cell_ext hE (show wp.cell? ⟨w.heap.size + 1, 12, none⟩ = some (.slice oa x.tins.length cap) by rw [← tinsLen x]; exact Ps5.out.own.box 12 _ rfl))
         have hxl := stTo_len HST.out
         obtain ⟨ii, hi1, hi2, hi3, hi4⟩ := info_parts i82
         have HEnd := Lib.hid (fun (W W8 : World) (oa' : Option Addr) (cap' : Nat) (hE : Ext wp W) (hr : W8.ownsRow w1.heap.size 82 6 (.slice oa' (x.tins.length + 1) cap') (x.tins.length + 1) (tinCells x.tins ++ (upL [a0, a1, a2, a3, a4, a5]).map (Value.int .i64))) (hB : Below w1.heap.size W W8) => (Ps5.out.next hE).tins (ns := [a0, a1, a2, a3, a4, a5]) (k := k) (by omega) hB hr)
         have HRow := Lib.hid (fun (W : World) (hE : Ext wp W) => (Ps5.out.next hE).row)
         have HOwn := Lib.hid (fun (W W8 : World) (hE : Ext wp W) (hB : Below w1.heap.size W W8) => ((Ps5.out.next hE).own.below hB (by omega)))
         clear u0 u1 u2 u3 u4 u5
         go_wp2_with fail
         refine wp_region_plan (.take 0 <| .take 2 <| .two 1 3 (.only 3 <| .take 4 <| .only 5 <| .only 6 <| .take 7 <| .only 8 <| .done) (.take 4 <| .two 1 5 (.only 5 <| .only 6 <| .take 7 <| .only 8 <| .done) (.only 1 <| .only 6 <| .take 7 <| .only 8 <| .done))) (fun W => True) mixed (by kernel_rfl) (by kernel_rfl) rfl (fun _ _ d _ _ h => by cases d <;> exact h) (trivial) ?_
         repeat ((first | (refine plan_take (v := ?_) rfl rfl (fun W hW => ?_) ?_; rotate_left; (focus (skip; go_simp; first | exact rfl | (split <;> first | exact rfl | (exfalso; omega)) | done))) | refine plan_skip rfl rfl ?_); simp only [puts])
         refine plan_two rfl rfl ?_ ?_
         ·intro K hK
          have X1 := (Ext.refl wp).drew
          have q := Q12.out _ X1
          go_wp2
          refine hK _ _ trivial ?_
          clear q
          refine plan_walk rfl ?_; intro K hK
          go_wp2_with (first | (go_at_call 111; refine (Hsp6.out _ X1).mono ?_; rintro e w7 ⟨rfl, hE7⟩; have X7 := X1.trans hE7; clear hE7))
          refine hK _ _ trivial ?_
          repeat ((first | (refine plan_take (v := ?_) rfl rfl (fun W hW => ?_) ?_; rotate_left; (focus (skip; go_simp; first | exact rfl | (split <;> first | exact rfl | (exfalso; omega)) | done))) | refine plan_skip rfl rfl ?_); simp only [puts])
          refine plan_walk rfl ?_; intro K hK
          go_wp2
          refine hK _ _ trivial ?_
          have X8 := X7.alloc (.cells #[.int .i64 a0, .int .i64 a1, .int .i64 a2, .int .i64 a3, .int .i64 a4, .int .i64 a5] 82)
          have hx8 := X8.size
          have hsix := six_cells w7 a0 a1 a2 a3 a4 a5
          refine plan_walk rfl ?_; intro K hK
          go_wp2_with (first | (at_builtin; refine wpList_append_own_at _ rfl _ _ 26 rfl w1.heap.size 82 ii (.agg #[.int .i64 0, .int .i64 0, .int .i64 0, .int .i64 0, .int .i64 0, .int .i64 0]) 6 48 Tryz.underlying26 hi1 hi2 hi3 hi4 rfl (by decide) _ x.tins.length (tinCells x.tins) rfl (HRow.out _ X8) ⟨w7.heap.size, 0, none⟩ 1 1 [.int .i64 a0, .int .i64 a1, .int .i64 a2, .int .i64 a3, .int .i64 a4, .int .i64 a5] rfl rfl hsix (by simp [Value.oneCell']) (by unfold maxLen; omega) (by omega) (by omega) ?_))
          intro v' w8 hr8 hg8 _ _
          have hB8 := (Below.refl w1.heap.size _).grown hg8 (by omega) fun b hb => ((HRow.out _ X8).lt b hb).1
          obtain ⟨oa', cap', hv8, _⟩ := row_slice hr8
          subst hv8
          have Hend := Lib.hid (HEnd.out _ _ _ _ X8 hr8 hB8)
          have o8 := HOwn.out _ _ X8 hB8
          have c12 := o8.box 12 _ rfl
          have f12 := o8.fr 12 (by omega)
          clear hr8 hg8 hB8 o8 hsix X7 X8
          go_wp2
          refine hK _ _ trivial ?_
          repeat ((first | (refine plan_take (v := ?_) rfl rfl (fun W hW => ?_) ?_; rotate_left; (focus (skip; go_simp; first | exact rfl | (split <;> first | exact rfl | (exfalso; omega)) | done))) | refine plan_skip rfl rfl ?_); simp only [puts])
          refine plan_walk rfl ?_; intro K hK
          go_wp2
          refine hK _ _ trivial ?_
          refine plan_done ?_
          clear c12 f12
          go_wp2
          go_roundg (g0 - 1)
          case measure => omega
          case rel => exact ⟨k + 1, _, _, _, by omega, by go_num, Hst1.out, Hend.out⟩
         ·intro K hK
          have X1 := (Ext.refl wp).drew
          go_wp2_with (first | (go_at_call 111; refine (Hsp6.out _ X1).mono ?_; rintro e w7 ⟨rfl, hE7⟩; have X7 := X1.trans hE7; clear hE7))
          refine hK _ _ trivial ?_
          repeat ((first | (refine plan_take (v := ?_) rfl rfl (fun W hW => ?_) ?_; rotate_left; (focus (skip; go_simp; first | exact rfl | (split <;> first | exact rfl | (exfalso; omega)) | done))) | refine plan_skip rfl rfl ?_); simp only [puts])
          refine plan_two rfl rfl ?_ ?_
          ·intro K hK
           have q := Q12.out _ X7
           go_wp2
           refine hK _ _ trivial ?_
           clear q
           refine plan_walk rfl ?_; intro K hK
           go_wp2
           refine hK _ _ trivial ?_
           have X8 := X7.alloc (.cells #[.int .i64 a0, .int .i64 a1, .int .i64 a2, .int .i64 a3, .int .i64 a4, .int .i64 a5] 82)
           have hx8 := X8.size
           have hsix := six_cells w7 a0 a1 a2 a3 a4 a5
           refine plan_walk rfl ?_; intro K hK
           go_wp2_with (first | (at_builtin; refine wpList_append_own_at _ rfl _ _ 26 rfl w1.heap.size 82 ii (.agg #[.int .i64 0, .int .i64 0, .int .i64 0, .int .i64 0, .int .i64 0, .int .i64 0]) 6 48 Tryz.underlying26 hi1 hi2 hi3 hi4 rfl (by decide) _ x.tins.length (tinCells x.tins) rfl (HRow.out _ X8) ⟨w7.heap.size, 0, none⟩ 1 1 [.int .i64 a0, .int .i64 a1, .int .i64 a2, .int .i64 a3, .int .i64 a4, .int .i64 a5] rfl rfl hsix (by simp [Value.oneCell']) (by unfold maxLen; omega) (by omega) (by omega) ?_))
           intro v' w8 hr8 hg8 _ _
           have hB8 := (Below.refl w1.heap.size _).grown hg8 (by omega) fun b hb => ((HRow.out _ X8).lt b hb).1
           obtain ⟨oa', cap', hv8, _⟩ := row_slice hr8
           subst hv8
           have Hend := Lib.hid (HEnd.out _ _ _ _ X8 hr8 hB8)
           have o8 := HOwn.out _ _ X8 hB8
           have c12 := o8.box 12 _ rfl
           have f12 := o8.fr 12 (by omega)
           clear hr8 hg8 hB8 o8 hsix X7 X8
           go_wp2
           refine hK _ _ trivial ?_
           repeat ((first | (refine plan_take (v := ?_) rfl rfl (fun W hW => ?_) ?_; rotate_left; (focus (skip; go_simp; first | exact rfl | (split <;> first | exact rfl | (exfalso; omega)) | done))) | refine plan_skip rfl rfl ?_); simp only [puts])
           refine plan_walk rfl ?_; intro K hK
           go_wp2
           refine hK _ _ trivial ?_
           refine plan_done ?_
           clear c12 f12
           go_wp2
           go_roundg (g0 - 1)
           case measure => omega
           case rel => exact ⟨k + 1, _, _, _, by omega, by go_num, Hst1.out, Hend.out⟩
          ·intro K hK
           go_wp2
           refine hK _ _ trivial ?_
           refine plan_walk rfl ?_; intro K hK
           have q := Q12.out _ (X7.alloc (.cells #[.int .i64 a0, .int .i64 a1, .int .i64 a2, .int .i64 a3, .int .i64 a4, .int .i64 a5] 82))
           go_wp2
           refine hK _ _ trivial ?_
           clear q
           have X8 := X7.alloc (.cells #[.int .i64 a0, .int .i64 a1, .int .i64 a2, .int .i64 a3, .int .i64 a4, .int .i64 a5] 82)
           have hx8 := X8.size
           have hsix := six_cells w7 a0 a1 a2 a3 a4 a5
           refine plan_walk rfl ?_; intro K hK
           go_wp2_with (first | (at_builtin; refine wpList_append_own_at _ rfl _ _ 26 rfl w1.heap.size 82 ii (.agg #[.int .i64 0, .int .i64 0, .int .i64 0, .int .i64 0, .int .i64 0, .int .i64 0]) 6 48 Tryz.underlying26 hi1 hi2 hi3 hi4 rfl (by decide) _ x.tins.length (tinCells x.tins) rfl (HRow.out _ X8) ⟨w7.heap.size, 0, none⟩ 1 1 [.int .i64 a0, .int .i64 a1, .int .i64 a2, .int .i64 a3, .int .i64 a4, .int .i64 a5] rfl rfl hsix (by simp [Value.oneCell']) (by unfold maxLen; omega) (by omega) (by omega) ?_))
           intro v' w8 hr8 hg8 _ _
           have hB8 := (Below.refl w1.heap.size _).grown hg8 (by omega) fun b hb => ((HRow.out _ X8).lt b hb).1
           obtain ⟨oa', cap', hv8, _⟩ := row_slice hr8
           subst hv8
           have Hend := Lib.hid (HEnd.out _ _ _ _ X8 hr8 hB8)
           have o8 := HOwn.out _ _ X8 hB8
           have c12 := o8.box 12 _ rfl
           have f12 := o8.fr 12 (by omega)
           clear hr8 hg8 hB8 o8 hsix X7 X8
           go_wp2
           refine hK _ _ trivial ?_
           repeat ((first | (refine plan_take (v := ?_) rfl rfl (fun W hW => ?_) ?_; rotate_left; (focus (skip; go_simp; first | exact rfl | (split <;> first | exact rfl | (exfalso; omega)) | done))) | refine plan_skip rfl rfl ?_); simp only [puts])
           refine plan_walk rfl ?_; intro K hK
           go_wp2
           refine hK _ _ trivial ?_
           refine plan_done ?_
           clear c12 f12
           go_wp2
           go_roundg (g0 - 1)
           case measure => omega
           case rel => exact ⟨k + 1, _, _, _, by omega, by go_num, Hst1.out, Hend.out⟩
      ·have hn6' : ((ns.length : Int) == 6) = false := by simpa using (by omega : ¬ (ns.length : Int) = 6)
       have hn6n : ((ns.length : Int) != 6) = true := by simpa using (by omega : ¬ (ns.length : Int) = 6)
       have Hpar := Lib.hid (Hst.out (k + 1) (by rw [stTo_next HST.out Hrk.out, Hok.out, if_neg hn6]; rfl) (by omega))
       have HEx := Lib.hid Ps5.out.ext
       have HRB := Lib.hid (Hres.out.turned Ps5.out.turned (by omega))
       have r0 := HRB.out.box 0 _ rfl; have r1 := HRB.out.box 1 _ rfl; have r2 := HRB.out.box 2 _ rfl; have r3 := HRB.out.box 3 _ rfl; have r4 := HRB.out.box 4 _ rfl; have r5 := HRB.out.box 5 _ rfl; have r6 := HRB.out.box 6 _ rfl; have r7 := HRB.out.box 7 _ rfl; have r8 := HRB.out.box 8 _ rfl; have r9 := HRB.out.box 9 _ rfl; have r10 := HRB.out.box 10 _ rfl; have r11 := HRB.out.box 11 _ rfl; have r12 := HRB.out.box 12 _ rfl; have q0 := HRB.out.fr 0 (by omega); have q1 := HRB.out.fr 1 (by omega); have q2 := HRB.out.fr 2 (by omega); have q3 := HRB.out.fr 3 (by omega); have q4 := HRB.out.fr 4 (by omega); have q5 := HRB.out.fr 5 (by omega); have q6 := HRB.out.fr 6 (by omega); have q7 := HRB.out.fr 7 (by omega); have q8 := HRB.out.fr 8 (by omega); have q9 := HRB.out.fr 9 (by omega); have q10 := HRB.out.fr 10 (by omega); have q11 := HRB.out.fr 11 (by omega); have q12 := HRB.out.fr 12 (by omega)
       go_wp2
       clear r0 q0 r1 q1 r2 q2 r3 q3 r4 q4 r5 q5 r6 q6 r7 q7 r8 q8 r9 q9 r10 q10 r11 q11 r12 q12
       refine bodyPost_ret (v := .tuple #[sheetV noSI none 0, .bool false]) (results_cellst (n := 13) rfl (by kernel_rfl) (by kernel_rfl) _ w.heap.size (sheetC noSI none 0).toList _ rfl (by simp) (by simp) (fun j v hv => by have hh := (HRB.out.put noSI none 0).box j v (by simpa using hv); exact hh)) (by simp) ⟨rt_no Hpar.out rfl, ext_own HEx.out (turned_put _ w.heap.size noSI none 0) (Nat.le_refl _)⟩
     ·have hbb : (is && nonneg zs zs.length) = false := by
       cases is
       ·rfl
       ·cases hnn : nonneg zs zs.length
        ·rfl
        ·exact absurd ⟨rfl, hnn⟩ hok
      have hmm : Wd.tail.mapM parseNum = none := by
       cases is
       ·exact (Hnr.out.no rfl).1
       ·exact (Hnr.out.yes rfl).1.trans (nonneg_not (by simpa using hbb))
      have Hpar := Lib.hid (Hst.out (k + 1) (by rw [stTo_next HST.out Hrk.out, HN.out hmm]; rfl) (by omega))
      have HEx := Lib.hid Ps5.out.ext
      have HRB := Lib.hid (Hres.out.turned Ps5.out.turned (by omega))
      rw [hbb]
      clear hok hbb hmm
      have r0 := HRB.out.box 0 _ rfl; have r1 := HRB.out.box 1 _ rfl; have r2 := HRB.out.box 2 _ rfl; have r3 := HRB.out.box 3 _ rfl; have r4 := HRB.out.box 4 _ rfl; have r5 := HRB.out.box 5 _ rfl; have r6 := HRB.out.box 6 _ rfl; have r7 := HRB.out.box 7 _ rfl; have r8 := HRB.out.box 8 _ rfl; have r9 := HRB.out.box 9 _ rfl; have r10 := HRB.out.box 10 _ rfl; have r11 := HRB.out.box 11 _ rfl; have r12 := HRB.out.box 12 _ rfl; have q0 := HRB.out.fr 0 (by omega); have q1 := HRB.out.fr 1 (by omega); have q2 := HRB.out.fr 2 (by omega); have q3 := HRB.out.fr 3 (by omega); have q4 := HRB.out.fr 4 (by omega); have q5 := HRB.out.fr 5 (by omega); have q6 := HRB.out.fr 6 (by omega); have q7 := HRB.out.fr 7 (by omega); have q8 := HRB.out.fr 8 (by omega); have q9 := HRB.out.fr 9 (by omega); have q10 := HRB.out.fr 10 (by omega); have q11 := HRB.out.fr 11 (by omega); have q12 := HRB.out.fr 12 (by omega)
      go_wp2
      clear r0 q0 r1 q1 r2 q2 r3 q3 r4 q4 r5 q5 r6 q6 r7 q7 r8 q8 r9 q9 r10 q10 r11 q11 r12 q12
      refine bodyPost_ret (v := .tuple #[sheetV noSI none 0, .bool false]) (results_cellst (n := 13) rfl (by kernel_rfl) (by kernel_rfl) _ w.heap.size (sheetC noSI none 0).toList _ rfl (by simp) (by simp) (fun j v hv => by have hh := (HRB.out.put noSI none 0).box j v (by simpa using hv); exact hh)) (by simp) ⟨rt_no Hpar.out rfl, ext_own HEx.out (turned_put _ w.heap.size noSI none 0) (Nat.le_refl _)⟩
  ·have hkk : k = R.length - 2 := by omega
   have hkI : ¬ (k : Int) < (R.length : Int) - 2 := by omega
   have hst1 := HST.out
   have hsm := stTo_small hst1
   have hxl := stTo_len hst1
   obtain ⟨oa0, cap0, hv0, _, _, _, htin⟩ := tins_row Ps.out.row (fun t ht => (hsm.tins t ht).1)
   obtain ⟨rfl, rfl⟩ : oa = oa0 ∧ cap = cap0 := by injection hv0 with e1 e2 e3; exact ⟨e1, e3⟩
   have Htx := Lib.hid (fun W (hE : Ext wr W) => rprint_any x hsm (by omega) oa cap W (htin.ext hE))
   have HS6 := Lib.hid (fun t (ht : t ∈ x.tins) => (hsm.tins t ht).1)
   have hrl := Ps.out.size
   have HRB0 := Lib.hid (Hres.out.turned Ps.out.turned (by omega))
   have Hbx := Lib.hid (fun W (hE : Ext wr W) => Ps.out.own.ext hE)
   have HEx0 := Lib.hid Ps.out.ext
   have Hrow := Lib.hid (fun W (hE : Ext wr W) => (Ps.out.next hE).row)
   by_cases h4 : R.length < 4
   ·have h4I : (R.length : Int) < 4 := by omega
    have Hpar := Lib.hid (Hps.out h4)
    have HRB := HRB0
    have HEx := HEx0
    clear hst1 hsm htin hv0 hkk
    have r0 := HRB.out.box 0 _ rfl; have r1 := HRB.out.box 1 _ rfl; have r2 := HRB.out.box 2 _ rfl; have r3 := HRB.out.box 3 _ rfl; have r4 := HRB.out.box 4 _ rfl; have r5 := HRB.out.box 5 _ rfl; have r6 := HRB.out.box 6 _ rfl; have r7 := HRB.out.box 7 _ rfl; have r8 := HRB.out.box 8 _ rfl; have r9 := HRB.out.box 9 _ rfl; have r10 := HRB.out.box 10 _ rfl; have r11 := HRB.out.box 11 _ rfl; have r12 := HRB.out.box 12 _ rfl; have q0 := HRB.out.fr 0 (by omega); have q1 := HRB.out.fr 1 (by omega); have q2 := HRB.out.fr 2 (by omega); have q3 := HRB.out.fr 3 (by omega); have q4 := HRB.out.fr 4 (by omega); have q5 := HRB.out.fr 5 (by omega); have q6 := HRB.out.fr 6 (by omega); have q7 := HRB.out.fr 7 (by omega); have q8 := HRB.out.fr 8 (by omega); have q9 := HRB.out.fr 9 (by omega); have q10 := HRB.out.fr 10 (by omega); have q11 := HRB.out.fr 11 (by omega); have q12 := HRB.out.fr 12 (by omega)
    go_wp2
    clear r0 q0 r1 q1 r2 q2 r3 q3 r4 q4 r5 q5 r6 q6 r7 q7 r8 q8 r9 q9 r10 q10 r11 q11 r12 q12
    refine bodyPost_ret (v := .tuple #[sheetV noSI none 0, .bool false]) (results_cellst (n := 13) rfl (by kernel_rfl) (by kernel_rfl) _ w.heap.size (sheetC noSI none 0).toList _ rfl (by simp) (by simp) (fun j v hv => by have hh := (HRB.out.put noSI none 0).box j v (by simpa using hv); exact hh)) (by simp) ⟨rt_no Hpar.out rfl, ext_own HEx.out (turned_put _ w.heap.size noSI none 0) (Nat.le_refl _)⟩
   ·have h4I : ¬ (R.length : Int) < 4 := by omega
    have Hpp := Lib.hid (show parse l = if textB x = l then some x else none by rw [Hpe.out, if_neg h4, ← hkk, hst1]; rfl)
    clear hst1 hsm htin hv0 hkk
    have c0 := Ps.out.own.box 0 _ rfl; have c1 := Ps.out.own.box 1 _ rfl; have c2 := Ps.out.own.box 2 _ rfl; have c3 := Ps.out.own.box 3 _ rfl; have c4 := Ps.out.own.box 4 _ rfl; have c5 := Ps.out.own.box 5 _ rfl; have c6 := Ps.out.own.box 6 _ rfl; have c7 := Ps.out.own.box 7 _ rfl; have c8 := Ps.out.own.box 8 _ rfl; have c9 := Ps.out.own.box 9 _ rfl; have c10 := Ps.out.own.box 10 _ rfl; have c11 := Ps.out.own.box 11 _ rfl; have c12 : World.cell? wr ⟨(w.heap.size + 1), 12, none⟩ = some (.slice oa (siOf x).tins.length cap) := Ps.out.own.box 12 _ rfl
    clear Ps HST Hst Hpe Hpa
    by_cases he : textB x = l
    ·have heq : (textB x == l) = true := by rw [beq_iff_eq]; exact he
     have hne : (textB x != l) = false := by rw [bne, heq]; rfl
     have Hpar := Lib.hid (show parse l = some x by rw [Hpp.out, if_pos he])
     clear he
     go_wp2_with (first | (go_at_call 65; refine (Htx.out _ (Ext.refl _)).mono ?_; rintro e w9 ⟨rfl, hE9⟩; clear c0 c1 c2 c3 c4 c5 c6 c7 c8 c9 c10 c11 c12; have c0 : World.cell? w9 ⟨(w.heap.size + 1), 0, none⟩ = some (.int .i64 (siOf x).o0) := (Hbx.out _ hE9).box 0 _ rfl; have c1 : World.cell? w9 ⟨(w.heap.size + 1), 1, none⟩ = some (.int .i64 (siOf x).o1) := (Hbx.out _ hE9).box 1 _ rfl; have c2 : World.cell? w9 ⟨(w.heap.size + 1), 2, none⟩ = some (.int .i64 (siOf x).o2) := (Hbx.out _ hE9).box 2 _ rfl; have c3 : World.cell? w9 ⟨(w.heap.size + 1), 3, none⟩ = some (.int .i64 (siOf x).a0) := (Hbx.out _ hE9).box 3 _ rfl; have c4 : World.cell? w9 ⟨(w.heap.size + 1), 4, none⟩ = some (.int .i64 (siOf x).b0) := (Hbx.out _ hE9).box 4 _ rfl; have c5 : World.cell? w9 ⟨(w.heap.size + 1), 5, none⟩ = some (.int .i64 (siOf x).a1) := (Hbx.out _ hE9).box 5 _ rfl; have c6 : World.cell? w9 ⟨(w.heap.size + 1), 6, none⟩ = some (.int .i64 (siOf x).b1) := (Hbx.out _ hE9).box 6 _ rfl; have c7 : World.cell? w9 ⟨(w.heap.size + 1), 7, none⟩ = some (.int .i64 (siOf x).a2) := (Hbx.out _ hE9).box 7 _ rfl; have c8 : World.cell? w9 ⟨(w.heap.size + 1), 8, none⟩ = some (.int .i64 (siOf x).b2) := (Hbx.out _ hE9).box 8 _ rfl; have c9 : World.cell? w9 ⟨(w.heap.size + 1), 9, none⟩ = some (.int .i64 (siOf x).ylo) := (Hbx.out _ hE9).box 9 _ rfl; have c10 : World.cell? w9 ⟨(w.heap.size + 1), 10, none⟩ = some (.int .i64 (siOf x).yhi) := (Hbx.out _ hE9).box 10 _ rfl; have c11 : World.cell? w9 ⟨(w.heap.size + 1), 11, none⟩ = some (.int .i64 (siOf x).off) := (Hbx.out _ hE9).box 11 _ rfl; have c12 : World.cell? w9 ⟨(w.heap.size + 1), 12, none⟩ = some (.slice oa (siOf x).tins.length cap) := (Hbx.out _ hE9).box 12 _ rfl; have HE9 := Lib.hid hE9; have hr9 := Lib.hid (HRB0.out.ext hE9); have r0 := hr9.out.box 0 _ rfl; have r1 := hr9.out.box 1 _ rfl; have r2 := hr9.out.box 2 _ rfl; have r3 := hr9.out.box 3 _ rfl; have r4 := hr9.out.box 4 _ rfl; have r5 := hr9.out.box 5 _ rfl; have r6 := hr9.out.box 6 _ rfl; have r7 := hr9.out.box 7 _ rfl; have r8 := hr9.out.box 8 _ rfl; have r9 := hr9.out.box 9 _ rfl; have r10 := hr9.out.box 10 _ rfl; have r11 := hr9.out.box 11 _ rfl; have r12 := hr9.out.box 12 _ rfl; have q0 := hr9.out.fr 0 (by omega); have q1 := hr9.out.fr 1 (by omega); have q2 := hr9.out.fr 2 (by omega); have q3 := hr9.out.fr 3 (by omega); have q4 := hr9.out.fr 4 (by omega); have q5 := hr9.out.fr 5 (by omega); have q6 := hr9.out.fr 6 (by omega); have q7 := hr9.out.fr 7 (by omega); have q8 := hr9.out.fr 8 (by omega); have q9 := hr9.out.fr 9 (by omega); have q10 := hr9.out.fr 10 (by omega); have q11 := hr9.out.fr 11 (by omega); have q12 := hr9.out.fr 12 (by omega); clear hE9))
     clear r0 q0 r1 q1 r2 q2 r3 q3 r4 q4 r5 q5 r6 q6 r7 q7 r8 q8 r9 q9 r10 q10 r11 q11 r12 q12
     clear c0 c1 c2 c3 c4 c5 c6 c7 c8 c9 c10 c11 c12
     refine bodyPost_ret (v := .tuple #[sheetV (siOf x) oa cap, .bool true]) (results_cellst (n := 13) rfl (by kernel_rfl) (by kernel_rfl) _ w.heap.size (sheetC (siOf x) oa cap).toList _ rfl (by simp) (by simp) (fun j v hv => by have hh := (hr9.out.put (siOf x) oa cap).box j v (by simpa using hv); exact hh)) (by simp) ⟨⟨fun y hn => ?_, fun hn => by rw [Hpar.out] at hn; cases hn⟩, ?_⟩
     ·rw [Hpar.out] at hn
      injection hn with hn
      subst hn
      refine ⟨oa, cap, rfl, ?_⟩
      show TinsAt (putW w9 w.heap.size (siOf x) oa cap) oa (x.tins.map upL)
      have h2 := Hrow.out _ HE9.out
      have h3 : (putW w9 w.heap.size (siOf x) oa cap).ownsRow w1.heap.size 82 6 (.slice oa x.tins.length cap) x.tins.length (tinCells x.tins) := row_mv (I := fun i => i = w.heap.size) h2 (Mv.of_grown (turned_put w9 w.heap.size (siOf x) oa cap) fun i hi => by cases hi; rfl) (row_not h2 (by omega))
      generalize putW w9 w.heap.size (siOf x) oa cap = W9 at h3 ⊢
      exact row_tins h3 HS6.out
     ·exact ext_own (HEx0.out.trans HE9.out) (turned_put _ w.heap.size (siOf x) oa cap) (Nat.le_refl _)
    ·have heq : (textB x == l) = false := by rw [beq_eq_false_iff_ne]; exact he
     have hne : (textB x != l) = true := by rw [bne, heq]; rfl
     have Hpar := Lib.hid (show parse l = none by rw [Hpp.out, if_neg he])
     clear he
     go_wp2_with (first | (go_at_call 65; refine (Htx.out _ (Ext.refl _)).mono ?_; rintro e w9 ⟨rfl, hE9⟩; clear c0 c1 c2 c3 c4 c5 c6 c7 c8 c9 c10 c11 c12; have HEx := Lib.hid (HEx0.out.trans hE9); have HRB := Lib.hid (HRB0.out.ext hE9); have r0 := HRB.out.box 0 _ rfl; have r1 := HRB.out.box 1 _ rfl; have r2 := HRB.out.box 2 _ rfl; have r3 := HRB.out.box 3 _ rfl; have r4 := HRB.out.box 4 _ rfl; have r5 := HRB.out.box 5 _ rfl; have r6 := HRB.out.box 6 _ rfl; have r7 := HRB.out.box 7 _ rfl; have r8 := HRB.out.box 8 _ rfl; have r9 := HRB.out.box 9 _ rfl; have r10 := HRB.out.box 10 _ rfl; have r11 := HRB.out.box 11 _ rfl; have r12 := HRB.out.box 12 _ rfl; have q0 := HRB.out.fr 0 (by omega); have q1 := HRB.out.fr 1 (by omega); have q2 := HRB.out.fr 2 (by omega); have q3 := HRB.out.fr 3 (by omega); have q4 := HRB.out.fr 4 (by omega); have q5 := HRB.out.fr 5 (by omega); have q6 := HRB.out.fr 6 (by omega); have q7 := HRB.out.fr 7 (by omega); have q8 := HRB.out.fr 8 (by omega); have q9 := HRB.out.fr 9 (by omega); have q10 := HRB.out.fr 10 (by omega); have q11 := HRB.out.fr 11 (by omega); have q12 := HRB.out.fr 12 (by omega); clear hE9))
     clear r0 q0 r1 q1 r2 q2 r3 q3 r4 q4 r5 q5 r6 q6 r7 q7 r8 q8 r9 q9 r10 q10 r11 q11 r12 q12
     refine bodyPost_ret (v := .tuple #[sheetV noSI none 0, .bool false]) (results_cellst (n := 13) rfl (by kernel_rfl) (by kernel_rfl) _ w.heap.size (sheetC noSI none 0).toList _ rfl (by simp) (by simp) (fun j v hv => by have hh := (HRB.out.put noSI none 0).box j v (by simpa using hv); exact hh)) (by simp) ⟨rt_no Hpar.out rfl, ext_own HEx.out (turned_put _ w.heap.size noSI none 0) (Nat.le_refl _)⟩

end Go.Proofs.YtjpekonfjihcoaaGreatDoor
