/- Contracts and mathematics, joined: TextG. Conditions stand with each. -/
import Derived.ArgAppend
import Derived.Below
import Derived.BigQuiet
import Derived.Deep.DeepCutAuto
import Derived.Deep.DeepFit
import Derived.Deep.LoopGhost
import Derived.Deep.QuietTactic
import Derived.Deep.RegionHeld
import Derived.Deep.RegionHeld3
import Derived.Deep.RegionWith
import Derived.Defers
import Derived.Laws.BytesArg
import Derived.Laws.EntriesVeiled
import Derived.Laws.OwnMore
import Derived.Lib.Hide
import Derived.Lib.IndexBytes
import Derived.Lib.ItoaNum
import Derived.Lib.SplitLaws
import Derived.LoopIn
import Derived.LoopNIn
import Derived.Maps.AppendAt
import Derived.Maps.Keyed
import Derived.Maps.OwnIn
import Derived.OrdersHeld
import Derived.OwnWalkIn
import Derived.RangeFuncBound
import Derived.RangeFuncCalls
import Derived.RangeFuncLeaves
import Derived.RangeFuncNested
import Derived.Recover
import Derived.RegionIn
import Derived.Shelf.Abstract
import Derived.Shelf.Strconv.Itoa3
import Derived.Shelf.Strings.Split
import Derived.TacticsIn
import Derived.TacticsInMore
import Derived.Test.YtjpekonfjihcoaaGreatDoorProg
import Derived.WalkKit
import Derived.WalkLawsBesides
import Derived.WalkSpells
import Derived.Test.YtjpekonfjihcoaaGreatDoorM2
import Derived.Test.YtjpekonfjihcoaaGreatDoorM18
import Derived.Test.YtjpekonfjihcoaaGreatDoorM30
import Derived.Test.YtjpekonfjihcoaaGreatDoorM9
import Derived.Test.YtjpekonfjihcoaaGreatDoorM4
import Derived.Test.YtjpekonfjihcoaaGreatDoorM8
import Derived.Test.YtjpekonfjihcoaaGreatDoorM7
import Derived.Test.YtjpekonfjihcoaaGreatDoorM6
import Derived.Test.YtjpekonfjihcoaaGreatDoorM1
import Derived.Test.YtjpekonfjihcoaaGreatDoorM29
namespace Go.TintM
end Go.TintM
set_option maxRecDepth 100000
set_option maxHeartbeats 64000000
set_option linter.unusedVariables false
set_option linter.unusedSimpArgs false
/- Contract: parsed. No condition but on the length of the text. -/
namespace Go.Proofs.YtjpekonfjihcoaaGreatDoor
open Go.RowKit Go.My Go.TintM

theorem sheet_new (w : World) : SOwn (w.alloc (.cells #[.int .i64 0, .int .i64 0, .int .i64 0, .int .i64 0, .int .i64 0, .int .i64 0, .int .i64 0, .int .i64 0, .int .i64 0, .int .i64 0, .int .i64 0, .int .i64 0, .slice none 0 0] 28)) w.heap.size noSI none 0 := SOwn.of (heap_alloc_new w _)
theorem siOf_no : siOf noTx = noSI := rfl
theorem tinsLen (x : Tx) : (siOf x).tins.length = x.tins.length := by simp [siOf]
theorem six_cells (w : World) (a b c d e f : Int) : ∀ (j : Nat) (u : Value), [Value.int .i64 a, .int .i64 b, .int .i64 c, .int .i64 d, .int .i64 e, .int .i64 f][j]? = some u → (w.alloc (.cells #[.int .i64 a, .int .i64 b, .int .i64 c, .int .i64 d, .int .i64 e, .int .i64 f] 82)).cell? ((⟨w.heap.size, 0, none⟩ : Addr).add j) = some u := fun j u hu => by
 rw [add_none, Nat.zero_add, cell_of_row _ _ j _ _ _ (heap_alloc_new w _)]
 simpa using hu
theorem row_slice {w : World} {B sz n : Nat} {e : TypeId} {v : Value} {xs : List Value} (h : w.ownsRow B e sz v n xs) : ∃ oa cap, v = .slice oa n cap ∧ n ≤ cap := by
 rcases id h.2 with ⟨rfl, h2⟩ | ⟨g, cap, cur, rfl, hb, hh, h3, h4, h5, h7⟩
 ·exact ⟨none, 0, by rw [h2], by omega⟩
 ·exact ⟨_, cap, rfl, h3⟩
theorem row_low {w : World} {B B' sz n : Nat} {e : TypeId} {v : Value} {xs : List Value} (h : w.ownsRow B e sz v n xs) (hb : B' ≤ B) : w.ownsRow B' e sz v n xs :=
 ⟨h.1, h.2.imp id fun ⟨g, cap, cur, hv, hg, r⟩ => ⟨g, cap, cur, hv, Nat.le_trans hb hg, r⟩⟩
theorem i82 : (Tryz.prog.info? 82).map (fun i => (i.zero, i.size, i.bytes)) = some (some (.agg #[.int .i64 0, .int .i64 0, .int .i64 0, .int .i64 0, .int .i64 0, .int .i64 0]), 6, 48) := by kernel_rfl

theorem parsed_any (l : List UInt8) (m : Int) (w : World) (hl : l.length ≤ 900) (hm : w.cell? ⟨1, 0, none⟩ = some (.int .i64 m)) :
  Calls Tryz.prog 105 #[.string (bs l)] w fun e w' => ParsePost l w.heap.size e w' ∧ Ext w w' := by
 have hsp := fun (W : World) (hE : Ext w W) => split_any 10 l m W (by omega) (cell_ext hE hm)
 have hpl := spl_len 10 l
 have hps := @parse_short l
 have Hpa := Lib.hid (fun r (hr : r ∈ spl 10 l) => spl_part hr)
 have Hst := Lib.hid (fun i => @parse_stop l i)
 have Hpe := Lib.hid (show parse l = if (spl 10 l).length < 4 then none else (stTo (spl 10 l) ((spl 10 l).length - 2)).bind fun x => if textB x = l then some x else none from rfl)
 have Hps := Lib.hid hps
 have Hsp := Lib.hid hsp
 clear hps hsp
 generalize hR : spl 10 l = R at *
 have hcs := Lib.hid (fun (W : World) i x (h : R[i]? = some x) => cells_str W R h)
 clear hR
 by_cases h3 : R.length < 4
 ·have hb3 : decide ((4 : Int) ≤ (R.length : Int)) = false := by rw [decide_eq_false_iff_not]; omega
  go_enter Tryz.func105, Tryz.ntmps105
  go_wp2_with (first | (go_at_call 134; refine (Hsp.out _ ((Ext.refl w).alloc _)).mono ?_; rintro e w1 ⟨rfl, rfl⟩) | (go_at_call 135; refine (sure_bad _ _).mono ?_; rintro e w2 ⟨⟨s2, rfl⟩, rfl⟩))
  exact ⟨rfl, par_bad (Hps.out h3) ⟨s2, rfl⟩, ((Ext.refl w).alloc _).alloc _⟩
 ·have hb3 : (4 : Int) ≤ (R.length : Int) := by omega
  go_enter Tryz.func105, Tryz.ntmps105
  go_wp2_with (first | (go_at_call 134; refine (Hsp.out _ ((Ext.refl w).alloc _)).mono ?_; rintro e w1 ⟨rfl, rfl⟩) | (go_at_call 135; refine (sure_ok _ _).mono ?_; rintro e w2 ⟨⟨v2, rfl⟩, rfl⟩))
  obtain ⟨wA, hwA⟩ : ∃ W, W = ((w.alloc (.cells #[.int .i64 0, .int .i64 0, .int .i64 0, .int .i64 0, .int .i64 0, .int .i64 0, .int .i64 0, .int .i64 0, .int .i64 0, .int .i64 0, .int .i64 0, .int .i64 0, .slice none 0 0] 28)).alloc (.cells (R.map fun x => Value.string (bs x)).toArray 9)).alloc (.cells #[.int .i64 0, .int .i64 0, .int .i64 0, .int .i64 0, .int .i64 0, .int .i64 0, .int .i64 0, .int .i64 0, .int .i64 0, .int .i64 0, .int .i64 0, .int .i64 0, .slice none 0 0] 28) := ⟨_, rfl⟩
  have hEA : Ext w wA := by rw [hwA]; exact (((Ext.refl w).alloc _).alloc _).alloc _
  have hsA : wA.heap.size = w.heap.size + 3 := by rw [hwA]; simp
  have hrow : ∀ (i : Nat) (x : List UInt8), R[i]? = some x → wA.cell? ⟨w.heap.size + 1, i, none⟩ = some (.string (bs x)) := fun i x hx => by
   have := hcs.out (w.alloc (.cells #[.int .i64 0, .int .i64 0, .int .i64 0, .int .i64 0, .int .i64 0, .int .i64 0, .int .i64 0, .int .i64 0, .int .i64 0, .int .i64 0, .int .i64 0, .int .i64 0, .slice none 0 0] 28)) i x hx
   rw [World.size_alloc] at this
   rw [hwA]
   exact cell_ext ((Ext.refl _).alloc _) this
  have hres : SOwn wA w.heap.size noSI none 0 := by rw [hwA]; exact ((sheet_new w).ext ((Ext.refl _).alloc _)).ext ((Ext.refl _).alloc _)
  have hbx : SOwn wA (w.heap.size + 1 + 1) noSI none 0 := by
   rw [hwA]
   have := sheet_new ((w.alloc (.cells #[.int .i64 0, .int .i64 0, .int .i64 0, .int .i64 0, .int .i64 0, .int .i64 0, .int .i64 0, .int .i64 0, .int .i64 0, .int .i64 0, .int .i64 0, .int .i64 0, .slice none 0 0] 28)).alloc (.cells (R.map fun x => Value.string (bs x)).toArray 9))
   simpa only [World.size_alloc] using this
  have hps0 : PSt w wA wA (w.heap.size + 1 + 1) noTx none 0 := ⟨hEA, Turned.refl _ _, hbx, World.ownsRow_nil _ _ _ _, by omega, by omega⟩
  have Hres := Lib.hid hres
  have Hrow := Lib.hid hrow
  have Hps0 := Lib.hid hps0
  have Hm := Lib.hid hm
  rw [← hwA]
  have hsA1 : w.heap.size + 2 < wA.heap.size := by omega
  clear hwA hEA hrow hres hbx hps0 hm hsA
  go_loopg [23] (R.length - 2) (fun g i wr => ∃ (k : Nat) (x : Tx) (oa : Option Addr) (cap : Nat), k + g = R.length - 2 ∧ i = .int .i64 k ∧ stTo R k = some x ∧ PSt w wA wr (w.heap.size + 1 + 1) x oa cap)
  case atStart => exact ⟨0, noTx, _, _, by simp, rfl, rfl, Hps0.out⟩
  case round =>
   clear Hps0
   obtain ⟨k, x, oa, cap, hk, rfl, hst, ps⟩ := hrel
   have Ps := Lib.hid ps
   have HST := Lib.hid hst
   clear ps hst
   by_cases hlt : k < R.length - 2
   ·have hkR : k < R.length := by omega
    have hr0 := Turned.cell Ps.out.turned (p := ⟨w.heap.size + 1, k, none⟩) (by simp) (Hrow.out k R[k] (by simp [hkR]))
    have hrl := Hpa.out _ (List.getElem_mem hkR)
    have hrk : R[k]? = some R[k] := by simp [hkR]
    have Hrk := Lib.hid hrk
    clear hrk
    generalize hr : R[k] = r at *
    clear hr
    obtain ⟨wo, rfl⟩ : ∃ wo : World, wo = wr := ⟨_, rfl⟩
    obtain ⟨g0, rfl⟩ : ∃ g0 : Nat, g0 = gk := ⟨_, rfl⟩
    have hs4 := split_any 32 r m wo (by omega) (cell_ext Ps.out.ext Hm.out)
    have hT := fun ns => @lineOk_of r ns
    have hB := fun x => @lineOk_bad r x
    have hW1 := spl_pos 32 r
    have hWl := spl_len 32 r
    have hWp : ∀ x ∈ spl 32 r, x.length ≤ 900 := fun x hx => Nat.le_trans (spl_part hx) (by omega)
    have HT := Lib.hid hT
    have HB := Lib.hid hB
    have HWp := Lib.hid hWp
    have hcw := fun i x (h : (spl 32 r)[i]? = some x) => cells_str wo (spl 32 r) h
    have Hcw := Lib.hid hcw
    have Hs4 := Lib.hid hs4
    clear hT hB hWp hcw hs4
    generalize hW : spl 32 r = Wd at *
    clear hW
    have hd9 : Wd.length ≤ 9223372036854775807 := by omega
    go_wp2_with (first | (go_at_call 134; refine Hs4.out.mono ?_; rintro e w4 ⟨rfl, rfl⟩))
    all_goals
     go_loopg [7, 32] (Wd.length - 1) (fun g v i wr => ∃ (j : Nat) (ns : List Nat), j + g = Wd.length - 1 ∧ i = .int .i64 j ∧ Ext (wo.alloc (.cells (Wd.map fun x => Value.string (bs x)).toArray 9)) wr ∧ My.Own wr (wo.heap.size + 1) 3 v ((upL ns).map (Value.int .i64)) ∧ (Wd.tail.take j).mapM parseNum = some ns)
     case atStart => exact ⟨0, [], by simp, rfl, Ext.refl _, My.Own.nil _ _ _, rfl⟩
     case round =>
      obtain ⟨j, ns, hj, rfl, hE5, hown, hmp⟩ := hrel
      have Hown := Lib.hid hown
      have Hmp := Lib.hid hmp
      clear hown hmp
      obtain ⟨wp, rfl⟩ : ∃ wp : World, wp = wr := ⟨_, rfl⟩
      by_cases hlt2 : j < Wd.length - 1
      ·first
        | (exfalso; omega)
        | (have hjW : 1 + j < Wd.length := by omega
           have hcx := cell_ext hE5 (Hcw.out (1 + j) Wd[1 + j] (by simp [hjW]))
           have hxm : Wd[1 + j] ∈ Wd.tail := by
            have : Wd.tail[j]? = some Wd[1 + j] := by rw [List.getElem?_tail]; simp [Nat.add_comm, hjW]
            exact List.mem_of_getElem? this
           have hx9 := HWp.out _ (List.getElem_mem hjW)
           have htk : Wd.tail.take (j + 1) = Wd.tail.take j ++ [Wd[1 + j]] := by
            rw [List.take_succ_eq_append_getElem (by rw [List.length_tail]; omega)]
            simp [Nat.add_comm]
           have Htk := Lib.hid htk
           have Hxm := Lib.hid hxm
           clear htk hxm
           generalize hX : Wd[1 + j] = x9 at *
           clear hX
           have hnum := fun W => number_any x9 W (by omega)
           have Hnum := Lib.hid hnum
           clear hnum
           cases hpn : parseNum x9 with
           | none =>
            have hpar := Hst.out (k + 1) (by rw [stTo_next HST.out Hrk.out, HB.out x9 Hxm.out hpn]; rfl) (by omega)
            have Hpar := Lib.hid hpar
            have Hpn := Lib.hid hpn
            clear hpar hpn
            go_wp2_with (first | (go_at_call 136; refine (Hnum.out _).mono ?_; rintro e w6 ⟨hnp, hE6⟩; obtain ⟨s6, rfl⟩ := hnp.2 Hpn.out; clear hnp))
            exact ⟨rfl, par_bad Hpar.out ⟨s6, rfl⟩, (Ps.out.ext.trans (((Ext.refl wo).alloc _).trans hE5)).trans hE6⟩
           | some n =>
            have hmn : (Wd.tail.take (j + 1)).mapM parseNum = some (ns ++ [n]) := by rw [Htk.out, mapM_snoc, Hmp.out, hpn]; rfl
            have hnl : ns.length ≤ 1000 := by
             have h1 := mapM_len Hmp.out
             rw [List.length_take, List.length_tail] at h1
             omega
            have Hmn := Lib.hid hmn
            have Hpn := Lib.hid hpn
            clear hmn hpn
            go_wp2_with (first | (go_at_call 136; refine (Hnum.out _).mono ?_; rintro e w6 ⟨hnp, hE6⟩; obtain rfl := hnp.1 n Hpn.out; clear hnp) | (at_builtin; refine wpList_app1 _ rfl _ _ 29 rfl 3 Tryz.underlying29 (.int .i64 0) 8 i3 rfl (by decide) (wo.heap.size + 1) _ _ rfl ((Hown.out.ext hE6).ext ((Ext.refl _).alloc _)) w6.heap.size (.int .i64 n) rfl (by go_simp) rfl ?_ ?_ ?_))
            ·simp [upL]; omega
            ·have := (hE5.trans hE6).size; simp at this ⊢; omega
            ·intro v' w7 hown7 hBl _
             have Ho7 := Lib.hid hown7; clear hown7
             go_wp2
             go_roundg (gk - 1)
             case measure => omega
             case rel => exact ⟨j + 1, ns ++ [n], by omega, by go_num, ((hE5.trans hE6).alloc _).below hBl (by simp), by rw [upL_snoc, List.map_append]; exact Ho7.out, Hmn.out⟩)
      ·have hjj : Wd.tail.take j = Wd.tail := List.take_of_length_le (by rw [List.length_tail]; omega)
       have hmp := Hmp.out
       rw [hjj] at hmp
       have hok := HT.out ns hmp
       have hnl : ns.length ≤ 1000 := by
        have h1 := mapM_len hmp
        rw [List.length_tail] at h1
        omega
       obtain ⟨oN, cN, hvN, n1, n2, n3, n4⟩ := Hown.out.slice
       have N4 := Lib.hid n4
       clear n4
       rw [List.length_map, upL_length] at hvN n1
       subst hvN
       have hEo : Ext wo wp := ((Ext.refl wo).alloc _).trans hE5
       have Ps5 := Lib.hid (Ps.out.next hEo)
       have Hok := Lib.hid hok
       have hsEo := hEo.size
       clear hok hmp Hmp hjj Hcw HWp HB HT
       by_cases hn6 : ns.length = 6
       ·have hst1 : stTo R (k + 1) = some (setTx x k ns) := by rw [stTo_next HST.out Hrk.out, Hok.out, if_pos hn6]; rfl
        have Hst1 := Lib.hid hst1
        have hn6' : ((ns.length : Int) == 6) = true := by simp [hn6]
        have hni := fun i (hi : i < 6) => N4.out i (.int .i64 (ns.getD i 0 : Nat)) (by simp [upL, List.getD, show i < ns.length by omega])
        obtain ⟨bN, hoN, hbN, u0⟩ := hni 0 (by omega)
        subst hoN
        have hbo : ∀ i, i < 6 → wp.cell? ⟨bN, i, none⟩ = some (.int .i64 (ns.getD i 0 : Nat)) := fun i hi => by
         obtain ⟨b', h1, _, h2⟩ := hni i hi
         simp only [Option.some.injEq, Addr.mk.injEq, and_true] at h1
         subst h1
         exact h2
        obtain ⟨a0, a1, a2, a3, a4, a5, hns⟩ := six_of hn6
        have u1 := hbo 1 (by omega)
        have u2 := hbo 2 (by omega)
        have u3 := hbo 3 (by omega)
        have u4 := hbo 4 (by omega)
        have u5 := hbo 5 (by omega)
        clear hni hbo hst1
        subst hns
        simp only [List.getD_cons_zero, List.getD_cons_succ, List.getD_eq_getElem?_getD, List.getElem?_cons_zero, List.getElem?_cons_succ, Option.getD_some, List.length_cons, List.length_nil, Nat.reduceAdd, Nat.zero_add] at u0 u1 u2 u3 u4 u5 hn6' n1 ⊢
        have hbl := World.block_lt_of_cell? _ _ u0
        simp only at hbl
        have hsz5 := Ps5.out.size
        have hbne : ¬ bN = w.heap.size + 1 + 1 := by have := Ps.out.size; omega
        have Hsp6 := Lib.hid (fun W (hW : Ext wp W) => spans_any a0 a1 a2 a3 a4 a5 bN cN n1 W (cell_ext hW u0) (cell_ext hW u1) (cell_ext hW u2) (cell_ext hW u3) (cell_ext hW u4) (cell_ext hW u5))
        have hEw : Ext w wp := Ps5.out.ext
        have HPs := Ps5
        have hs13 : (w.heap.size + 1 + 1) < wp.heap.size := by have := Ps5.out.size; omega
        by_cases hk0 : k = 0
        ·subst hk0
         have Hfr := Lib.hid Ps5.out.own
         go_wp2_with (first | (go_at_call 135; refine (sure_ok _ _).mono ?_; rintro e w7 ⟨⟨v7, rfl⟩, h7⟩; obtain rfl := h7.symm))
         refine wp_region_plan (.take 0 <| .take 1 <| .take 2 <| .take 3 <| .take 4 <| .take 5 <| .take 6 <| .take 7 <| .take 8 <| .take 9 <| .take 10 <| .take 11 <| .take 12 <| .take 13 <| .take 14 <| .take 15 <| .take 16 <| .take 17 <| .take 18 <| .take 19 <| .take 20 <| .only 21 <| .take 22 <| .only 23 <| .take 24 <| .only 25 <| .done) (fun W => Turned (w.heap.size + 1 + 1) wp W) mixed (by kernel_rfl) (by kernel_rfl) rfl (fun _ _ d _ _ h => by cases d <;> exact h) (Turned.of_ext (Ext.refl wp).drew) ?_
         repeat ((first | (refine plan_take (v := ?_) rfl rfl (fun W hW => ?_) ?_; rotate_left; (focus (have d0 := Turned.cell hW (p := ⟨bN, 0, none⟩) (by simpa using hbne) u0; have d1 := Turned.cell hW (p := ⟨bN, 1, none⟩) (by simpa using hbne) u1; have d2 := Turned.cell hW (p := ⟨bN, 2, none⟩) (by simpa using hbne) u2; have d3 := Turned.cell hW (p := ⟨bN, 3, none⟩) (by simpa using hbne) u3; have d4 := Turned.cell hW (p := ⟨bN, 4, none⟩) (by simpa using hbne) u4; have d5 := Turned.cell hW (p := ⟨bN, 5, none⟩) (by simpa using hbne) u5; go_simp; first | exact rfl | (split <;> first | exact rfl | (exfalso; omega)) | done))) | refine plan_skip rfl rfl ?_); simp only [puts])
         refine plan_walk rfl ?_; intro K hK
         have HE1 := Lib.hid ((Ext.refl wp).drew)
         have HT := Lib.hid (Turned.of_ext (b := w.heap.size + 1 + 1) (Ext.refl wp).drew)
         have Psd := Lib.hid (Ps5.out.next (Ext.refl wp).drew)
         clear u0 u1 u2 u3 u4 u5 Hsp6 Hfr
         generalize wp.drew = wd at *
         have c0 := Psd.out.own.box 0 _ rfl; have c1 := Psd.out.own.box 1 _ rfl; have c2 := Psd.out.own.box 2 _ rfl; have c3 := Psd.out.own.box 3 _ rfl; have c4 := Psd.out.own.box 4 _ rfl; have c5 := Psd.out.own.box 5 _ rfl; have c6 := Psd.out.own.box 6 _ rfl; have c7 := Psd.out.own.box 7 _ rfl; have c8 := Psd.out.own.box 8 _ rfl; have c9 := Psd.out.own.box 9 _ rfl; have c10 := Psd.out.own.box 10 _ rfl; have c11 := Psd.out.own.box 11 _ rfl; have c12 : World.cell? wd ⟨(w.heap.size + 1 + 1), 12, none⟩ = some (.slice oa (siOf x).tins.length cap) := Psd.out.own.box 12 _ rfl
         clear c3 c4 c5 c6 c7 c8 c12
         have f0 := Psd.out.own.fr 0 (by omega)
         have f1 := Psd.out.own.fr 1 (by omega)
         have f2 := Psd.out.own.fr 2 (by omega)
         have f9 := Psd.out.own.fr 9 (by omega)
         have f10 := Psd.out.own.fr 10 (by omega)
         have f11 := Psd.out.own.fr 11 (by omega)
         go_wp2
         refine hK _ _ (((HT.out.set 0 _).set 1 _).set 2 _) ?_
         repeat ((first | (refine plan_take (v := ?_) rfl rfl (fun W hW => ?_) ?_; rotate_left; (focus (skip; go_simp; first | exact rfl | (split <;> first | exact rfl | (exfalso; omega)) | done))) | refine plan_skip rfl rfl ?_); simp only [puts])
         refine plan_walk rfl ?_; intro K hK
         go_wp2
         refine hK _ _ (((((HT.out.set 0 _).set 1 _).set 2 _).set 9 _).set 10 _) ?_
         repeat ((first | (refine plan_take (v := ?_) rfl rfl (fun W hW => ?_) ?_; rotate_left; (focus (skip; go_simp; first | exact rfl | (split <;> first | exact rfl | (exfalso; omega)) | done))) | refine plan_skip rfl rfl ?_); simp only [puts])
         refine plan_walk rfl ?_; intro K hK
         go_wp2
         refine hK _ _ ((((((HT.out.set 0 _).set 1 _).set 2 _).set 9 _).set 10 _).set 11 _) ?_
         refine plan_done ?_
         clear c0 c1 c2 c9 c10 c11 f0 f1 f2 f9 f10 f11
         go_wp2
         go_roundg (g0 - 1)
         case measure => omega
         case rel => exact ⟨1, _, _, _, by omega, by go_num, Hst1.out, Psd.out.head a0 a1 a2 a3 a4 a5⟩
        ·by_cases hk1 : k = 1
         ·subst hk1
          go_wp2_with (first | (go_at_call 135; refine (sure_ok _ _).mono ?_; rintro e w7 ⟨⟨v7, rfl⟩, h7⟩; obtain rfl := h7.symm) | (go_at_call 137; refine (Hsp6.out _ (Ext.refl wp)).mono ?_; rintro e w7 ⟨rfl, hE7⟩; have Ps7 := Lib.hid (Ps5.out.next hE7); clear hE7; have c0 := Ps7.out.own.box 0 _ rfl; have c1 := Ps7.out.own.box 1 _ rfl; have c2 := Ps7.out.own.box 2 _ rfl; have c3 := Ps7.out.own.box 3 _ rfl; have c4 := Ps7.out.own.box 4 _ rfl; have c5 := Ps7.out.own.box 5 _ rfl; have c6 := Ps7.out.own.box 6 _ rfl; have c7 := Ps7.out.own.box 7 _ rfl; have c8 := Ps7.out.own.box 8 _ rfl; have c9 := Ps7.out.own.box 9 _ rfl; have c10 := Ps7.out.own.box 10 _ rfl; have c11 := Ps7.out.own.box 11 _ rfl; have c12 : World.cell? w7 ⟨(w.heap.size + 1 + 1), 12, none⟩ = some (.slice oa (siOf x).tins.length cap) := Ps7.out.own.box 12 _ rfl; clear c0 c1 c2 c9 c10 c11 c12; have f3 := Ps7.out.own.fr 3 (by omega); have f4 := Ps7.out.own.fr 4 (by omega); have f5 := Ps7.out.own.fr 5 (by omega); have f6 := Ps7.out.own.fr 6 (by omega); have f7 := Ps7.out.own.fr 7 (by omega); have f8 := Ps7.out.own.fr 8 (by omega)))
          clear c3 c4 c5 c6 c7 c8 f3 f4 f5 f6 f7 f8
          go_roundg (g0 - 1)
          case measure => omega
          case rel => exact ⟨2, _, _, _, by omega, by go_num, Hst1.out, Ps7.out.fade a0 a1 a2 a3 a4 a5⟩
         ·have hkk0 : ((k : Int) == 0) = false := by simpa using hk0
          have hkk1 : ((k : Int) == 1) = false := by simpa using (by omega : ¬ (k : Int) = 1)
          have Q12 := Lib.hid (fun W (hE : Ext wp W) => cell_ext hE (show wp.cell? ⟨w.heap.size + 1 + 1, 12, none⟩ = some (.slice oa x.tins.length cap) by rw [← tinsLen x]; exact Ps5.out.own.box 12 _ rfl))
          have hxl := stTo_len HST.out
          obtain ⟨ii, hi1, hi2, hi3, hi4⟩ := info_parts i82
          have HEnd := Lib.hid (fun (W W8 : World) (oa' : Option Addr) (cap' : Nat) (hE : Ext wp W) (hr : W8.ownsRow wA.heap.size 82 6 (.slice oa' (x.tins.length + 1) cap') (x.tins.length + 1) (tinCells x.tins ++ (upL [a0, a1, a2, a3, a4, a5]).map (Value.int .i64))) (hB : Below wA.heap.size W W8) => (Ps5.out.next hE).tins (ns := [a0, a1, a2, a3, a4, a5]) (k := k) (by omega) hB hr)
          have HRow := Lib.hid (fun (W : World) (hE : Ext wp W) => (Ps5.out.next hE).row)
          have HOwn := Lib.hid (fun (W W8 : World) (hE : Ext wp W) (hB : Below wA.heap.size W W8) => ((Ps5.out.next hE).own.below hB (by omega)))
          clear u0 u1 u2 u3 u4 u5
          go_wp2_with (first | (go_at_call 135; refine (sure_ok _ _).mono ?_; rintro e w7 ⟨⟨v7, rfl⟩, h7⟩; obtain rfl := h7.symm))
          refine wp_region_plan (.take 0 <| .take 2 <| .two 1 3 (.only 3 <| .take 4 <| .only 5 <| .only 6 <| .take 7 <| .only 8 <| .done) (.take 4 <| .two 1 5 (.only 5 <| .only 6 <| .take 7 <| .only 8 <| .done) (.only 1 <| .only 6 <| .take 7 <| .only 8 <| .done))) (fun W => True) mixed (by kernel_rfl) (by kernel_rfl) rfl (fun _ _ d _ _ h => by cases d <;> exact h) (trivial) ?_
          repeat ((first | (refine plan_take (v := ?_) rfl rfl (fun W hW => ?_) ?_; rotate_left; (focus (skip; go_simp; first | exact rfl | (split <;> first | exact rfl | (exfalso; omega)) | done))) | refine plan_skip rfl rfl ?_); simp only [puts])
          refine plan_two rfl rfl ?_ ?_
          ·intro K hK
           have X1 := (Ext.refl wp).drew
           have q := Q12.out _ X1
           go_wp2
           refine hK _ _ trivial ?_
           clear q
           refine plan_walk rfl ?_; intro K hK
           go_wp2_with (first | (go_at_call 137; refine (Hsp6.out _ X1).mono ?_; rintro e w7 ⟨rfl, hE7⟩; have X7 := X1.trans hE7; clear hE7))
           refine hK _ _ trivial ?_
           repeat ((first | (refine plan_take (v := ?_) rfl rfl (fun W hW => ?_) ?_; rotate_left; (focus (skip; go_simp; first | exact rfl | (split <;> first | exact rfl | (exfalso; omega)) | done))) | refine plan_skip rfl rfl ?_); simp only [puts])
           refine plan_walk rfl ?_; intro K hK
           go_wp2
           refine hK _ _ trivial ?_
           have X8 := X7.alloc (.cells #[.int .i64 a0, .int .i64 a1, .int .i64 a2, .int .i64 a3, .int .i64 a4, .int .i64 a5] 82)
           have hx8 := X8.size
           have hsix := six_cells w7 a0 a1 a2 a3 a4 a5
           refine plan_walk rfl ?_; intro K hK
           go_wp2_with (first | (at_builtin; refine wpList_append_own_at _ rfl _ _ 26 rfl wA.heap.size 82 ii (.agg #[.int .i64 0, .int .i64 0, .int .i64 0, .int .i64 0, .int .i64 0, .int .i64 0]) 6 48 Tryz.underlying26 hi1 hi2 hi3 hi4 rfl (by decide) _ x.tins.length (tinCells x.tins) rfl (HRow.out _ X8) ⟨w7.heap.size, 0, none⟩ 1 1 [.int .i64 a0, .int .i64 a1, .int .i64 a2, .int .i64 a3, .int .i64 a4, .int .i64 a5] rfl rfl hsix (by simp [Value.oneCell']) (by unfold maxLen; omega) (by omega) (by omega) ?_))
           intro v' w8 hr8 hg8 _ _
           have hB8 := (Below.refl wA.heap.size _).grown hg8 (by omega) fun b hb => ((HRow.out _ X8).lt b hb).1
           obtain ⟨oa', cap', hv8, _⟩ := row_slice hr8
           subst hv8
           have Hend := Lib.hid (HEnd.out _ _ _ _ X8 hr8 hB8)
           have o8 := HOwn.out _ _ X8 hB8
           have c12 := o8.box 12 _ rfl
           have f12 := o8.fr 12 (by omega)
           clear hr8 hg8 hB8 o8 hsix X7 X8
           go_wp2
           refine hK _ _ trivial ?_
           repeat ((first | (refine plan_take (v := ?_) rfl rfl (fun W hW => ?_) ?_; rotate_left; (focus (skip; go_simp; first | exact rfl | (split <;> first | exact rfl | (exfalso; omega)) | done))) | refine plan_skip rfl rfl ?_); simp only [puts])
           refine plan_walk rfl ?_; intro K hK
           go_wp2
           refine hK _ _ trivial ?_
           refine plan_done ?_
           clear c12 f12
           go_wp2
           go_roundg (g0 - 1)
           case measure => omega
           case rel => exact ⟨k + 1, _, _, _, by omega, by go_num, Hst1.out, Hend.out⟩
          ·intro K hK
           have X1 := (Ext.refl wp).drew
           go_wp2_with (first | (go_at_call 137; refine (Hsp6.out _ X1).mono ?_; rintro e w7 ⟨rfl, hE7⟩; have X7 := X1.trans hE7; clear hE7))
           refine hK _ _ trivial ?_
           repeat ((first | (refine plan_take (v := ?_) rfl rfl (fun W hW => ?_) ?_; rotate_left; (focus (skip; go_simp; first | exact rfl | (split <;> first | exact rfl | (exfalso; omega)) | done))) | refine plan_skip rfl rfl ?_); simp only [puts])
           refine plan_two rfl rfl ?_ ?_
           ·intro K hK
            have q := Q12.out _ X7
            go_wp2
            refine hK _ _ trivial ?_
            clear q
            refine plan_walk rfl ?_; intro K hK
            go_wp2
            refine hK _ _ trivial ?_
            have X8 := X7.alloc (.cells #[.int .i64 a0, .int .i64 a1, .int .i64 a2, .int .i64 a3, .int .i64 a4, .int .i64 a5] 82)
            have hx8 := X8.size
            have hsix := six_cells w7 a0 a1 a2 a3 a4 a5
            refine plan_walk rfl ?_; intro K hK
            go_wp2_with (first | (at_builtin; refine wpList_append_own_at _ rfl _ _ 26 rfl wA.heap.size 82 ii (.agg #[.int .i64 0, .int .i64 0, .int .i64 0, .int .i64 0, .int .i64 0, .int .i64 0]) 6 48 Tryz.underlying26 hi1 hi2 hi3 hi4 rfl (by decide) _ x.tins.length (tinCells x.tins) rfl (HRow.out _ X8) ⟨w7.heap.size, 0, none⟩ 1 1 [.int .i64 a0, .int .i64 a1, .int .i64 a2, .int .i64 a3, .int .i64 a4, .int .i64 a5] rfl rfl hsix (by simp [Value.oneCell']) (by unfold maxLen; omega) (by omega) (by omega) ?_))
            intro v' w8 hr8 hg8 _ _
            have hB8 := (Below.refl wA.heap.size _).grown hg8 (by omega) fun b hb => ((HRow.out _ X8).lt b hb).1
            obtain ⟨oa', cap', hv8, _⟩ := row_slice hr8
            subst hv8
            have Hend := Lib.hid (HEnd.out _ _ _ _ X8 hr8 hB8)
            have o8 := HOwn.out _ _ X8 hB8
            have c12 := o8.box 12 _ rfl
            have f12 := o8.fr 12 (by omega)
            clear hr8 hg8 hB8 o8 hsix X7 X8
            go_wp2
            refine hK _ _ trivial ?_
            repeat ((first | (refine plan_take (v := ?_) rfl rfl (fun W hW => ?_) ?_; rotate_left; (focus (skip; go_simp; first | exact rfl | (split <;> first | exact rfl | (exfalso; omega)) | done))) | refine plan_skip rfl rfl ?_); simp only [puts])
            refine plan_walk rfl ?_; intro K hK
            go_wp2
            refine hK _ _ trivial ?_
            refine plan_done ?_
            clear c12 f12
            go_wp2
            go_roundg (g0 - 1)
            case measure => omega
            case rel => exact ⟨k + 1, _, _, _, by omega, by go_num, Hst1.out, Hend.out⟩
           ·intro K hK
            go_wp2
            refine hK _ _ trivial ?_
            refine plan_walk rfl ?_; intro K hK
            have q := Q12.out _ (X7.alloc (.cells #[.int .i64 a0, .int .i64 a1, .int .i64 a2, .int .i64 a3, .int .i64 a4, .int .i64 a5] 82))
            go_wp2
            refine hK _ _ trivial ?_
            clear q
            have X8 := X7.alloc (.cells #[.int .i64 a0, .int .i64 a1, .int .i64 a2, .int .i64 a3, .int .i64 a4, .int .i64 a5] 82)
            have hx8 := X8.size
            have hsix := six_cells w7 a0 a1 a2 a3 a4 a5
            refine plan_walk rfl ?_; intro K hK
            go_wp2_with (first | (at_builtin; refine wpList_append_own_at _ rfl _ _ 26 rfl wA.heap.size 82 ii (.agg #[.int .i64 0, .int .i64 0, .int .i64 0, .int .i64 0, .int .i64 0, .int .i64 0]) 6 48 Tryz.underlying26 hi1 hi2 hi3 hi4 rfl (by decide) _ x.tins.length (tinCells x.tins) rfl (HRow.out _ X8) ⟨w7.heap.size, 0, none⟩ 1 1 [.int .i64 a0, .int .i64 a1, .int .i64 a2, .int .i64 a3, .int .i64 a4, .int .i64 a5] rfl rfl hsix (by simp [Value.oneCell']) (by unfold maxLen; omega) (by omega) (by omega) ?_))
            intro v' w8 hr8 hg8 _ _
            have hB8 := (Below.refl wA.heap.size _).grown hg8 (by omega) fun b hb => ((HRow.out _ X8).lt b hb).1
            obtain ⟨oa', cap', hv8, _⟩ := row_slice hr8
            subst hv8
            have Hend := Lib.hid (HEnd.out _ _ _ _ X8 hr8 hB8)
            have o8 := HOwn.out _ _ X8 hB8
            have c12 := o8.box 12 _ rfl
            have f12 := o8.fr 12 (by omega)
            clear hr8 hg8 hB8 o8 hsix X7 X8
            go_wp2
            refine hK _ _ trivial ?_
            repeat ((first | (refine plan_take (v := ?_) rfl rfl (fun W hW => ?_) ?_; rotate_left; (focus (skip; go_simp; first | exact rfl | (split <;> first | exact rfl | (exfalso; omega)) | done))) | refine plan_skip rfl rfl ?_); simp only [puts])
            refine plan_walk rfl ?_; intro K hK
            go_wp2
            refine hK _ _ trivial ?_
            refine plan_done ?_
            clear c12 f12
            go_wp2
            go_roundg (g0 - 1)
            case measure => omega
            case rel => exact ⟨k + 1, _, _, _, by omega, by go_num, Hst1.out, Hend.out⟩
       ·have hn6' : ((ns.length : Int) == 6) = false := by simpa using (by omega : ¬ (ns.length : Int) = 6)
        have hpar := Lib.hid (Hst.out (k + 1) (by rw [stTo_next HST.out Hrk.out, Hok.out, if_neg hn6]; rfl) (by omega))
        have HEw := Lib.hid Ps5.out.ext
        go_wp2_with (first | (go_at_call 135; refine (sure_bad _ _).mono ?_; rintro e w7 ⟨⟨s7, rfl⟩, rfl⟩))
        exact ⟨rfl, par_bad hpar.out ⟨s7, rfl⟩, HEw.out⟩
   ·have hkk : k = R.length - 2 := by omega
    have hst1 := HST.out
    have hsm := stTo_small hst1
    have hxl := stTo_len hst1
    have hpp : parse l = if textB x = l then some x else none := by rw [Hpe.out, if_neg h3, ← hkk, hst1]; rfl
    obtain ⟨oa0, cap0, hv0, _, _, _, htin⟩ := tins_row Ps.out.row (fun t ht => (hsm.tins t ht).1)
    obtain ⟨rfl, rfl⟩ : oa = oa0 ∧ cap = cap0 := by injection hv0 with e1 e2 e3; exact ⟨e1, e3⟩
    have Htx := Lib.hid (fun W (hE : Ext wr W) => text_any x hsm (by omega) oa cap W (htin.ext hE))
    have Hpp := Lib.hid hpp
    have hrl := Ps.out.size
    have Hr := Lib.hid (Hres.out.turned Ps.out.turned (by omega))
    have Hbx := Lib.hid (fun W (hE : Ext wr W) => Ps.out.own.ext hE)
    have HE := Lib.hid Ps.out.ext
    have Hrow := Lib.hid (fun W (hE : Ext wr W) => (Ps.out.next hE).row)
    clear hst1 hsm hpp htin hv0
    have c0 := Ps.out.own.box 0 _ rfl; have c1 := Ps.out.own.box 1 _ rfl; have c2 := Ps.out.own.box 2 _ rfl; have c3 := Ps.out.own.box 3 _ rfl; have c4 := Ps.out.own.box 4 _ rfl; have c5 := Ps.out.own.box 5 _ rfl; have c6 := Ps.out.own.box 6 _ rfl; have c7 := Ps.out.own.box 7 _ rfl; have c8 := Ps.out.own.box 8 _ rfl; have c9 := Ps.out.own.box 9 _ rfl; have c10 := Ps.out.own.box 10 _ rfl; have c11 := Ps.out.own.box 11 _ rfl; have c12 : World.cell? wr ⟨(w.heap.size + 1 + 1), 12, none⟩ = some (.slice oa (siOf x).tins.length cap) := Ps.out.own.box 12 _ rfl
    clear Ps HST Hst Hpe Hpa
    by_cases he : textB x = l
    ·have heq : (textB x == l) = true := by rw [beq_iff_eq]; exact he
     have hpa : parse l = some x := by rw [Hpp.out, if_pos he]
     have Hpar := Lib.hid hpa
     clear hpa he
     go_wp2_with (first | (go_at_call 103; refine (Htx.out _ (Ext.refl _)).mono ?_; rintro e w9 ⟨rfl, hE9⟩; clear c0 c1 c2 c3 c4 c5 c6 c7 c8 c9 c10 c11 c12; have c0 : World.cell? w9 ⟨(w.heap.size + 1 + 1), 0, none⟩ = some (.int .i64 (siOf x).o0) := (Hbx.out _ hE9).box 0 _ rfl; have c1 : World.cell? w9 ⟨(w.heap.size + 1 + 1), 1, none⟩ = some (.int .i64 (siOf x).o1) := (Hbx.out _ hE9).box 1 _ rfl; have c2 : World.cell? w9 ⟨(w.heap.size + 1 + 1), 2, none⟩ = some (.int .i64 (siOf x).o2) := (Hbx.out _ hE9).box 2 _ rfl; have c3 : World.cell? w9 ⟨(w.heap.size + 1 + 1), 3, none⟩ = some (.int .i64 (siOf x).a0) := (Hbx.out _ hE9).box 3 _ rfl; have c4 : World.cell? w9 ⟨(w.heap.size + 1 + 1), 4, none⟩ = some (.int .i64 (siOf x).b0) := (Hbx.out _ hE9).box 4 _ rfl; have c5 : World.cell? w9 ⟨(w.heap.size + 1 + 1), 5, none⟩ = some (.int .i64 (siOf x).a1) := (Hbx.out _ hE9).box 5 _ rfl; have c6 : World.cell? w9 ⟨(w.heap.size + 1 + 1), 6, none⟩ = some (.int .i64 (siOf x).b1) := (Hbx.out _ hE9).box 6 _ rfl; have c7 : World.cell? w9 ⟨(w.heap.size + 1 + 1), 7, none⟩ = some (.int .i64 (siOf x).a2) := (Hbx.out _ hE9).box 7 _ rfl; have c8 : World.cell? w9 ⟨(w.heap.size + 1 + 1), 8, none⟩ = some (.int .i64 (siOf x).b2) := (Hbx.out _ hE9).box 8 _ rfl; have c9 : World.cell? w9 ⟨(w.heap.size + 1 + 1), 9, none⟩ = some (.int .i64 (siOf x).ylo) := (Hbx.out _ hE9).box 9 _ rfl; have c10 : World.cell? w9 ⟨(w.heap.size + 1 + 1), 10, none⟩ = some (.int .i64 (siOf x).yhi) := (Hbx.out _ hE9).box 10 _ rfl; have c11 : World.cell? w9 ⟨(w.heap.size + 1 + 1), 11, none⟩ = some (.int .i64 (siOf x).off) := (Hbx.out _ hE9).box 11 _ rfl; have c12 : World.cell? w9 ⟨(w.heap.size + 1 + 1), 12, none⟩ = some (.slice oa (siOf x).tins.length cap) := (Hbx.out _ hE9).box 12 _ rfl; have HE9 := Lib.hid hE9; have hr9 := Lib.hid (Hr.out.ext hE9); have r0 := hr9.out.box 0 _ rfl; have r1 := hr9.out.box 1 _ rfl; have r2 := hr9.out.box 2 _ rfl; have r3 := hr9.out.box 3 _ rfl; have r4 := hr9.out.box 4 _ rfl; have r5 := hr9.out.box 5 _ rfl; have r6 := hr9.out.box 6 _ rfl; have r7 := hr9.out.box 7 _ rfl; have r8 := hr9.out.box 8 _ rfl; have r9 := hr9.out.box 9 _ rfl; have r10 := hr9.out.box 10 _ rfl; have r11 := hr9.out.box 11 _ rfl; have r12 := hr9.out.box 12 _ rfl; have q0 := hr9.out.fr 0 (by omega); have q1 := hr9.out.fr 1 (by omega); have q2 := hr9.out.fr 2 (by omega); have q3 := hr9.out.fr 3 (by omega); have q4 := hr9.out.fr 4 (by omega); have q5 := hr9.out.fr 5 (by omega); have q6 := hr9.out.fr 6 (by omega); have q7 := hr9.out.fr 7 (by omega); have q8 := hr9.out.fr 8 (by omega); have q9 := hr9.out.fr 9 (by omega); have q10 := hr9.out.fr 10 (by omega); have q11 := hr9.out.fr 11 (by omega); have q12 := hr9.out.fr 12 (by omega)) | (go_at_call 135; refine (sure_ok _ _).mono ?_; rintro e w7 ⟨⟨v7, rfl⟩, rfl⟩))
     clear q0 q1 q2 q3 q4 q5 q6 q7 q8 q9 q10 q11 q12
     clear c0 c1 c2 c3 c4 c5 c6 c7 c8 c9 c10 c11 c12
     have hT : Turned w.heap.size w7 _ := (((((((((((((Turned.refl _ w7).set 0 (.int .i64 (siOf x).o0)).set 1 (.int .i64 (siOf x).o1)).set 2 (.int .i64 (siOf x).o2)).set 3 (.int .i64 (siOf x).a0)).set 4 (.int .i64 (siOf x).b0)).set 5 (.int .i64 (siOf x).a1)).set 6 (.int .i64 (siOf x).b1)).set 7 (.int .i64 (siOf x).a2)).set 8 (.int .i64 (siOf x).b2)).set 9 (.int .i64 (siOf x).ylo)).set 10 (.int .i64 (siOf x).yhi)).set 11 (.int .i64 (siOf x).off)).set 12 (.slice oa (siOf x).tins.length cap)
     refine bodyPost_ret (v := sheetV (siOf x) oa cap) (results_cells (n := 13) rfl (by kernel_rfl) (by kernel_rfl) _ w.heap.size (sheetC (siOf x) oa cap).toList rfl (by simp) (fun j v hv => ?_)) (by simp) ⟨⟨fun y hn => ?_, fun hn => by rw [Hpar.out] at hn; cases hn⟩, ?_⟩
     ·match j, hv with
      | 0, hv => cases hv; go_simp
      | 1, hv => cases hv; go_simp
      | 2, hv => cases hv; go_simp
      | 3, hv => cases hv; go_simp
      | 4, hv => cases hv; go_simp
      | 5, hv => cases hv; go_simp
      | 6, hv => cases hv; go_simp
      | 7, hv => cases hv; go_simp
      | 8, hv => cases hv; go_simp
      | 9, hv => cases hv; go_simp
      | 10, hv => cases hv; go_simp
      | 11, hv => cases hv; go_simp
      | 12, hv => cases hv; go_simp
     ·rw [Hpar.out] at hn
      injection hn with hn
      subst hn
      exact ⟨oa, cap, rfl, row_low (row_mv (I := fun i => i = w.heap.size) (Hrow.out _ HE9.out) (Mv.of_grown hT fun i hi => by cases hi; rfl) (row_not (Hrow.out _ HE9.out) (by omega))) (by omega)⟩
     ·exact ext_own (HE.out.trans HE9.out) hT (Nat.le_refl _)
    ·have heq : (textB x == l) = false := by rw [beq_eq_false_iff_ne]; exact he
     have hpa : parse l = none := by rw [Hpp.out, if_neg he]
     have Hpar := Lib.hid hpa
     clear hpa he
     go_wp2_with (first | (go_at_call 103; refine (Htx.out _ (Ext.refl _)).mono ?_; rintro e w9 ⟨rfl, hE9⟩) | (go_at_call 135; refine (sure_bad _ _).mono ?_; rintro e w7 ⟨⟨s7, rfl⟩, rfl⟩))
     exact ⟨rfl, par_bad Hpar.out ⟨s7, rfl⟩, HE.out.trans hE9⟩

end Go.Proofs.YtjpekonfjihcoaaGreatDoor
