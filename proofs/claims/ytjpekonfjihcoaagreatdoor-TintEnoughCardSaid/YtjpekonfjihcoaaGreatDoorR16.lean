/- Contract of the reference: Rising. No condition beyond lists of at most 1000 numbers. -/
import Derived.ArgAppend
import Derived.Below
import Derived.BigQuiet
import Derived.Deep.DeepCutAuto
import Derived.Deep.DeepFit
import Derived.Deep.LoopGhost
import Derived.Deep.QuietTactic
import Derived.Deep.RegionHeld
import Derived.Deep.RegionHeld3
import Derived.Deep.RegionWith
import Derived.Deep.Upon
import Derived.Defers
import Derived.Laws.BytesArg
import Derived.Laws.EntriesVeiled
import Derived.Laws.OwnMore
import Derived.Lib.Hide
import Derived.Lib.IndexBytes
import Derived.Lib.ItoaNum
import Derived.Lib.SplitLaws
import Derived.LoopIn
import Derived.LoopNIn
import Derived.Maps.AppendAt
import Derived.Maps.Keyed
import Derived.Maps.OwnIn
import Derived.OrdersHeld
import Derived.OwnWalkIn
import Derived.RangeFuncBound
import Derived.RangeFuncCalls
import Derived.RangeFuncLeaves
import Derived.RangeFuncNested
import Derived.Recover
import Derived.RegionIn
import Derived.Shelf.Abstract
import Derived.Shelf.Strconv.Itoa3
import Derived.Shelf.Strings.Split
import Derived.TacticsIn
import Derived.TacticsInMore
import Derived.Test.YtjpekonfjihcoaaGreatDoorProg
import Derived.WalkKit
import Derived.WalkLawsBesides
import Derived.WalkSpells
import Derived.Test.YtjpekonfjihcoaaGreatDoorM2
import Derived.Test.YtjpekonfjihcoaaGreatDoorM1
import Derived.Test.YtjpekonfjihcoaaGreatDoorM17
namespace Go.TintM
end Go.TintM
set_option maxRecDepth 100000
set_option maxHeartbeats 64000000
set_option linter.unusedVariables false
set_option linter.unusedSimpArgs false
namespace Go.Proofs.YtjpekonfjihcoaaGreatDoor
open Go.RowKit Go.My Go.TintM

def risOk (N : Nat) (l : List Int) (k : Nat) : Bool := inB (l.getD k 0) 0 ((N : Int) - 1) && (decide (k = 0) || decide (l.getD (k - 1) 0 < l.getD k 0))
def risB (N : Nat) (l : List Int) : Bool := (List.range l.length).all (risOk N l)
theorem ris_no {N : Nat} {l : List Int} {k : Nat} (hk : k < l.length) (h : risOk N l k = false) : risB N l = false := by
 rw [risB, List.all_eq_false]
 exact ⟨k, List.mem_range.2 hk, by simp [h]⟩
theorem ris_yes {N : Nat} {l : List Int} (h : ∀ k, k < l.length → risOk N l k = true) : risB N l = true := by
 rw [risB, List.all_eq_true]
 exact fun k hk => h k (List.mem_range.1 hk)

theorem rRising_any (S : SI) (ot : Option Addr) (cap : Nat) (l : List Int) (ol : Option Addr) (cl : Nat) (w : World) (hi : IntsAt w ol l) (hl : l.length ≤ 1000) (hT : S.tins.length ≤ 1000) :
  Calls Tryz.prog 52 #[sheetV S ot cap, .slice ol l.length cl] w fun e w' => e = .returned (.bool (risB S.tins.length l)) ∧ Ext w w' := by
 have R := Lib.hid (fun x W => rin_any x 0 ((S.tins.length : Int) - 1) W)
 have Hi := Lib.hid hi
 have Hno := Lib.hid (fun k (hk : k < l.length) h => ris_no (N := S.tins.length) hk h)
 have Hyes := Lib.hid (fun h => ris_yes (N := S.tins.length) (l := l) h)
 have Hok := Lib.hid (fun k => (show risOk S.tins.length l k = (inB (l.getD k 0) 0 ((S.tins.length : Int) - 1) && (decide (k = 0) || decide (l.getD (k - 1) 0 < l.getD k 0))) from rfl))
 have ew : IntKind.i64.wrap ((S.tins.length : Int) - 1) = (S.tins.length : Int) - 1 := by rw [IntWalk.i64_in _ (by omega)]
 clear hi
 obtain ⟨pv, hpv⟩ : ∃ v, v = risB S.tins.length l := ⟨_, rfl⟩
 rw [← hpv] at Hno Hyes ⊢
 clear hpv
 go_enter Tryz.func52, Tryz.ntmps52
 go_wp2
 obtain ⟨w0, hw0⟩ : ∃ W, W = w.alloc (.cells (sheetC S ot cap) 28) := ⟨_, rfl⟩
 have HE0 := Lib.hid (show Ext w w0 by rw [hw0]; exact (Ext.refl w).alloc _)
 have C12 := Lib.hid (show w0.cell? ⟨w.heap.size, 12, none⟩ = some (.slice ot S.tins.length cap) by rw [hw0]; exact (SheetBox.new w S ot cap) 12 _ rfl)
 rw [← hw0]
 clear hw0
 go_loopg [5] l.length (fun g i wr => ∃ k : Nat, k + g = l.length ∧ i = .int .i64 k ∧ Ext w0 wr ∧ ∀ j, j < k → risOk S.tins.length l j = true)
 case atStart => exact ⟨0, by omega, rfl, Ext.refl _, fun j hj => by omega⟩
 case round =>
  obtain ⟨k, hk, rfl, hE, hall⟩ := hrel
  have HE := Lib.hid hE
  have Hall := Lib.hid hall
  have c12 := cell_ext hE C12.out
  clear hall
  by_cases hlt : k < l.length
  ·obtain ⟨b, off, hb, _, hc⟩ := (Hi.out.ext (HE0.out.trans hE)).at hlt
   have hok := Hok.out k
   rw [show l.getD k 0 = l[k] by simp [List.getD, hlt]] at hok
   have hltI : (k : Int) < (l.length : Int) := by omega
   subst hb
   have Rx := Lib.hid (R.out l[k])
   cases hin : inB l[k] 0 ((S.tins.length : Int) - 1) with
   | false =>
    rw [hin] at Rx
    obtain rfl := Hno.out k hlt (by rw [hok, hin]; rfl)
    clear hok hin hE
    generalize l[k] = x at *
    go_wp2_with fail
    refine wp_region_plan (.take 0 <| .take 1 <| .take 2 <| .take 3 <| .take 4 <| .take 5 <| .take 6 <| .take 7 <| .only 8 <| .take 9 <| .take 10 <| .take 11 <| .take 12 <| .take 13 <| .take 14 <| .take 15 <| .take 16 <| .take 17 <| .take 18 <| .take 19 <| .take 20 <| .take 21 <| .take 22 <| .take 23 <| .take 24 <| .take 25 <| .done) (fun W => Ext wr W) mixed (by kernel_rfl) (by kernel_rfl) rfl (fun _ _ d _ _ h => by cases d <;> exact h) ((Ext.refl wr).drew) ?_
    repeat ((first | (refine plan_take (v := ?_) rfl rfl (fun W hW => ?_) ?_; rotate_left; (focus (have d0 := cell_ext hW hc; have d1 := cell_ext hW c12; go_simp; first | exact rfl | (split <;> first | exact rfl | (exfalso; omega)) | done))) | refine plan_skip rfl rfl ?_); simp only [puts])
    refine plan_walk rfl ?_; intro K hK
    go_wp2_with (first | (go_at_call 81; refine (Rx.out _).mono ?_; rintro e w5 ⟨rfl, h5⟩; obtain rfl := h5.symm))
    refine hK _ _ (Ext.refl wr).drew ?_
    repeat ((first | (refine plan_take (v := ?_) rfl rfl (fun W hW => ?_) ?_; rotate_left; (focus (have d0 := cell_ext hW hc; have d1 := cell_ext hW c12; go_simp; first | exact rfl | (split <;> first | exact rfl | (exfalso; omega)) | done))) | refine plan_skip rfl rfl ?_); simp only [puts])
    refine plan_done ?_
    have HD := Lib.hid (Ext.refl wr).drew
    go_wp2
    go_ret
    exact ⟨rfl, HE0.out.trans (HE.out.trans HD.out)⟩
   | true =>
    rw [hin] at Rx
    by_cases hk0 : k = 0
    ·have HY := Lib.hid (show risOk S.tins.length l k = true by rw [hok, hin]; simp [hk0])
     clear hok hin hE
     generalize l[k] = x at *
     subst hk0
     rw [Nat.add_zero] at hc
     have hz0 : (0 : Int) < (l.length : Int) := by omega
     go_wp2_with fail
     refine wp_region_plan (.take 0 <| .take 1 <| .take 2 <| .take 3 <| .take 4 <| .take 5 <| .take 6 <| .take 7 <| .only 8 <| .take 9 <| .take 10 <| .take 11 <| .take 12 <| .take 13 <| .take 14 <| .take 15 <| .take 16 <| .take 17 <| .take 18 <| .take 19 <| .take 20 <| .take 21 <| .take 22 <| .take 23 <| .take 24 <| .take 25 <| .done) (fun W => Ext wr W) mixed (by kernel_rfl) (by kernel_rfl) rfl (fun _ _ d _ _ h => by cases d <;> exact h) ((Ext.refl wr).drew) ?_
     repeat ((first | (refine plan_take (v := ?_) rfl rfl (fun W hW => ?_) ?_; rotate_left; (focus (have d0 := cell_ext hW hc; have d1 := cell_ext hW c12; go_simp; first | exact rfl | (split <;> first | exact rfl | (exfalso; omega)) | done))) | refine plan_skip rfl rfl ?_); simp only [puts])
     refine plan_walk rfl ?_; intro K hK
     go_wp2_with (first | (go_at_call 81; refine (Rx.out _).mono ?_; rintro e w5 ⟨rfl, h5⟩; obtain rfl := h5.symm))
     refine hK _ _ (Ext.refl wr).drew ?_
     repeat ((first | (refine plan_take (v := ?_) rfl rfl (fun W hW => ?_) ?_; rotate_left; (focus (have d0 := cell_ext hW hc; have d1 := cell_ext hW c12; go_simp; first | exact rfl | (split <;> first | exact rfl | (exfalso; omega)) | done))) | refine plan_skip rfl rfl ?_); simp only [puts])
     refine plan_done ?_
     have HD := Lib.hid (Ext.refl wr).drew
     go_wp2
     go_roundg (gk - 1)
     case measure => omega
     case rel => exact ⟨1, by omega, by go_num, HE.out.trans HD.out, fun j hj => by
      rcases Nat.lt_succ_iff_lt_or_eq.1 hj with hj | rfl
      ·exact Hall.out j hj
      ·exact HY.out⟩
    ·obtain ⟨q, rfl⟩ : ∃ q, k = q + 1 := ⟨k - 1, by omega⟩
     obtain ⟨b2, off2, hb2, _, hy⟩ := (Hi.out.ext (HE0.out.trans hE)).at (k := q) (by omega)
     simp only [Option.some.injEq, Addr.mk.injEq, and_true] at hb2
     obtain ⟨rfl, rfl⟩ := hb2
     rw [show q + 1 - 1 = q from rfl, show l.getD q 0 = l[q] by simp [List.getD, show q < l.length by omega], hin] at hok
     have e5 : IntKind.i64.wrap ((q : Int) + 1 - 1) = (q : Int) := by rw [IntWalk.i64_in _ (by omega)]; omega
     have hq0 : (0 : Int) < (q : Int) + 1 := by omega
     have e6 : IntKind.i64.wrap (q : Int) = (q : Int) := by rw [IntWalk.i64_in _ (by omega)]
     have hqI : (q : Int) < (l.length : Int) := by omega
     have hqI2 : (q : Int) + 1 < (l.length : Int) := by omega
     by_cases hlt2 : l[q] < l[q + 1]
     ·have HY := Lib.hid (show risOk S.tins.length l (q + 1) = true by rw [hok]; simp [hlt2])
      clear hok hin hE
      have hn2 : ¬ l[q + 1] ≤ l[q] := by omega
      generalize l[q + 1] = x at *
      generalize l[q] = y at *
      go_wp2_with fail
      refine wp_region_plan (.take 0 <| .take 1 <| .take 2 <| .take 3 <| .take 4 <| .take 5 <| .take 6 <| .take 7 <| .only 8 <| .take 9 <| .take 10 <| .take 11 <| .take 12 <| .take 13 <| .take 14 <| .take 15 <| .take 16 <| .take 17 <| .take 18 <| .take 19 <| .take 20 <| .take 21 <| .take 22 <| .take 23 <| .take 24 <| .take 25 <| .done) (fun W => Ext wr W) mixed (by kernel_rfl) (by kernel_rfl) rfl (fun _ _ d _ _ h => by cases d <;> exact h) ((Ext.refl wr).drew) ?_
      repeat ((first | (refine plan_take (v := ?_) rfl rfl (fun W hW => ?_) ?_; rotate_left; (focus (have d0 := cell_ext hW hc; have d1 := cell_ext hW c12; have d2 := cell_ext hW hy; go_simp; first | exact rfl | (split <;> first | exact rfl | (exfalso; omega)) | done))) | refine plan_skip rfl rfl ?_); simp only [puts])
      refine plan_walk rfl ?_; intro K hK
      go_wp2_with (first | (go_at_call 81; refine (Rx.out _).mono ?_; rintro e w5 ⟨rfl, h5⟩; obtain rfl := h5.symm))
      refine hK _ _ (Ext.refl wr).drew ?_
      repeat ((first | (refine plan_take (v := ?_) rfl rfl (fun W hW => ?_) ?_; rotate_left; (focus (have d0 := cell_ext hW hc; have d1 := cell_ext hW c12; have d2 := cell_ext hW hy; go_simp; first | exact rfl | (split <;> first | exact rfl | (exfalso; omega)) | done))) | refine plan_skip rfl rfl ?_); simp only [puts])
      refine plan_done ?_
      have HD := Lib.hid (Ext.refl wr).drew
      go_wp2
      go_roundg (gk - 1)
      case measure => omega
      case rel => exact ⟨q + 1 + 1, by omega, by go_num, HE.out.trans HD.out, fun j hj => by
       rcases Nat.lt_succ_iff_lt_or_eq.1 hj with hj | rfl
       ·exact Hall.out j hj
       ·exact HY.out⟩
     ·obtain rfl := Hno.out (q + 1) hlt (by rw [hok]; simp [hlt2])
      clear hok hin hE
      have hn2 : l[q + 1] ≤ l[q] := by omega
      generalize l[q + 1] = x at *
      generalize l[q] = y at *
      go_wp2_with fail
      refine wp_region_plan (.take 0 <| .take 1 <| .take 2 <| .take 3 <| .take 4 <| .take 5 <| .take 6 <| .take 7 <| .only 8 <| .take 9 <| .take 10 <| .take 11 <| .take 12 <| .take 13 <| .take 14 <| .take 15 <| .take 16 <| .take 17 <| .take 18 <| .take 19 <| .take 20 <| .take 21 <| .take 22 <| .take 23 <| .take 24 <| .take 25 <| .done) (fun W => Ext wr W) mixed (by kernel_rfl) (by kernel_rfl) rfl (fun _ _ d _ _ h => by cases d <;> exact h) ((Ext.refl wr).drew) ?_
      repeat ((first | (refine plan_take (v := ?_) rfl rfl (fun W hW => ?_) ?_; rotate_left; (focus (have d0 := cell_ext hW hc; have d1 := cell_ext hW c12; have d2 := cell_ext hW hy; go_simp; first | exact rfl | (split <;> first | exact rfl | (exfalso; omega)) | done))) | refine plan_skip rfl rfl ?_); simp only [puts])
      refine plan_walk rfl ?_; intro K hK
      go_wp2_with (first | (go_at_call 81; refine (Rx.out _).mono ?_; rintro e w5 ⟨rfl, h5⟩; obtain rfl := h5.symm))
      refine hK _ _ (Ext.refl wr).drew ?_
      repeat ((first | (refine plan_take (v := ?_) rfl rfl (fun W hW => ?_) ?_; rotate_left; (focus (have d0 := cell_ext hW hc; have d1 := cell_ext hW c12; have d2 := cell_ext hW hy; go_simp; first | exact rfl | (split <;> first | exact rfl | (exfalso; omega)) | done))) | refine plan_skip rfl rfl ?_); simp only [puts])
      refine plan_done ?_
      have HD := Lib.hid (Ext.refl wr).drew
      go_wp2
      go_ret
      exact ⟨rfl, HE0.out.trans (HE.out.trans HD.out)⟩
  ·obtain rfl := Hyes.out (fun j hj => Hall.out j (by omega))
   have hkk : k = l.length := by omega
   clear hE
   go_wp2
   go_ret
   exact ⟨rfl, HE0.out.trans HE.out⟩

end Go.Proofs.YtjpekonfjihcoaaGreatDoor
