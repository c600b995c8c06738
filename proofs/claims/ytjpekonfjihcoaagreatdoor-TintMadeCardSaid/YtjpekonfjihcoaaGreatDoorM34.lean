/- Contracts and mathematics, joined: Tins. Conditions stand with each. -/
import Derived.ArgAppend
import Derived.Below
import Derived.BigQuiet
import Derived.Deep.DeepCutAuto
import Derived.Deep.DeepFit
import Derived.Deep.LoopGhost
import Derived.Deep.QuietTactic
import Derived.Deep.RegionHeld
import Derived.Deep.RegionHeld3
import Derived.Deep.RegionWith
import Derived.Defers
import Derived.Laws.EntriesVeiled
import Derived.Laws.OwnMore
import Derived.Lib.Hide
import Derived.Lib.IndexBytes
import Derived.Lib.ItoaNum
import Derived.Lib.SplitLaws
import Derived.LoopIn
import Derived.LoopNIn
import Derived.Maps.AppendAt
import Derived.Maps.Keyed
import Derived.Maps.OwnIn
import Derived.OrdersHeld
import Derived.OwnWalkIn
import Derived.RangeFuncBound
import Derived.RangeFuncCalls
import Derived.RangeFuncLeaves
import Derived.RangeFuncNested
import Derived.Recover
import Derived.RegionIn
import Derived.Shelf.Abstract
import Derived.TacticsInMore
import Derived.Test.YtjpekonfjihcoaaGreatDoorProg
import Derived.WalkKit
import Derived.WalkLawsBesides
import Derived.WalkSpells
import Derived.Test.YtjpekonfjihcoaaGreatDoorM3
import Derived.Test.YtjpekonfjihcoaaGreatDoorM2
import Derived.Test.YtjpekonfjihcoaaGreatDoorM4
import Derived.Test.YtjpekonfjihcoaaGreatDoorM8
import Derived.Test.YtjpekonfjihcoaaGreatDoorM1
namespace Go.TintM
end Go.TintM
set_option maxRecDepth 100000
set_option maxHeartbeats 64000000
set_option linter.unusedVariables false
set_option linter.unusedSimpArgs false
/- Contracts: tins; best of lists of tins. No condition beyond lists of at most 1000 numbers. -/
namespace Go.Proofs.YtjpekonfjihcoaaGreatDoor
open Go.RowKit Go.My Go.TintM

def usedTo (m : List Nat) (k : Nat) : List Nat := (List.range k).filter fun i => decide (0 < m.getD i 0)
theorem usedTo_succ (m : List Nat) (k : Nat) : usedTo m (k + 1) = usedTo m k ++ if 0 < m.getD k 0 then [k] else [] := by
 rw [usedTo, List.range_succ, List.filter_append, ← usedTo]
 by_cases h : 0 < m.getD k 0
 ·rw [if_pos h]; congr 1; simp only [List.filter_cons, decide_eq_true h, if_true, List.filter_nil]
 ·rw [if_neg h]; congr 1; simp only [List.filter_cons, decide_eq_false h, Bool.false_eq_true, if_false, List.filter_nil]
theorem usedTo_len (m : List Nat) (k : Nat) : (usedTo m k).length ≤ k := by
 have := List.length_filter_le (fun i => decide (0 < m.getD i 0)) (List.range k)
 simpa [usedTo] using this

theorem tins_any (m : List Nat) (om : Option Addr) (cm : Nat) (w : World) (h : IntsAt w om (upL m)) (hm : m.length ≤ 1000) :
  Calls Tryz.prog 96 #[.slice om m.length cm] w fun e w' => ∃ v, e = .returned v ∧ My.Own w' w.heap.size 3 v ((upL (used m)).map (Value.int .i64)) ∧ Ext w w' := by
 have H := Lib.hid h
 clear h
 go_enter Tryz.func96, Tryz.ntmps96
 go_wp2
 go_loopg [3, 4, 5, 8] m.length (fun g v a b i wr => ∃ k : Nat, k + g = m.length ∧ i = .int .i64 k ∧ Ext w wr ∧ My.Own wr w.heap.size 3 v ((upL (usedTo m k)).map (Value.int .i64)))
 case atStart => exact ⟨0, by simp, rfl, Ext.refl _, My.Own.nil _ _ _⟩
 case round =>
  obtain ⟨k, hk, rfl, hE, hown⟩ := hrel
  have HE := Lib.hid hE
  have Hown := Lib.hid hown
  have hsw := hE.size
  by_cases hlt : k < m.length
  ·obtain ⟨b, off, hob, _, hc⟩ := (H.out.ext hE).at (k := k) (by rw [upL_length]; exact hlt)
   subst hob
   have e1 : (upL m)[k]'(by rw [upL_length]; exact hlt) = ((m.getD k 0 : Nat) : Int) := by simp [upL, List.getD, hlt]
   rw [e1] at hc
   have hul := usedTo_len m k
   have hus := usedTo_succ m k
   clear e1 hE hown
   generalize m.getD k 0 = A at *
   by_cases h0 : 0 < A
   ·have h0i : (0 : Int) < (A : Int) := by omega
    rw [if_pos h0] at hus
    have Hus := Lib.hid hus
    clear hus
    go_wp2_with (first | (at_builtin; refine wpList_app1 _ rfl _ _ 29 rfl 3 Tryz.underlying29 (.int .i64 0) 8 i3 rfl (by decide) w.heap.size _ _ rfl (Hown.out.ext ((Ext.refl _).alloc _)) wr.heap.size (.int .i64 k) rfl (by go_simp) rfl ?_ ?_ ?_))
    ·rw [List.length_map, upL_length]; omega
    ·simp; omega
    ·intro v' w2 hown2 hBl _
     have Ho2 := Lib.hid hown2; clear hown2
     go_wp2
     go_roundg (gk - 1)
     case measure => omega
     case rel => exact ⟨k + 1, by omega, by go_num, (HE.out.alloc _).below hBl (Nat.le_refl _), by rw [Hus.out, upL_snoc, List.map_append]; exact Ho2.out⟩
   ·have h0i : ¬ (0 : Int) < (A : Int) := by omega
    rw [if_neg h0, List.append_nil] at hus
    have Hus := Lib.hid hus
    clear hus
    go_wp2
    go_roundg (gk - 1)
    case measure => omega
    case rel => exact ⟨k + 1, by omega, by go_num, HE.out, by rw [Hus.out]; exact Hown.out⟩
  ·obtain rfl : k = m.length := by omega
   go_wp2
   go_ret
   exact ⟨_, rfl, Hown.out, HE.out⟩

/-- The first place of the best. -/
def argB (B : Nat → Nat → Bool) : Nat → Nat
 | 0 => 0
 | k + 1 => if B (k + 1) (argB B k) = true then k + 1 else argB B k
theorem argB_le (B : Nat → Nat → Bool) : ∀ k, argB B k ≤ k
 | 0 => Nat.le_refl _
 | k + 1 => by
  have := argB_le B k
  rw [argB]
  split <;> omega
theorem argB_best (L : List (List Nat)) : ∀ k, k < L.length → bestT (L.getD 0 []) ((L.drop 1).take k) = L.getD (argB (fun i j => lessT (L.getD i []) (L.getD j [])) k) [] := by
 intro k
 induction k with
 | zero => intro _; simp [bestT, argB]
 | succ k ih =>
  intro hk
  have h1 : (L.drop 1).take (k + 1) = (L.drop 1).take k ++ [L.getD (k + 1) []] := by
   rw [List.take_succ_eq_append_getElem (by rw [List.length_drop]; omega), List.getElem_drop]
   simp [List.getD, hk, Nat.add_comm]
  rw [h1, bestT_snoc, ih (by omega), argB]
  split <;> rfl

theorem bestL_any (n g cap : Nat) (L : Nat → List Nat) (oa : Nat → Option Addr) (cp : Nat → Nat) (w : World) (hg : g < w.heap.size) (h0 : ∀ j, j ≤ n → w.cell? ⟨g, j, none⟩ = some (.slice (oa j) (L j).length (cp j))) (h1 : ∀ j, j ≤ n → IntsAt w (oa j) (upL (L j))) (h2 : ∀ j, j ≤ n → (L j).length ≤ 1000)
  (hc : n + 1 ≤ cap) (hc2 : cap ≤ maxLen) (hn : 1 ≤ n) :
  Calls Tryz.prog 97 #[.slice (some ⟨g, 0, none⟩) (n + 1 : Nat) cap, .func (.func 98) #[] #[]] w fun e w' => e = .returned (.slice (oa (argB (fun i j => lessT (L i) (L j)) n)) (L (argB (fun i j => lessT (L i) (L j)) n)).length (cp (argB (fun i j => lessT (L i) (L j)) n))) ∧ Ext w w' := by
 have k0 := h0 0 (by omega)
 have H0 := Lib.hid h0
 have R := Lib.hid (fun i j (hi : i ≤ n) (hj : j ≤ n) W (hW : Ext w W) => fewer_any (L i) (L j) (oa i) (oa j) (cp i) (cp j) W ((h1 i hi).ext hW) ((h1 j hj).ext hW) (h2 i hi) (h2 j hj))
 have hc3 : cap ≤ 9223372036854775807 := by unfold maxLen at hc2; omega
 have hone1 : ¬ cap = 1 := by omega
 clear hc2 h0 h1 h2
 go_enter Tryz.func97, Tryz.ntmps97
 go_wp2
 go_loopg [5, 7, 14] n (fun g' o x v wr => ∃ k : Nat, k + g' = n ∧ v = .int .i64 k ∧ Ext w wr ∧ o = .slice (oa (argB (fun i j => lessT (L i) (L j)) k)) (L (argB (fun i j => lessT (L i) (L j)) k)).length (cp (argB (fun i j => lessT (L i) (L j)) k)))
 case atStart => exact ⟨0, by simp, rfl, Ext.refl _, rfl⟩
 case round =>
  obtain ⟨k, hk, rfl, hE, rfl⟩ := hrel
  by_cases hlt : k < n
  ·have e0 := cell_ext hE (H0.out (k + 1) (by omega))
   rw [Nat.add_comm k 1] at e0
   have hbs : argB (fun i j => lessT (L i) (L j)) (k + 1) = if lessT (L (k + 1)) (L (argB (fun i j => lessT (L i) (L j)) k)) = true then k + 1 else argB (fun i j => lessT (L i) (L j)) k := rfl
   have hBk := argB_le (fun i j => lessT (L i) (L j)) k
   clear k0 H0
   generalize argB (fun i j => lessT (L i) (L j)) k = B at *
   have R' := Lib.hid (R.out (k + 1) B (by omega) (by omega))
   rw [Nat.add_comm k 1] at R' hbs
   have HE := Lib.hid hE
   clear hE
   cases hq : lessT (L (1 + k)) (L B)
   ·rw [hq, if_neg (by simp)] at hbs
    rw [hq] at R'
    have Hbs := Lib.hid hbs; clear hbs hq
    go_wp2_with (first | (go_at_call 98; refine (R'.out _ HE.out).mono ?_; rintro e w1 ⟨rfl, hE1⟩; have HE1 := Lib.hid (HE.out.trans hE1); clear hE1))
    go_roundg (gk - 1)
    case measure => omega
    case rel => exact ⟨k + 1, by omega, by go_num, HE1.out, by rw [Nat.add_comm k 1, Hbs.out]⟩
   ·rw [hq, if_pos rfl] at hbs
    rw [hq] at R'
    have Hbs := Lib.hid hbs; clear hbs hq
    go_wp2_with (first | (go_at_call 98; refine (R'.out _ HE.out).mono ?_; rintro e w1 ⟨rfl, hE1⟩; have HE1 := Lib.hid (HE.out.trans hE1); clear hE1))
    go_roundg (gk - 1)
    case measure => omega
    case rel => exact ⟨k + 1, by omega, by go_num, HE1.out, by rw [Nat.add_comm k 1, Hbs.out]⟩
  ·obtain rfl : k = n := by omega
   clear k0
   go_wp2
   go_ret
   exact ⟨rfl, hE⟩

theorem bestL_one (g cap : Nat) (oa : Option Addr) (ln cp : Nat) (w : World) (hg : g < w.heap.size) (h0 : w.cell? ⟨g, 0, none⟩ = some (.slice oa ln cp)) (hc : 1 ≤ cap) (hc2 : cap ≤ maxLen) :
  Calls Tryz.prog 97 #[.slice (some ⟨g, 0, none⟩) 1 cap, .func (.func 98) #[] #[]] w fun e w' => e = .returned (.slice oa ln cp) ∧ Ext w w' := by
 have hc3 : cap ≤ 9223372036854775807 := by unfold maxLen at hc2; omega
 clear hc2
 go_enter Tryz.func97, Tryz.ntmps97
 go_wp2
 all_goals
  go_loopg [5, 7, 14] 1 (fun g' o x v wr => g' = 1 ∧ v = .int .i64 0 ∧ Ext w wr ∧ o = .slice oa ln cp)
  case atStart => exact ⟨rfl, rfl, Ext.refl _, rfl⟩
  case round =>
   obtain ⟨rfl, rfl, hE, rfl⟩ := hrel
   clear h0
   go_wp2
   go_ret
   exact ⟨rfl, hE⟩

end Go.Proofs.YtjpekonfjihcoaaGreatDoor
