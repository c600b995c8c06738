/- Contracts and mathematics, joined: T1, Cmp. Conditions stand with each. -/
import Derived.Below
import Derived.BigQuiet
import Derived.Deep.DeepCutAuto
import Derived.Deep.DeepFit
import Derived.Deep.LoopGhost
import Derived.Deep.QuietTactic
import Derived.Deep.RegionHeld
import Derived.Deep.RegionHeld3
import Derived.Deep.RegionWith
import Derived.Defers
import Derived.Laws.EntriesVeiled
import Derived.Lib.Hide
import Derived.Lib.IndexBytes
import Derived.Lib.ItoaNum
import Derived.Lib.SplitLaws
import Derived.Maps.Keyed
import Derived.OrdersHeld
import Derived.Recover
import Derived.Test.YtjpekonfjihcoaaGreatDoorProg
import Derived.WalkKit
import Derived.WalkLawsBesides
import Derived.WalkSpells
import Derived.Test.YtjpekonfjihcoaaGreatDoorM2
import Derived.Test.YtjpekonfjihcoaaGreatDoorM3
import Derived.Test.YtjpekonfjihcoaaGreatDoorM1
namespace Go.TintM
end Go.TintM
set_option maxRecDepth 100000
set_option maxHeartbeats 64000000
set_option linter.unusedVariables false
set_option linter.unusedSimpArgs false
/- Contracts of the reference: equal lists, which list comes before; words, numbers and the sum of a check. No condition beyond small lists. -/
namespace Go.Proofs.YtjpekonfjihcoaaGreatDoor
open Go.RowKit Go.My Go.TintM

theorem upL_inj {a b : List Nat} (h : upL a = upL b) : a = b := by
 induction a generalizing b with
 | nil => cases b with
  | nil => rfl
  | cons y b => simp [upL] at h
 | cons x a ih => cases b with
  | nil => simp [upL] at h
  | cons y b =>
   simp only [upL, List.map_cons, List.cons.injEq] at h
   rw [ih h.2, Int.ofNat.inj h.1]
theorem upL_get {l : List Nat} {k : Nat} (hk : k < l.length) : (upL l)[k]? = some ((l[k] : Nat) : Int) := by simp [upL, hk]
theorem upL_snoc (l : List Nat) (x : Nat) : upL (l ++ [x]) = upL l ++ [(x : Int)] := by simp [upL]
theorem ints_up {w : World} {oa : Option Addr} {l : List Nat} (h : IntsAt w oa (upL l)) {k : Nat} (hk : k < l.length) :
  ∃ b off, oa = some ⟨b, off, none⟩ ∧ b < w.heap.size ∧ w.cell? ⟨b, off + k, none⟩ = some (.int .i64 ((l[k] : Nat) : Int)) := h k _ (upL_get hk)
theorem isInts_up {w : World} {v : Value} {l : List Nat} (h : IsInts w v (upL l)) : ∃ oa cap, v = .slice oa l.length cap ∧ l.length ≤ cap ∧ cap ≤ maxLen ∧ (oa = none → cap = 0) ∧ IntsAt w oa (upL l) := by
 obtain ⟨oa, cap, h1, h2, h3, h4, h5⟩ := h
 rw [upL_length] at h1 h2
 exact ⟨oa, cap, h1, h2, h3, h4, h5⟩

theorem take_eq_succ {l m : List Int} {k : Nat} (h1 : k < l.length) (h2 : k < m.length) (h : l.take k = m.take k) (he : l[k] = m[k]) : l.take (k + 1) = m.take (k + 1) := by
 rw [List.take_succ_eq_append_getElem h1, List.take_succ_eq_append_getElem h2, h, he]
theorem ne_at {l m : List Int} {k : Nat} (h1 : k < l.length) (h2 : k < m.length) (he : ¬ l[k] = m[k]) : ¬ l = m := by rintro rfl; exact he rfl

theorem tsame_any (l m : List Int) (oa ob : Option Addr) (ca cb : Nat) (w : World) (h1 : IntsAt w oa l) (h2 : IntsAt w ob m) (hl : l.length ≤ 9223372036854775807) (hm : m.length ≤ 9223372036854775807) :
  Calls Tryz.prog 43 #[.slice oa l.length ca, .slice ob m.length cb] w fun e w' => e = .returned (.bool (decide (l = m))) ∧ Ext w w' := by
 have H1 := Lib.hid h1; have H2 := Lib.hid h2; clear h1 h2
 by_cases hlen : l.length = m.length
 ·have hne : ((l.length : Int) != (m.length : Int)) = false := by simp [hlen]
  go_enter Tryz.func43, Tryz.ntmps43
  go_wp2
  go_loopg [5] l.length (fun g i wr => ∃ k : Nat, k + g = l.length ∧ Ext w wr ∧ i = .int .i64 k ∧ l.take k = m.take k)
  case atStart => exact ⟨0, by simp, Ext.refl _, rfl, by simp⟩
  case round =>
   obtain ⟨k, hk, hE, rfl, hx⟩ := hrel
   have Hx := Lib.hid hx; clear hx
   by_cases hlt : k < l.length
   ·have hlt2 : k < m.length := by omega
    obtain ⟨b, off, hob, _, hc⟩ := (H1.out.ext hE).at hlt
    obtain ⟨b2, off2, hob2, _, hc2⟩ := (H2.out.ext hE).at hlt2
    subst hob
    subst hob2
    have hkm : (k : Int) < (m.length : Int) := by omega
    cases hq : (l[k] != m[k])
    ·have he : l[k] = m[k] := by simpa using hq
     have Hs := Lib.hid (take_eq_succ hlt hlt2 Hx.out he)
     clear he
     go_wp2_with fail
     refine wp_region_plan (.take 0 <| .take 1 <| .take 2 <| .take 3 <| .take 4 <| .take 5 <| .take 6 <| .take 7 <| .take 8 <| .done) (fun W => Ext wr W) mixed (by kernel_rfl) (by kernel_rfl) rfl (fun _ _ d _ _ h => by cases d <;> exact h) ((Ext.refl wr).drew) ?_
     repeat ((first | (refine plan_take (v := ?_) rfl rfl (fun W hW => ?_) ?_; rotate_left; (focus (have dc := cell_ext hW hc; have dc' := cell_ext hW hc2; go_simp; first | exact rfl | (split <;> first | exact rfl | (exfalso; omega)) | done))) | refine plan_skip rfl rfl ?_); simp only [puts])
     refine plan_done ?_
     go_wp2
     go_roundg (gk - 1)
     case measure => omega
     case rel => exact ⟨k + 1, by omega, hE.drew, by go_num, Hs.out⟩
    ·have he : ¬ l[k] = m[k] := by simpa using hq
     have Hs := Lib.hid (ne_at hlt hlt2 he)
     clear he
     go_wp2_with fail
     refine wp_region_plan (.take 0 <| .take 1 <| .take 2 <| .take 3 <| .take 4 <| .take 5 <| .take 6 <| .take 7 <| .take 8 <| .done) (fun W => Ext wr W) mixed (by kernel_rfl) (by kernel_rfl) rfl (fun _ _ d _ _ h => by cases d <;> exact h) ((Ext.refl wr).drew) ?_
     repeat ((first | (refine plan_take (v := ?_) rfl rfl (fun W hW => ?_) ?_; rotate_left; (focus (have dc := cell_ext hW hc; have dc' := cell_ext hW hc2; go_simp; first | exact rfl | (split <;> first | exact rfl | (exfalso; omega)) | done))) | refine plan_skip rfl rfl ?_); simp only [puts])
     refine plan_done ?_
     go_wp2
     go_ret
     exact ⟨ret_bool (by rw [decide_eq_false Hs.out]), hE.drew⟩
   ·have hx := Hx.out
    rw [List.take_of_length_le (by omega), List.take_of_length_le (by omega)] at hx
    have Hs := Lib.hid hx
    clear hx
    go_wp2
    go_ret
    exact ⟨ret_bool (by rw [decide_eq_true Hs.out]), hE⟩
 ·have hne : ((l.length : Int) != (m.length : Int)) = true := by simpa using (by omega : ¬ (l.length : Int) = (m.length : Int))
  have Hs := Lib.hid (show ¬ l = m from fun e => hlen (by rw [e]))
  clear hlen
  go_enter Tryz.func43, Tryz.ntmps43
  go_wp2
  go_ret
  exact ⟨ret_bool (by rw [decide_eq_false Hs.out]), Ext.refl _⟩

theorem tsame_up (l m : List Nat) (oa ob : Option Addr) (ca cb : Nat) (w : World) (h1 : IntsAt w oa (upL l)) (h2 : IntsAt w ob (upL m)) (hl : l.length ≤ 1000) (hm : m.length ≤ 1000) :
  Calls Tryz.prog 43 #[.slice oa l.length ca, .slice ob m.length cb] w fun e w' => e = .returned (.bool (decide (l = m))) ∧ Ext w w' := by
 have h := tsame_any (upL l) (upL m) oa ob ca cb w h1 h2 (by rw [upL_length]; omega) (by rw [upL_length]; omega)
 rw [upL_length, upL_length, show decide (upL l = upL m) = decide (l = m) from decide_eq_decide.2 ⟨upL_inj, fun e => by rw [e]⟩] at h
 exact h

theorem lexB_end {l m : List Nat} {k : Nat} (h : l.take k = m.take k) (hk : l.length ≤ k ∨ m.length ≤ k) : lexB l m = decide (l.length < m.length) := by
 rw [← List.take_append_drop k l, ← List.take_append_drop k m, h, lexB_pre]
 simp only [List.length_append, List.length_drop]
 have hl := congrArg List.length h
 simp only [List.length_take] at hl
 rcases hk with hk | hk
 ·rw [List.drop_of_length_le hk]
  cases hd : m.drop k with
  | nil =>
   have := congrArg List.length hd
   simp at this
   simp [lexB]; omega
  | cons x r =>
   have := congrArg List.length hd
   simp at this
   simp [lexB]; omega
 ·rw [List.drop_of_length_le hk]
  cases hd : l.drop k with
  | nil =>
   have := congrArg List.length hd
   simp at this
   simp [lexB]; omega
  | cons x r =>
   have := congrArg List.length hd
   simp at this
   simp [lexB]; omega
theorem lexB_at {l m : List Nat} {k : Nat} (h : l.take k = m.take k) (h1 : k < l.length) (h2 : k < m.length) (hne : l[k] ≠ m[k]) : lexB l m = decide (l[k] < m[k]) := by
 have e : lexB l m = lexB (l.take k ++ l.drop k) (m.take k ++ m.drop k) := by rw [List.take_append_drop, List.take_append_drop]
 rw [e, h, lexB_pre, List.drop_eq_getElem_cons h1, List.drop_eq_getElem_cons h2]
 have : (l[k] == m[k]) = false := by simpa using hne
 simp [lexB, this]
theorem take_eq_succN {l m : List Nat} {k : Nat} (h1 : k < l.length) (h2 : k < m.length) (h : l.take k = m.take k) (he : l[k] = m[k]) : l.take (k + 1) = m.take (k + 1) := by
 rw [List.take_succ_eq_append_getElem h1, List.take_succ_eq_append_getElem h2, h, he]

theorem tbefore_any (l m : List Nat) (oa ob : Option Addr) (ca cb : Nat) (w : World) (h1 : IntsAt w oa (upL l)) (h2 : IntsAt w ob (upL m)) (hl : l.length ≤ 1000) (hm : m.length ≤ 1000) :
  Calls Tryz.prog 54 #[.slice oa l.length ca, .slice ob m.length cb] w fun e w' => e = .returned (.bool (lexB l m)) ∧ Ext w w' := by
 have H1 := Lib.hid h1; have H2 := Lib.hid h2; clear h1 h2
 go_enter Tryz.func54, Tryz.ntmps54
 go_wp2
 go_loopg [5] l.length (fun g i wr => ∃ k : Nat, k + g = l.length ∧ Ext w wr ∧ i = .int .i64 k ∧ l.take k = m.take k)
 case atStart => exact ⟨0, by simp, Ext.refl _, rfl, by simp⟩
 case round =>
  obtain ⟨k, hk, hE, rfl, hx⟩ := hrel
  have Hx := Lib.hid hx; clear hx
  by_cases hlt : k < l.length
  ·by_cases hlt2 : k < m.length
   ·obtain ⟨b, off, hob, _, hc⟩ := (H1.out.ext hE).at (k := k) (by rw [upL_length]; exact hlt)
    obtain ⟨b2, off2, hob2, _, hc2⟩ := (H2.out.ext hE).at (k := k) (by rw [upL_length]; exact hlt2)
    subst hob
    subst hob2
    have e1 : (upL l)[k]'(by rw [upL_length]; exact hlt) = ((l[k] : Nat) : Int) := by simp [upL]
    have e2 : (upL m)[k]'(by rw [upL_length]; exact hlt2) = ((m[k] : Nat) : Int) := by simp [upL]
    rw [e1] at hc
    rw [e2] at hc2
    clear e1 e2
    by_cases he : l[k] = m[k]
    ·have hq : (((l[k] : Nat) : Int) != ((m[k] : Nat) : Int)) = false := by simp [he]
     have Hs := Lib.hid (take_eq_succN hlt hlt2 Hx.out he)
     generalize l[k] = A at *
     generalize m[k] = C at *
     clear he
     go_wp2_with fail
     refine wp_region_plan (.take 0 <| .take 1 <| .take 2 <| .take 3 <| .take 4 <| .take 5 <| .take 6 <| .take 7 <| .take 8 <| .done) (fun W => Ext wr W) mixed (by kernel_rfl) (by kernel_rfl) rfl (fun _ _ d _ _ h => by cases d <;> exact h) ((Ext.refl wr).drew) ?_
     repeat ((first | (refine plan_take (v := ?_) rfl rfl (fun W hW => ?_) ?_; rotate_left; (focus (have dc := cell_ext hW hc; have dc' := cell_ext hW hc2; go_simp; first | exact rfl | (split <;> first | exact rfl | (exfalso; omega)) | done))) | refine plan_skip rfl rfl ?_); simp only [puts])
     refine plan_done ?_
     go_wp2
     go_roundg (gk - 1)
     case measure => omega
     case rel => exact ⟨k + 1, by omega, hE.drew, by go_num, Hs.out⟩
    ·have hq : (((l[k] : Nat) : Int) != ((m[k] : Nat) : Int)) = true := by simpa using (by omega : ¬ ((l[k] : Nat) : Int) = ((m[k] : Nat) : Int))
     have Hs := Lib.hid (lexB_at Hx.out hlt hlt2 he)
     generalize l[k] = A at *
     generalize m[k] = C at *
     clear he
     go_wp2_with fail
     refine wp_region_plan (.take 0 <| .take 1 <| .take 2 <| .take 3 <| .take 4 <| .take 5 <| .take 6 <| .take 7 <| .take 8 <| .done) (fun W => Ext wr W) mixed (by kernel_rfl) (by kernel_rfl) rfl (fun _ _ d _ _ h => by cases d <;> exact h) ((Ext.refl wr).drew) ?_
     repeat ((first | (refine plan_take (v := ?_) rfl rfl (fun W hW => ?_) ?_; rotate_left; (focus (have dc := cell_ext hW hc; have dc' := cell_ext hW hc2; go_simp; first | exact rfl | (split <;> first | exact rfl | (exfalso; omega)) | done))) | refine plan_skip rfl rfl ?_); simp only [puts])
     refine plan_done ?_
     go_wp2_with fail
     refine wp_region_plan (.take 0 <| .take 1 <| .take 2 <| .take 3 <| .take 4 <| .take 5 <| .take 6 <| .take 7 <| .take 8 <| .take 9 <| .done) (fun W => Ext wr.drew W) mixed (by kernel_rfl) (by kernel_rfl) rfl (fun _ _ d _ _ h => by cases d <;> exact h) ((Ext.refl wr.drew).drew) ?_
     repeat ((first | (refine plan_take (v := ?_) rfl rfl (fun W hW => ?_) ?_; rotate_left; (focus (have dc := cell_ext (((Ext.refl wr).drew).trans hW) hc; have dc' := cell_ext (((Ext.refl wr).drew).trans hW) hc2; go_simp; first | exact rfl | (split <;> first | exact rfl | (exfalso; omega)) | done))) | refine plan_skip rfl rfl ?_); simp only [puts])
     refine plan_done ?_
     go_wp2
     go_ret
     exact ⟨ret_bool (by rw [Hs.out] <;> exact decide_eq_decide.2 (by omega)), hE.drew.drew⟩
   ·have Hs := Lib.hid (lexB_end Hx.out (.inr (by omega)))
    go_wp2
    go_ret
    exact ⟨ret_bool (by rw [Hs.out] <;> exact decide_eq_decide.2 (by omega)), hE⟩
  ·have Hs := Lib.hid (lexB_end Hx.out (.inl (by omega)))
   go_wp2
   go_ret
   exact ⟨ret_bool (by rw [Hs.out] <;> exact decide_eq_decide.2 (by omega)), hE⟩

end Go.Proofs.YtjpekonfjihcoaaGreatDoor
/- Contracts: cmp.Compare, slices.Compare, the comparison of tins. No condition beyond lists of at most 1000 numbers. -/
namespace Go.Proofs.YtjpekonfjihcoaaGreatDoor
open Go.RowKit Go.My Go.TintM

theorem nan_any (a : Int) (w : World) : Calls Tryz.prog 142 #[.int .i64 a] w fun r w' => r = .returned (.bool false) ∧ w = w' := by
 have h : (a != a) = false := by simp
 go_enter Tryz.func142, Tryz.ntmps142
 go_wp2
 go_ret
 exact ⟨rfl, rfl⟩
def cmpI (a b : Int) : Int := if a < b then -1 else if b < a then 1 else 0
theorem cmp_any (a b : Int) (w : World) : Calls Tryz.prog 128 #[.int .i64 a, .int .i64 b] w fun r w' => r = .returned (.int .i64 (cmpI a b)) ∧ w = w' := by
 have R := Lib.hid nan_any
 by_cases h1 : a < b
 ·have Hc := Lib.hid (show cmpI a b = -1 by simp [cmpI, h1])
  go_enter Tryz.func128, Tryz.ntmps128
  go_wp2_with (first | (go_at_call 142; refine (R.out _ _).mono ?_; rintro e w' ⟨rfl, rfl⟩))
  go_ret
  exact ⟨by rw [Hc.out]; rfl, rfl⟩
 ·by_cases h2 : b < a
  ·have Hc := Lib.hid (show cmpI a b = 1 by simp [cmpI, h1, h2])
   go_enter Tryz.func128, Tryz.ntmps128
   go_wp2_with (first | (go_at_call 142; refine (R.out _ _).mono ?_; rintro e w' ⟨rfl, rfl⟩))
   go_ret
   exact ⟨by rw [Hc.out]; rfl, rfl⟩
  ·have Hc := Lib.hid (show cmpI a b = 0 by simp [cmpI, h1, h2])
   go_enter Tryz.func128, Tryz.ntmps128
   go_wp2_with (first | (go_at_call 142; refine (R.out _ _).mono ?_; rintro e w' ⟨rfl, rfl⟩))
   go_ret
   exact ⟨by rw [Hc.out]; rfl, rfl⟩

theorem compare_any (l m : List Nat) (oa ob : Option Addr) (ca cb : Nat) (w : World) (h1 : IntsAt w oa (upL l)) (h2 : IntsAt w ob (upL m)) (hl : l.length ≤ 1000) (hm : m.length ≤ 1000) :
  Calls Tryz.prog 99 #[.slice oa l.length ca, .slice ob m.length cb] w fun e w' => (∃ c : Int, e = .returned (.int .i64 c) ∧ decide (c < 0) = lexB l m) ∧ Ext w w' := by
 have H1 := Lib.hid h1; have H2 := Lib.hid h2; clear h1 h2
 have R := Lib.hid cmp_any
 go_enter Tryz.func99, Tryz.ntmps99
 go_wp2
 go_loopg [5, 6, 7, 8, 11] l.length (fun g x1 x2 x3 x4 i wr => ∃ k : Nat, k + g = l.length ∧ wr = w ∧ i = .int .i64 k ∧ l.take k = m.take k)
 case atStart => exact ⟨0, by simp, rfl, rfl, by simp⟩
 case round =>
  obtain ⟨k, hk, rfl, rfl, hx⟩ := hrel
  have Hx := Lib.hid hx; clear hx
  by_cases hlt : k < l.length
  ·obtain ⟨b, off, hob, _, hc⟩ := H1.out.at (k := k) (by rw [upL_length]; exact hlt)
   subst hob
   have e1 : (upL l)[k]'(by rw [upL_length]; exact hlt) = ((l[k] : Nat) : Int) := by simp [upL]
   rw [e1] at hc
   clear e1
   by_cases hlt2 : k < m.length
   ·obtain ⟨b2, off2, hob2, _, hc2⟩ := H2.out.at (k := k) (by rw [upL_length]; exact hlt2)
    subst hob2
    have e2 : (upL m)[k]'(by rw [upL_length]; exact hlt2) = ((m[k] : Nat) : Int) := by simp [upL]
    rw [e2] at hc2
    clear e2
    by_cases he : l[k] = m[k]
    ·have Hs := Lib.hid (take_eq_succN hlt hlt2 Hx.out he)
     have Hc := Lib.hid (show cmpI (l[k] : Nat) (m[k] : Nat) = 0 by simp [cmpI, he])
     generalize l[k] = A at *
     generalize m[k] = C at *
     clear he
     go_wp2_with (first | (go_at_call 128; refine (R.out _ _ _).mono ?_; rw [Hc.out]; rintro e w' ⟨rfl, rfl⟩))
     go_roundg (gk - 1)
     case measure => omega
     case rel => exact ⟨k + 1, by omega, rfl, by go_num, Hs.out⟩
    ·have Hs := Lib.hid (lexB_at Hx.out hlt hlt2 he)
     have hc0 : (cmpI (l[k] : Nat) (m[k] : Nat) != 0) = true := by
      unfold cmpI
      by_cases h1 : ((l[k] : Nat) : Int) < (m[k] : Nat)
      ·rw [if_pos h1]; rfl
      ·rw [if_neg h1, if_pos (by omega)]; rfl
     have Hd := Lib.hid (show decide (cmpI (l[k] : Nat) (m[k] : Nat) < 0) = decide (l[k] < m[k]) by
      unfold cmpI
      by_cases h1 : ((l[k] : Nat) : Int) < (m[k] : Nat)
      ·rw [if_pos h1]; exact decide_eq_decide.2 ⟨fun _ => by omega, fun _ => by omega⟩
      ·rw [if_neg h1, if_pos (by omega)]; exact decide_eq_decide.2 ⟨fun h => by omega, fun h => by omega⟩)
     generalize hC : cmpI (l[k] : Nat) (m[k] : Nat) = Cm at *
     have HC := Lib.hid hC
     clear hC
     generalize l[k] = A at *
     generalize m[k] = C at *
     clear he
     go_wp2_with (first | (go_at_call 128; refine (R.out _ _ _).mono ?_; rw [HC.out]; rintro e w' ⟨rfl, rfl⟩))
     go_ret
     exact ⟨⟨_, rfl, by rw [Hs.out, Hd.out]⟩, Ext.refl _⟩
   ·have Hs := Lib.hid (lexB_end Hx.out (.inr (by omega)))
    go_wp2
    go_ret
    exact ⟨⟨_, rfl, by rw [Hs.out]; exact decide_eq_decide.2 ⟨fun h => by omega, fun h => by omega⟩⟩, Ext.refl _⟩
  ·have Hs := Lib.hid (lexB_end Hx.out (.inl (by omega)))
   by_cases hlm : l.length < m.length
   ·go_wp2
    go_ret
    exact ⟨⟨_, rfl, by rw [Hs.out]; exact decide_eq_decide.2 ⟨fun h => by omega, fun h => by omega⟩⟩, Ext.refl _⟩
   ·go_wp2
    go_ret
    exact ⟨⟨_, rfl, by rw [Hs.out]; exact decide_eq_decide.2 ⟨fun h => by omega, fun h => by omega⟩⟩, Ext.refl _⟩

theorem lessT_of {l m : List Nat} (h : l.length < m.length) : lessT l m = true := by simp [lessT, h]
theorem lessT_eq {l m : List Nat} (h : l.length = m.length) : lessT l m = lexB l m := by simp [lessT, h]
theorem lessT_no {l m : List Nat} (h : ¬ l.length < m.length) (h2 : ¬ l.length = m.length) : lessT l m = false := by simp [lessT, h, h2]
theorem fewer_any (l m : List Nat) (oa ob : Option Addr) (ca cb : Nat) (w : World) (h1 : IntsAt w oa (upL l)) (h2 : IntsAt w ob (upL m)) (hl : l.length ≤ 1000) (hm : m.length ≤ 1000) :
  Calls Tryz.prog 98 #[.slice oa l.length ca, .slice ob m.length cb] w fun e w' => e = .returned (.bool (lessT l m)) ∧ Ext w w' := by
 have R := Lib.hid (compare_any l m oa ob ca cb w h1 h2 hl hm)
 clear h1 h2
 by_cases hlt : l.length < m.length
 ·have Hs := Lib.hid (lessT_of hlt)
  have hi : (l.length : Int) < (m.length : Int) := by omega
  go_enter Tryz.func98, Tryz.ntmps98
  go_wp2
  go_ret
  exact ⟨by rw [Hs.out]; rfl, Ext.refl _⟩
 ·have hi : ¬ (l.length : Int) < (m.length : Int) := by omega
  by_cases he : l.length = m.length
  ·have Hs := Lib.hid (lessT_eq he)
   have hb : ((l.length : Int) == (m.length : Int)) = true := by simp [he]
   clear he
   go_enter Tryz.func98, Tryz.ntmps98
   go_wp2_with (first | (go_at_call 99; refine R.out.mono ?_; rintro e w1 ⟨⟨c, rfl, hc⟩, hE⟩; have Hc := Lib.hid hc; have HE := Lib.hid hE; clear hc hE))
   all_goals go_ret
   all_goals exact ⟨by rw [Hs.out, ← Hc.out]; first | rfl | simp [*], HE.out⟩
  ·have Hs := Lib.hid (lessT_no hlt he)
   have hb : ((l.length : Int) == (m.length : Int)) = false := by simpa using (by omega : ¬ (l.length : Int) = (m.length : Int))
   clear he
   go_enter Tryz.func98, Tryz.ntmps98
   go_wp2
   go_ret
   exact ⟨by rw [Hs.out]; rfl, Ext.refl _⟩

end Go.Proofs.YtjpekonfjihcoaaGreatDoor
