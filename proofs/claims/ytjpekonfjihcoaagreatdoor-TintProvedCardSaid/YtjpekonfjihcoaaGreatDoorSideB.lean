/- Contracts of the reference: Side of any three numbers, Before on whole numbers. -/
import Derived.Test.YtjpekonfjihcoaaGreatDoorM27
import Derived.Test.YtjpekonfjihcoaaGreatDoorR13
import Derived.Test.YtjpekonfjihcoaaGreatDoorM8
namespace Go.TintM
end Go.TintM
set_option maxRecDepth 100000
set_option maxHeartbeats 64000000
set_option linter.unusedVariables false
set_option linter.unusedSimpArgs false
namespace Go.Proofs.YtjpekonfjihcoaaGreatDoor
open Go.RowKit Go.My Go.TintM
attribute [local go_sem] equal22

def lexI : List Int → List Int → Bool
 | x :: a, y :: b => decide (x < y) || (x == y && lexI a b)
 | [], _ :: _ => true
 | _, [] => false
theorem lexI_pre (c : List Int) {a b : List Int} : lexI (c ++ a) (c ++ b) = lexI a b := by
 induction c with
 | nil => rfl
 | cons x c ih => simp [lexI, ih]
theorem lexI_at {l m : List Int} {k : Nat} (h : l.take k = m.take k) (h1 : k < l.length) (h2 : k < m.length) (hne : l[k] ≠ m[k]) : lexI l m = decide (l[k] < m[k]) := by
 have e : lexI l m = lexI (l.take k ++ l.drop k) (m.take k ++ m.drop k) := by rw [List.take_append_drop, List.take_append_drop]
 rw [e, h, lexI_pre, List.drop_eq_getElem_cons h1, List.drop_eq_getElem_cons h2]
 have : (l[k] == m[k]) = false := by simpa using hne
 simp [lexI, this]
theorem take_eq_succI {l m : List Int} {k : Nat} (h1 : k < l.length) (h2 : k < m.length) (h : l.take k = m.take k) (he : l[k] = m[k]) : l.take (k + 1) = m.take (k + 1) := by
 rw [List.take_succ_eq_append_getElem h1, List.take_succ_eq_append_getElem h2, h, he]
theorem lexI_end {l m : List Int} {k : Nat} (h : l.take k = m.take k) (hk : l.length ≤ k ∨ m.length ≤ k) : lexI l m = decide (l.length < m.length) := by
 rw [← List.take_append_drop k l, ← List.take_append_drop k m, h, lexI_pre]
 simp only [List.length_append, List.length_drop]
 have hl := congrArg List.length h
 simp only [List.length_take] at hl
 rcases hk with hk | hk
 ·rw [List.drop_of_length_le hk]
  cases hd : m.drop k with
  | nil =>
   have := congrArg List.length hd
   simp at this
   simp [lexI]; omega
  | cons x r =>
   have := congrArg List.length hd
   simp at this
   simp [lexI]; omega
 ·rw [List.drop_of_length_le hk]
  cases hd : l.drop k with
  | nil =>
   have := congrArg List.length hd
   simp at this
   simp [lexI]; omega
  | cons x r =>
   have := congrArg List.length hd
   simp at this
   simp [lexI]; omega
theorem tbefore_int (l m : List Int) (oa ob : Option Addr) (ca cb : Nat) (w : World) (h1 : IntsAt w oa l) (h2 : IntsAt w ob m) (hm : m.length ≤ 1000) :
  Calls Tryz.prog 54 #[.slice oa l.length ca, .slice ob m.length cb] w fun e w' => e = .returned (.bool (lexI l m)) ∧ Ext w w' := by
 have H1 := Lib.hid h1; have H2 := Lib.hid h2; clear h1 h2
 go_enter Tryz.func54, Tryz.ntmps54
 go_wp2
 go_loopg [5] l.length (fun g i wr => ∃ k : Nat, k + g = l.length ∧ Ext w wr ∧ i = .int .i64 k ∧ l.take k = m.take k)
 case atStart => exact ⟨0, by simp, Ext.refl _, rfl, by simp⟩
 case round =>
  obtain ⟨k, hk, hE, rfl, hx⟩ := hrel
  have Hx := Lib.hid hx; clear hx
  by_cases hlt : k < l.length
  ·by_cases hlt2 : k < m.length
   ·obtain ⟨b, off, hob, _, hc⟩ := (H1.out.ext hE).at (k := k) (hlt)
    obtain ⟨b2, off2, hob2, _, hc2⟩ := (H2.out.ext hE).at (k := k) (hlt2)
    subst hob
    subst hob2
    by_cases he : l[k] = m[k]
    ·have hq : (l[k] != m[k]) = false := by simp [he]
     have Hs := Lib.hid (take_eq_succI hlt hlt2 Hx.out he)
     generalize l[k] = A at *
     generalize m[k] = C at *
     clear he
     go_wp2_with fail
     refine wp_region_plan (.take 0 <| .take 1 <| .take 2 <| .take 3 <| .take 4 <| .take 5 <| .take 6 <| .take 7 <| .take 8 <| .done) (fun W => Ext wr W) mixed (by kernel_rfl) (by kernel_rfl) rfl (fun _ _ d _ _ h => by cases d <;> exact h) ((Ext.refl wr).drew) ?_
     repeat ((first | (refine plan_take (v := ?_) rfl rfl (fun W hW => ?_) ?_; rotate_left; (focus (have dc := cell_ext hW hc; have dc' := cell_ext hW hc2; go_simp; first | exact rfl | (split <;> first | exact rfl | (exfalso; omega)) | done))) | refine plan_skip rfl rfl ?_); simp only [puts])
     refine plan_done ?_
     go_wp2
     go_roundg (gk - 1)
     case measure => omega
     case rel => exact ⟨k + 1, by omega, hE.drew, by go_num, Hs.out⟩
    ·have hq : (l[k] != m[k]) = true := by simpa using (by omega : ¬ l[k] = m[k])
     have Hs := Lib.hid (lexI_at Hx.out hlt hlt2 he)
     generalize l[k] = A at *
     generalize m[k] = C at *
     clear he
     go_wp2_with fail
     refine wp_region_plan (.take 0 <| .take 1 <| .take 2 <| .take 3 <| .take 4 <| .take 5 <| .take 6 <| .take 7 <| .take 8 <| .done) (fun W => Ext wr W) mixed (by kernel_rfl) (by kernel_rfl) rfl (fun _ _ d _ _ h => by cases d <;> exact h) ((Ext.refl wr).drew) ?_
     repeat ((first | (refine plan_take (v := ?_) rfl rfl (fun W hW => ?_) ?_; rotate_left; (focus (have dc := cell_ext hW hc; have dc' := cell_ext hW hc2; go_simp; first | exact rfl | (split <;> first | exact rfl | (exfalso; omega)) | done))) | refine plan_skip rfl rfl ?_); simp only [puts])
     refine plan_done ?_
     go_wp2_with fail
     refine wp_region_plan (.take 0 <| .take 1 <| .take 2 <| .take 3 <| .take 4 <| .take 5 <| .take 6 <| .take 7 <| .take 8 <| .take 9 <| .done) (fun W => Ext wr.drew W) mixed (by kernel_rfl) (by kernel_rfl) rfl (fun _ _ d _ _ h => by cases d <;> exact h) ((Ext.refl wr.drew).drew) ?_
     repeat ((first | (refine plan_take (v := ?_) rfl rfl (fun W hW => ?_) ?_; rotate_left; (focus (have dc := cell_ext (((Ext.refl wr).drew).trans hW) hc; have dc' := cell_ext (((Ext.refl wr).drew).trans hW) hc2; go_simp; first | exact rfl | (split <;> first | exact rfl | (exfalso; omega)) | done))) | refine plan_skip rfl rfl ?_); simp only [puts])
     refine plan_done ?_
     go_wp2
     go_ret
     exact ⟨ret_bool (by rw [Hs.out] <;> exact decide_eq_decide.2 (by omega)), hE.drew.drew⟩
   ·have Hs := Lib.hid (lexI_end Hx.out (.inr (by omega)))
    go_wp2
    go_ret
    exact ⟨ret_bool (by rw [Hs.out] <;> exact decide_eq_decide.2 (by omega)), hE⟩
  ·have Hs := Lib.hid (lexI_end Hx.out (.inl (by omega)))
   go_wp2
   go_ret
   exact ⟨ret_bool (by rw [Hs.out] <;> exact decide_eq_decide.2 (by omega)), hE⟩


def dir3 (d : Nat → Int) : Prop := ∀ p, p < 3 → -2 ≤ d p ∧ d p ≤ 2
theorem rSide_off (d : Nat → Int) (hd : ¬ dir3 d) (w : World) :
  Calls Tryz.prog 57 #[dirV d] w fun e w' => e = .returned (.bool false) ∧ Ext w w' := by
 have R := Lib.hid (fun p W => rin_any (d p) (-2) 2 W)
 have Hd := Lib.hid hd
 clear hd
 go_enter Tryz.func57, Tryz.ntmps57
 go_wp2
 obtain ⟨w0, hw0⟩ : ∃ W, W = w.alloc (.cells #[.int .i64 (d 0), .int .i64 (d 1), .int .i64 (d 2)] 22) := ⟨_, rfl⟩
 have HE0 := Lib.hid (show Ext w w0 by rw [hw0]; exact (Ext.refl w).alloc _)
 have HD := Lib.hid (show DirBox w0 w.heap.size d by rw [hw0]; exact DirBox.new w d)
 rw [← hw0]
 clear hw0
 go_loopg [3] 3 (fun g i wr => ∃ k : Nat, k + g = 3 ∧ i = .int .i64 k ∧ wr = w0 ∧ ∀ p, p < k → -2 ≤ d p ∧ d p ≤ 2)
 case atStart => exact ⟨0, by omega, rfl, rfl, fun p hp => absurd hp (Nat.not_lt_zero p)⟩
 case round =>
  obtain ⟨k, hk, rfl, hwr, hin⟩ := hrel
  obtain rfl := hwr.symm
  have Hin := Lib.hid hin
  clear hin
  by_cases hk3 : k < 3
  ·have hkI : (k : Int) < 3 := by omega
   have e1 := HD.out.c k hk3
   have Rk := Lib.hid (R.out k)
   by_cases hi : -2 ≤ d k ∧ d k ≤ 2
   ·have Hn := Lib.hid (show ∀ p, p < k + 1 → -2 ≤ d p ∧ d p ≤ 2 from fun p hp => by
     by_cases e : p = k
     ·subst e; exact hi
     ·exact Hin.out p (by omega))
    rw [show inB (d k) (-2) 2 = true by simp [inB]; omega] at Rk
    generalize d k = D at *
    clear hi
    go_wp2_with (first | (go_at_call 81; refine (Rk.out _).mono ?_; rintro e w5 ⟨rfl, h5⟩; obtain rfl := h5.symm))
    go_roundg (gk - 1)
    case measure => omega
    case rel => exact ⟨k + 1, by omega, by go_num, rfl, Hn.out⟩
   ·rw [show inB (d k) (-2) 2 = false by rw [Bool.eq_false_iff]; intro h; simp [inB] at h; omega] at Rk
    generalize d k = D at *
    clear hi
    go_wp2_with (first | (go_at_call 81; refine (Rk.out _).mono ?_; rintro e w5 ⟨rfl, h5⟩; obtain rfl := h5.symm))
    go_ret
    exact ⟨rfl, HE0.out⟩
  ·obtain rfl : k = 3 := by omega
   exact absurd Hin.out Hd.out

end Go.Proofs.YtjpekonfjihcoaaGreatDoor
