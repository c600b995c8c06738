/- Contracts: Rising of the reference; can of the laws. No condition beyond small numbers. -/
import Derived.Test.YtiehfpkcaoeieaaGreatDoorRefWr2
set_option linter.unusedVariables false
set_option linter.unusedSimpArgs false
namespace Go.Proofs.YtiehfpkcaoeieaaGreatDoor
open Go.RowKit Go.My Go.StripM

/-- Whether a list is one of increasing numbers below c, above p. -/
def risFrom (c : Nat) : Int → List Int → Bool
  | _, [] => true
  | p, x :: r => inB x 0 ((c : Int) - 1) && decide (p < x) && risFrom c x r
def risB (c : Nat) (l : List Int) : Bool := risFrom c (-1) l

theorem ris_up {c : Nat} : ∀ {l : List Int} {p : Int}, risFrom c p l = true → ∃ l' : List Nat, l = up l' ∧ l'.Pairwise (· < ·) ∧ (∀ i ∈ l', i < c ∧ p < (i : Int))
  | [], p, _ => ⟨[], rfl, .nil, fun i h => by simp at h⟩
  | x :: r, p, h => by
    simp only [risFrom, Bool.and_eq_true, decide_eq_true_eq] at h
    obtain ⟨⟨h1, h2⟩, h3⟩ := h
    simp only [inB, Bool.and_eq_true, decide_eq_true_eq] at h1
    obtain ⟨l', rfl, hp, hm⟩ := ris_up h3
    refine ⟨x.toNat :: l', ?_, ?_, ?_⟩
    · simp only [up, List.map_cons]; rw [Int.toNat_of_nonneg h1.1]
    · refine List.pairwise_cons.2 ⟨fun i hi => ?_, hp⟩
      have := (hm i hi).2
      omega
    · intro i hi
      rcases List.mem_cons.1 hi with rfl | hi
      · exact ⟨by omega, by omega⟩
      · exact ⟨(hm i hi).1, by have := (hm i hi).2; omega⟩
theorem ris_of {c : Nat} : ∀ {l : List Nat} {p : Int}, l.Pairwise (· < ·) → (∀ i ∈ l, i < c ∧ p < (i : Int)) → risFrom c p (up l) = true
  | [], _, _, _ => rfl
  | x :: r, p, h, hm => by
    obtain ⟨h1, h2⟩ := List.pairwise_cons.1 h
    have hx := hm x List.mem_cons_self
    have hr := ris_of (c := c) (p := (x : Int)) h2 (fun i hi => ⟨(hm i (List.mem_cons_of_mem _ hi)).1, by have := h1 i hi; omega⟩)
    simp only [up, List.map_cons, risFrom, Bool.and_eq_true, decide_eq_true_eq]
    refine ⟨⟨?_, hx.2⟩, hr⟩
    simp only [inB, Bool.and_eq_true, decide_eq_true_eq]
    omega

set_option maxHeartbeats 1000000 in
theorem rising_any (n : Int) (m : Nat) (oa : Option Addr) (cap : Nat) (l : List Int) (ob : Option Addr) (cb : Nat) (w : World) (hm : m ≤ 1000) (h : IntsAt w ob l) (hl : l.length ≤ 9223372036854775807) :
    Calls Tryz.prog 48 #[.agg #[.int .i64 n, .slice oa m cap], .slice ob l.length cb] w fun e w' => e = .returned (.bool (risB m l)) ∧ Ext w w' := by
  have H := Lib.hid h; clear h
  go_enter Tryz.func48, Tryz.ntmps48
  go_wp2
  go_loopg [5] l.length (fun g i wr => ∃ k : Nat, k + g = l.length ∧ i = .int .i64 k ∧ Ext w wr ∧ wr.cell? ⟨w.heap.size, 1, none⟩ = some (.slice oa m cap) ∧ risB m l = risFrom m (if k = 0 then -1 else l.getD (k - 1) 0) (l.drop k))
  case atStart => exact ⟨0, by simp, rfl, (Ext.refl w).alloc _, by go_simp, by simp [risB]⟩
  case round =>
    obtain ⟨k, hk, rfl, hE, c1, hx⟩ := hrel
    have Hr := Lib.hid (H.out.ext hE)
    by_cases hlt : k < l.length
    · obtain ⟨b, off, ho, hb, hc⟩ := Hr.out.at hlt
      subst ho
      rw [List.drop_eq_getElem_cons hlt, risFrom] at hx
      cases hin : inB l[k] 0 ((m : Int) - 1)
      · rw [hin] at hx
        have Hx := Lib.hid hx; clear hx
        go_wp2_with fail
        refine wp_region_plan (.take 0 <| .take 1 <| .take 2 <| .take 3 <| .take 4 <| .take 5 <| .take 6 <| .take 7 <| .only 8 <| .take 9 <| .take 10 <| .take 11 <| .take 12 <| .take 13 <| .take 14 <| .take 15 <| .take 16 <| .take 17 <| .take 18 <| .take 19 <| .take 20 <| .take 21 <| .take 22 <| .take 23 <| .take 24 <| .take 25 <| .done) (fun W => Ext wr W) mixed (by kernel_rfl) (by kernel_rfl) rfl (fun _ _ d _ _ h => by cases d <;> exact h) ((Ext.refl wr).drew) ?_
        repeat (first | (refine plan_take (v := ?_) rfl rfl (fun W hW => ?_) ?_; rotate_left; (focus (have d1 := cell_ext hW c1; have dc := cell_ext hW hc; go_simp; first | exact rfl | (split <;> first | exact rfl | (exfalso; omega)) | done)); simp only [Act.put, List.setIfInBounds_toArray, List.set_cons_zero, List.set_cons_succ]) | (refine plan_skip rfl rfl ?_; simp only [Act.put, List.setIfInBounds_toArray, List.set_cons_zero, List.set_cons_succ]))
        refine plan_walk rfl ?_; intro K hK
        go_wp2_with (first | (go_at_call 79; refine (rin_any _ _ _ _).mono ?_; rintro e w' ⟨rfl, rfl⟩))
        have hE2 := (Ext.refl wr).drew
        refine hK _ _ hE2 ?_
        repeat (first | (refine plan_take (v := ?_) rfl rfl (fun W hW => ?_) ?_; rotate_left; (focus (skip; go_simp; first | exact rfl | (split <;> first | exact rfl | (exfalso; omega)) | done)); simp only [Act.put, List.setIfInBounds_toArray, List.set_cons_zero, List.set_cons_succ]) | (refine plan_skip rfl rfl ?_; simp only [Act.put, List.setIfInBounds_toArray, List.set_cons_zero, List.set_cons_succ]))
        refine plan_done ?_
        go_wp2
        go_ret
        exact ⟨ret_bool (by rw [Hx.out]; simp), hE.trans hE2⟩
      · rw [hin, Bool.true_and] at hx
        by_cases hk0 : k = 0
        · subst hk0
          have hpos : (-1 : Int) < l[0] := by simp only [inB, Bool.and_eq_true, decide_eq_true_eq] at hin; omega
          rw [if_pos rfl, decide_eq_true hpos, Bool.true_and] at hx
          have hx2 : risB m l = risFrom m (if 0 + 1 = 0 then -1 else l.getD (0 + 1 - 1) 0) (l.drop (0 + 1)) := by rw [hx, if_neg (by omega)]; simp [List.getD, hlt]
          have Hx := Lib.hid hx2; clear hx hx2
          rw [Nat.add_zero] at hc
          go_wp2_with fail
          refine wp_region_plan (.take 0 <| .take 1 <| .take 2 <| .take 3 <| .take 4 <| .take 5 <| .take 6 <| .take 7 <| .only 8 <| .take 9 <| .take 10 <| .take 11 <| .take 12 <| .take 13 <| .take 14 <| .take 15 <| .take 16 <| .take 17 <| .take 18 <| .take 19 <| .take 20 <| .take 21 <| .take 22 <| .take 23 <| .take 24 <| .take 25 <| .done) (fun W => Ext wr W) mixed (by kernel_rfl) (by kernel_rfl) rfl (fun _ _ d _ _ h => by cases d <;> exact h) ((Ext.refl wr).drew) ?_
          repeat (first | (refine plan_take (v := ?_) rfl rfl (fun W hW => ?_) ?_; rotate_left; (focus (have d1 := cell_ext hW c1; have dc := cell_ext hW hc; go_simp; first | exact rfl | (split <;> first | exact rfl | (exfalso; omega)) | done)); simp only [Act.put, List.setIfInBounds_toArray, List.set_cons_zero, List.set_cons_succ]) | (refine plan_skip rfl rfl ?_; simp only [Act.put, List.setIfInBounds_toArray, List.set_cons_zero, List.set_cons_succ]))
          refine plan_walk rfl ?_; intro K hK
          go_wp2_with (first | (go_at_call 79; refine (rin_any _ _ _ _).mono ?_; rintro e w' ⟨rfl, rfl⟩))
          have hE2 := (Ext.refl wr).drew
          refine hK _ _ hE2 ?_
          repeat (first | (refine plan_take (v := ?_) rfl rfl (fun W hW => ?_) ?_; rotate_left; (focus (have dc := cell_ext hW hc; go_simp; first | exact rfl | (split <;> first | exact rfl | (exfalso; omega)) | done)); simp only [Act.put, List.setIfInBounds_toArray, List.set_cons_zero, List.set_cons_succ]) | (refine plan_skip rfl rfl ?_; simp only [Act.put, List.setIfInBounds_toArray, List.set_cons_zero, List.set_cons_succ]))
          refine plan_done ?_
          go_wp2
          go_roundg (gk - 1)
          case measure => omega
          case rel => exact ⟨1, by omega, by go_num, hE.trans hE2, cell_ext hE2 c1, Hx.out⟩
        · obtain ⟨j, rfl⟩ : ∃ j, k = j + 1 := ⟨k - 1, by omega⟩
          have hk1 : j < l.length := by omega
          obtain ⟨b2, off2, ho2, hb2, hc2⟩ := Hr.out.at hk1
          obtain ⟨rfl, rfl⟩ : b = b2 ∧ off = off2 := by simpa using ho2
          have hgd : l.getD (j + 1 - 1) 0 = l[j] := by simp [List.getD, hk1]
          rw [if_neg hk0, hgd] at hx
          have hnxt : (if j + 1 + 1 = 0 then (-1 : Int) else l.getD (j + 1 + 1 - 1) 0) = l[j + 1] := by rw [if_neg (by omega)]; simp [List.getD, hlt]
          have Hn := Lib.hid hnxt
          have Hx := Lib.hid hx
          have hlti : (j : Int) + 1 < l.length := by omega
          have hltj : (j : Int) < l.length := by omega
          have hpos : (0 : Int) < (j : Int) + 1 := by omega
          have hwj : IntKind.i64.wrap (j : Int) = j := IntWalk.i64_in _ (by omega)
          clear hx hgd hnxt hk0
          obtain ⟨X, hX⟩ : ∃ X, X = l[j + 1] := ⟨_, rfl⟩
          obtain ⟨Y, hY⟩ : ∃ Y, Y = l[j] := ⟨_, rfl⟩
          rw [← hX] at hc hin Hn
          rw [← hY] at hc2
          rw [← hX, ← hY] at Hx
          clear hX hY
          by_cases hle : X ≤ Y
          · go_wp2_with fail
            refine wp_region_plan (.take 0 <| .take 1 <| .take 2 <| .take 3 <| .take 4 <| .take 5 <| .take 6 <| .take 7 <| .only 8 <| .take 9 <| .take 10 <| .take 11 <| .take 12 <| .take 13 <| .take 14 <| .take 15 <| .take 16 <| .take 17 <| .take 18 <| .take 19 <| .take 20 <| .take 21 <| .take 22 <| .take 23 <| .take 24 <| .take 25 <| .done) (fun W => Ext wr W) mixed (by kernel_rfl) (by kernel_rfl) rfl (fun _ _ d _ _ h => by cases d <;> exact h) ((Ext.refl wr).drew) ?_
            repeat (first | (refine plan_take (v := ?_) rfl rfl (fun W hW => ?_) ?_; rotate_left; (focus (have d1 := cell_ext hW c1; have dc := cell_ext hW hc; have dd := cell_ext hW hc2; go_simp; first | exact rfl | (split <;> first | exact rfl | (exfalso; omega)) | done)); simp only [Act.put, List.setIfInBounds_toArray, List.set_cons_zero, List.set_cons_succ]) | (refine plan_skip rfl rfl ?_; simp only [Act.put, List.setIfInBounds_toArray, List.set_cons_zero, List.set_cons_succ]))
            refine plan_walk rfl ?_; intro K hK
            go_wp2_with (first | (go_at_call 79; refine (rin_any _ _ _ _).mono ?_; rintro e w' ⟨rfl, rfl⟩))
            have hE2 := (Ext.refl wr).drew
            refine hK _ _ hE2 ?_
            repeat (first | (refine plan_take (v := ?_) rfl rfl (fun W hW => ?_) ?_; rotate_left; (focus (have dc := cell_ext hW hc; have dd := cell_ext hW hc2; go_simp; first | exact rfl | (split <;> first | exact rfl | (exfalso; omega)) | done)); simp only [Act.put, List.setIfInBounds_toArray, List.set_cons_zero, List.set_cons_succ]) | (refine plan_skip rfl rfl ?_; simp only [Act.put, List.setIfInBounds_toArray, List.set_cons_zero, List.set_cons_succ]))
            refine plan_done ?_
            go_wp2
            go_ret
            exact ⟨ret_bool (by rw [Hx.out, decide_eq_false (by omega)]; rfl), hE.trans hE2⟩
          · have hlt3 : Y < X := by omega
            go_wp2_with fail
            refine wp_region_plan (.take 0 <| .take 1 <| .take 2 <| .take 3 <| .take 4 <| .take 5 <| .take 6 <| .take 7 <| .only 8 <| .take 9 <| .take 10 <| .take 11 <| .take 12 <| .take 13 <| .take 14 <| .take 15 <| .take 16 <| .take 17 <| .take 18 <| .take 19 <| .take 20 <| .take 21 <| .take 22 <| .take 23 <| .take 24 <| .take 25 <| .done) (fun W => Ext wr W) mixed (by kernel_rfl) (by kernel_rfl) rfl (fun _ _ d _ _ h => by cases d <;> exact h) ((Ext.refl wr).drew) ?_
            repeat (first | (refine plan_take (v := ?_) rfl rfl (fun W hW => ?_) ?_; rotate_left; (focus (have d1 := cell_ext hW c1; have dc := cell_ext hW hc; have dd := cell_ext hW hc2; go_simp; first | exact rfl | (split <;> first | exact rfl | (exfalso; omega)) | done)); simp only [Act.put, List.setIfInBounds_toArray, List.set_cons_zero, List.set_cons_succ]) | (refine plan_skip rfl rfl ?_; simp only [Act.put, List.setIfInBounds_toArray, List.set_cons_zero, List.set_cons_succ]))
            refine plan_walk rfl ?_; intro K hK
            go_wp2_with (first | (go_at_call 79; refine (rin_any _ _ _ _).mono ?_; rintro e w' ⟨rfl, rfl⟩))
            have hE2 := (Ext.refl wr).drew
            refine hK _ _ hE2 ?_
            repeat (first | (refine plan_take (v := ?_) rfl rfl (fun W hW => ?_) ?_; rotate_left; (focus (have dc := cell_ext hW hc; have dd := cell_ext hW hc2; go_simp; first | exact rfl | (split <;> first | exact rfl | (exfalso; omega)) | done)); simp only [Act.put, List.setIfInBounds_toArray, List.set_cons_zero, List.set_cons_succ]) | (refine plan_skip rfl rfl ?_; simp only [Act.put, List.setIfInBounds_toArray, List.set_cons_zero, List.set_cons_succ]))
            refine plan_done ?_
            go_wp2
            go_roundg (gk - 1)
            case measure => omega
            case rel => exact ⟨j + 1 + 1, by omega, by go_num, hE.trans hE2, cell_ext hE2 c1, by rw [Hn.out, Hx.out, decide_eq_true hlt3, Bool.true_and]⟩
    · go_wp2
      go_ret
      rw [List.drop_of_length_le (by omega)] at hx
      exact ⟨ret_bool (by rw [hx]; rfl), hE⟩

end Go.Proofs.YtiehfpkcaoeieaaGreatDoor
