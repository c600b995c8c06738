/- Contract of the reference: Split. No condition beyond short strings. -/
import Derived.Test.YtiehfpkcaoeieaaGreatDoorMathU
import Derived.Test.YtiehfpkcaoeieaaGreatDoorM12
set_option linter.unusedVariables false
set_option linter.unusedSimpArgs false
namespace Go.Proofs.YtiehfpkcaoeieaaGreatDoor
open Go.RowKit Go.My Go.StripM

theorem bs_ext (l : List UInt8) (a b : Nat) : (bs l).extract a b = bs ((l.drop a).take (b - a)) := by
  apply ByteArray.ext
  apply Array.ext'
  simp [ByteArray.data_extract, List.extract_eq_take_drop]
theorem own_strs2 {w : World} {B : Nat} {v : Value} {L : List (List UInt8)} (h : Own w B 9 v (L.map fun x => Value.string (bs x))) (hL : 0 < L.length) : ∃ g cap, v = .slice (some ⟨g, 0, none⟩) L.length cap ∧ B ≤ g ∧ L.length ≤ cap ∧ cap ≤ maxLen ∧ StrsAt w (some ⟨g, 0, none⟩) L := by
  obtain ⟨oa, cap, e, hs⟩ := own_strs h
  obtain ⟨g, cap', e1, eB, _, e4, e5, _⟩ := h.cellAt (i := 0) (by simpa using hL) undef
  rw [List.length_map] at e1 e4
  rw [e] at e1
  injection e1 with e1 e2 e3
  subst e1 e3
  exact ⟨g, cap, e, eB, e4, e5, hs⟩
theorem spl_step {c : UInt8} {l : List UInt8} {f k : Nat} (hk : k < l.length) (hf : f ≤ k) (hc : c ∉ (l.drop f).take (k - f)) (he : l[k] = c) : spl c (l.drop f) = ((l.drop f).take (k - f)) :: spl c (l.drop (k + 1)) := by
  have h1 : l.drop f = (l.drop f).take (k - f) ++ c :: l.drop (k + 1) := by
    have h2 : (l.drop f).drop (k - f) = l.drop k := by rw [List.drop_drop]; congr 1; omega
    have h3 : l.drop k = c :: l.drop (k + 1) := by rw [← he]; exact List.drop_eq_getElem_cons hk
    rw [← h3, ← h2, List.take_append_drop]
  have h4 := spl_hit (l.drop (k + 1)) hc
  rw [← h1] at h4
  exact h4
theorem not_step {c : UInt8} {l : List UInt8} {f k : Nat} (hk : k < l.length) (hf : f ≤ k) (hc : c ∉ (l.drop f).take (k - f)) (he : ¬ l[k] = c) : c ∉ (l.drop f).take (k + 1 - f) := by
  have h1 : k - f < (l.drop f).length := by rw [List.length_drop]; omega
  have h2 : (l.drop f).take (k + 1 - f) = (l.drop f).take (k - f) ++ [l[k]] := by
    rw [show k + 1 - f = (k - f) + 1 by omega, List.take_succ_eq_append_getElem h1]
    congr 2
    rw [List.getElem_drop]
    congr 1; omega
  rw [h2]
  simp only [List.mem_append, List.mem_singleton, not_or]
  exact ⟨hc, fun e => he e.symm⟩

set_option maxRecDepth 100000 in
set_option maxHeartbeats 2000000 in
theorem rsplit_any (c : UInt8) (l : List UInt8) (w : World) (hl : l.length ≤ 100000) :
    Calls Tryz.prog 113 #[.string (bs l), .int .u8 c.toNat] w fun e w' => ∃ g cap, e = .returned (.slice (some ⟨g, 0, none⟩) (spl c l).length cap) ∧ w.heap.size ≤ g ∧ (spl c l).length ≤ cap ∧ cap ≤ maxLen ∧ StrsAt w' (some ⟨g, 0, none⟩) (spl c l) ∧ Ext w w' := by
  have hsz := bs_size l
  go_enter Tryz.func113, Tryz.ntmps113
  go_wp2
  go_loopg [5, 6, 7] l.length (fun g v fr i wr => ∃ (k f : Nat) (P : List (List UInt8)), k + g = l.length ∧ f ≤ k ∧ i = .int .i64 k ∧ fr = .int .i64 f ∧ Ext w wr ∧ My.Own wr w.heap.size 9 v (P.map fun x => Value.string (bs x)) ∧ P.length ≤ f ∧ spl c l = P ++ spl c (l.drop f) ∧ c ∉ (l.drop f).take (k - f))
  case atStart => exact ⟨0, 0, [], by simp, by omega, rfl, rfl, Ext.refl _, Own.nil _ _ _, by simp, by simp, by simp⟩
  case round =>
    obtain ⟨k, f, P, hk, hf, rfl, rfl, hE, hown, hP, hsp, hnc⟩ := hrel
    have Hown := Lib.hid hown
    have Hsp := Lib.hid hsp
    have Hnc := Lib.hid hnc
    have HE := Lib.hid hE
    have hsw := hE.size
    clear hown hsp hnc hE
    by_cases hlt : k < l.length
    · have hks : k < (bs l).size := by rw [hsz]; exact hlt
      have hidx : (bs l)[k]'hks = l[k] := rfl
      have hki : (k : Int) < (l.length : Int) := by omega
      by_cases he : l[k] = c
      · have heI : ((l[k].toNat : Int) == (c.toNat : Int)) = true := by rw [he]; simp
        have heq : (bs l).extract f k = bs ((l.drop f).take (k - f)) := bs_ext l f k
        have Heq := Lib.hid heq
        have hfk : (f : Int) ≤ (k : Int) := by omega
        have hkz : (k : Int) ≤ ((bs l).size : Int) := by omega
        have Hst := Lib.hid (spl_step hlt hf Hnc.out he)
        clear he heq
        go_wp2_with (first | (at_builtin; refine wpList_app1 _ rfl _ _ 118 rfl 9 Tryz.underlying118 (.string ByteArray.empty) 16 i9 rfl (by decide) w.heap.size _ _ rfl (Hown.out.ext ((Ext.refl _).alloc _)) wr.heap.size (.string ((bs l).extract f k)) rfl (by go_simp) rfl ?_ ?_ ?_))
        · rw [List.length_map]; omega
        · simp; omega
        · intro v' w2 hown2 hBl _
          rw [Heq.out] at hown2
          have Ho2 := Lib.hid hown2; clear hown2
          go_wp2
          go_roundg (gk - 1)
          case measure => omega
          case rel => exact ⟨k + 1, k + 1, P ++ [(l.drop f).take (k - f)], by omega, Nat.le_refl _, by go_num, by go_num, (HE.out.alloc _).below hBl (Nat.le_refl _), by rw [List.map_append]; exact Ho2.out, by simp; omega, by rw [Hsp.out, Hst.out]; simp, by simp⟩
      · have hne : ¬ (l[k].toNat : Int) = (c.toNat : Int) := fun e => he (UInt8.toNat.inj (by omega))
        have heI : ((l[k].toNat : Int) == (c.toNat : Int)) = false := by simpa using hne
        have Hst := Lib.hid (not_step hlt hf Hnc.out he)
        clear he
        go_wp2
        go_roundg (gk - 1)
        case measure => omega
        case rel => exact ⟨k + 1, f, P, by omega, by omega, by go_num, rfl, HE.out, Hown.out, hP, Hsp.out, Hst.out⟩
    · obtain rfl : k = l.length := by omega
      have heq : (bs l).extract f l.length = bs (l.drop f) := by
        rw [bs_ext]; congr 1; exact List.take_of_length_le (by rw [List.length_drop]; omega)
      have hfin : spl c (l.drop f) = [l.drop f] := spl_none (by
        have := Hnc.out
        rwa [List.take_of_length_le (by rw [List.length_drop]; omega)] at this)
      have Heq := Lib.hid heq
      have Hfin := Lib.hid hfin
      have hfz : (f : Int) ≤ ((bs l).size : Int) := by omega
      clear heq hfin
      go_wp2_with (first | (at_builtin; refine wpList_app1 _ rfl _ _ 118 rfl 9 Tryz.underlying118 (.string ByteArray.empty) 16 i9 rfl (by decide) w.heap.size _ _ rfl (Hown.out.ext ((Ext.refl _).alloc _)) wr.heap.size (.string ((bs l).extract f l.length)) rfl (by go_simp) rfl ?_ ?_ ?_))
      · rw [List.length_map]; omega
      · simp; omega
      · intro v' w2 hown2 hBl _
        rw [Heq.out] at hown2
        have hown3 : My.Own w2 w.heap.size 9 v' ((spl c l).map fun x => Value.string (bs x)) := by rw [Hsp.out, Hfin.out, List.map_append]; exact hown2
        obtain ⟨g, cap, rfl, hB0, h1, h2, h3⟩ := own_strs2 hown3 (by have := spl_pos c l; omega)
        have H3 := Lib.hid h3
        have HB := Lib.hid ((HE.out.alloc (.cells #[.string ((bs l).extract f l.length)] 9)).below hBl (Nat.le_refl _))
        clear hown2 hown3 h3 hBl
        go_wp2
        go_ret
        exact ⟨g, cap, rfl, hB0, h1, h2, H3.out, HB.out⟩

end Go.Proofs.YtiehfpkcaoeieaaGreatDoor
