/- Contract: counted of the laws: how many orders are left with one spot more. No condition beyond boards as defined. -/
import Derived.Test.YtiehfpkcaoeieaaGreatDoorRefNext
set_option linter.unusedVariables false
set_option linter.unusedSimpArgs false
namespace Go.Proofs.YtiehfpkcaoeieaaGreatDoor
open Go.RowKit Go.My Go.StripM

theorem fresh_row (w : World) (B : Nat) (l : List Nat) (hl : l.length ≤ 1000) : RowE (w.alloc (.cells ((up l).map (Value.int .i64)).toArray 3)) B (.slice (some ⟨w.heap.size, 0, none⟩) l.length l.length) (up l) := by
  have hlen : ((up l).map (Value.int .i64)).length = l.length := by rw [List.length_map, up_length]
  have hown : My.Own (w.alloc (.cells ((up l).map (Value.int .i64)).toArray 3)) w.heap.size 3 (.slice (some ⟨w.heap.size, 0, none⟩) l.length l.length) ((up l).map (Value.int .i64)) := by
    refine ⟨by simp [hlen], .inr ⟨w.heap.size, l.length, ((up l).map (Value.int .i64)).toArray, by rw [hlen], Nat.le_refl _, heap_alloc_new _ _, by rw [hlen]; exact Nat.le_refl _, by unfold maxLen; omega, by simp [hlen], ?_⟩⟩
    exact List.take_of_length_le (by simp)
  exact RowE.of_own hown

theorem Good.snoc {n : Nat} {ss : List (List Nat)} (g : Good n ss) (h6 : ss.length < 6) {s : List Nat} (gs : GoodSpot n s) : Good n (ss ++ [s]) := by
  refine ⟨?_, g.le, g.pos, by simp; omega, g.valid_with gs.ok⟩
  have hb := g.isB
  simp only [boardB, Bool.and_eq_true, decide_eq_true_eq] at hb ⊢
  refine ⟨⟨hb.1.1, by rw [upp_length]; simp; omega⟩, ?_⟩
  rw [upp_append, List.all_append, hb.2]
  simp [gs.isS]
theorem pair_spot {n a b : Nat} (ha : a < n) (hb : b < n) (hne : a ≠ b) : GoodSpot n [a, b] := by
  refine ⟨?_, pair_names ha hb hne, by simp, by simp⟩
  have h1 : namesB (n : Int) (up [a, b]) = true := by
    simp only [namesB, decide_eq_true_eq, up, List.map_cons, List.map_nil]
    refine ⟨?_, fun x hx => ?_⟩
    · simp; omega
    · simp only [List.mem_cons, List.not_mem_nil, or_false] at hx
      rcases hx with rfl | rfl <;> omega
  rw [spotB, h1, Bool.and_true, up_length]
  simp [inB]

set_option maxRecDepth 100000 in
set_option maxHeartbeats 2000000 in
theorem counted_r (n : Nat) (ss : List (List Nat)) (oa : Option Addr) (cap a b : Nat) (w : World) (h : RowsAt w oa (upp ss)) (g : Good n ss) (h6 : ss.length < 6) (hoa : oa = none → cap = 0) (hcap : ss.length ≤ cap) (hcm : cap ≤ maxLen) (ha : a < n) (hb : b < n) (hne : a ≠ b) :
    Calls Tryz.prog 45 #[.agg #[.int .i64 n, .slice oa ss.length cap], .int .i64 a, .int .i64 b] w fun e w' => e = .returned (.int .i64 (cnt n (ss ++ [[a, b]]) : Nat)) ∧ Ext w w' := by
  have hE2 : Ext w ((w.alloc (.cells #[.int .i64 n, .slice oa ss.length cap] 24)).alloc (.cells #[.int .i64 n, .slice oa ss.length cap] 24)) := ((Ext.refl w).alloc _).alloc _
  have H := Lib.hid h
  have Hoa := Lib.hid hoa
  have g2 := g.snoc h6 (pair_spot ha hb hne)
  have G2 := Lib.hid g2
  have hc7 := cnt_720 g2.le g2.valid
  clear h hoa g g2 hne
  go_enter Tryz.func45, Tryz.ntmps45
  go_wp2_with (first | (at_builtin; refine wpList_appRows _ rfl _ _ rfl w ss oa cap rfl rfl H.out hE2 Hoa.out hcap hcm (by omega) ?_; intro v1 w1 hown1 hE3; have Hown1 : Hid (OwnR w1 w.heap.size (w.heap.size + 2) v1 ss) := Lib.hid (by simpa using hown1); clear hown1) | (at_builtin; refine wpList_appR _ rfl _ _ rfl w.heap.size (w.heap.size + 2) _ ss rfl (Hown1.out.ext (((Ext.refl w1).alloc _).alloc _)) (w1.heap.size + 1) (.slice (some ⟨w1.heap.size, 0, none⟩) 2 2) [a, b] rfl (by go_simp) ((fresh_row w1 w.heap.size [a, b] (by simp)).ext ((Ext.refl _).alloc _)) ?_ ?_ ?_))
  · omega
  · have := hE3.size; simp at this ⊢; omega
  · intro v2 w2 hown2 hBl
    have hX : Ext ((w.alloc (.cells #[.int .i64 n, .slice oa ss.length cap] 24)).alloc (.cells #[.int .i64 n, .slice oa ss.length cap] 24)) w2 := ((hE3.alloc (.cells ((up [a, b]).map (Value.int .i64)).toArray 3)).alloc (.cells #[.slice (some ⟨w1.heap.size, 0, none⟩) 2 2] 27)).below hBl (by simp)
    have x0 : w2.cell? ⟨w.heap.size + 1, 0, none⟩ = some (.int .i64 n) := cell_ext hX (by go_simp)
    have x1 : w2.cell? ⟨w.heap.size + 1, 1, none⟩ = some (.slice oa ss.length cap) := cell_ext hX (by go_simp)
    have f1 : w2.frozen? ⟨w.heap.size + 1, 1, none⟩ = false := (hX.frozen (by simp)).trans (by go_simp)
    have tg : ∃ c, w2.heap[w.heap.size + 1]? = some (.cells c 24 (0, 0)) := ⟨_, (hX.block (w.heap.size + 1) (by simp)).trans (by have := heap_alloc_new (w.alloc (.cells #[.int .i64 n, .slice oa ss.length cap] 24)) (.cells #[.int .i64 n, .slice oa ss.length cap] 24); simpa only [World.size_alloc] using this)⟩
    obtain ⟨o2, c2, hv2, _⟩ := hown2.slice
    rw [show (ss ++ [[a, b]]).length = ss.length + 1 by simp] at hv2
    subst hv2
    have hT := (Turned.refl (w.heap.size + 1) w2).set 1 (.slice o2 (ss.length + 1) c2)
    obtain ⟨o3, c3, hv3, _, _, _, hr3⟩ := (hown2.turned hT (by omega) (by omega) (tag_set tg (by decide))).slice
    obtain rfl : o2 = o3 := by injection hv3
    have hX2 : Ext w (w2.setCell ⟨w.heap.size + 1, 1, none⟩ (.slice o2 (ss.length + 1) c2)) := ext_own (hE2.trans hX) hT (by omega)
    have hsc := scount_any n (ss ++ [[a, b]]) o2 c2 _ hr3 G2.out
    rw [show (ss ++ [[a, b]]).length = ss.length + 1 by simp] at hsc
    have Hsc := Lib.hid hsc
    have HX2 := Lib.hid hX2
    clear hsc hr3 hown2 hT hX hX2 tg hv3 hBl hE3 Hown1
    go_wp2_with (first | (go_at_call 25; refine Hsc.out.mono ?_; rintro e w3 ⟨rfl, hE9⟩))
    go_ret
    exact ⟨rfl, HX2.out.trans hE9⟩

end Go.Proofs.YtiehfpkcaoeieaaGreatDoor
