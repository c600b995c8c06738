/- Contracts and mathematics, joined: Top2, Top3, Top4. Conditions stand with each. -/
import Derived.Test.YtdmegfbeibbmfaaG3
import Derived.Test.YtdmegfbeibbmfaaLeaf18
import Derived.Test.YtdmegfbeibbmfaaBench12
set_option linter.unusedVariables false
set_option linter.unusedSimpArgs false
/- Contracts: spans, grounds, Same. No condition. -/
namespace Go.Proofs.Ytdmegfbeibbmfaa
open Go.RowKit Go.My Go.GoldM

set_option maxHeartbeats 400000 in
theorem span23 (a b : Int) (w : World) : Calls Try.prog 23 #[.int .i64 a, .int .i64 b] w fun e w' => e = .returned (.agg #[.int .i64 a, .int .i64 b]) ∧ Ext w w' := by
  go_enter Try.func23, Try.ntmps23
  go_wp2
  exact bodyPost_ret (v := .agg #[.int .i64 a, .int .i64 b]) (results_cells (n := 2) rfl (by kernel_rfl) (by kernel_rfl) _ w.heap.size [.int .i64 a, .int .i64 b] rfl (by simp) (fun j v hv => VB.new w [.int .i64 a, .int .i64 b] 24 j v hv)) (by simp) ⟨rfl, (Ext.refl w).alloc _⟩
set_option maxHeartbeats 400000 in
theorem span40 (a b : Int) (w : World) : Calls Try.prog 40 #[.int .i64 a, .int .i64 b] w fun e w' => e = .returned (.agg #[.int .i64 a, .int .i64 b]) ∧ Ext w w' := by
  go_enter Try.func40, Try.ntmps40
  go_wp2
  exact bodyPost_ret (v := .agg #[.int .i64 a, .int .i64 b]) (results_cells (n := 2) rfl (by kernel_rfl) (by kernel_rfl) _ w.heap.size [.int .i64 a, .int .i64 b] rfl (by simp) (fun j v hv => VB.new w [.int .i64 a, .int .i64 b] 24 j v hv)) (by simp) ⟨rfl, (Ext.refl w).alloc _⟩
set_option maxRecDepth 100000 in
set_option maxHeartbeats 1000000 in
theorem ground19 (a b c d : Int) (w : World) : Calls Try.prog 19 #[.int .i64 a, .int .i64 b, .int .i64 c, .int .i64 d] w fun e w' => e = .returned (.agg #[.int .i64 a, .int .i64 b, .int .i64 c, .int .i64 d]) ∧ Ext w w' := by
  have HC := Lib.hid (CB.new w [.int .i64 0, .int .i64 0, .int .i64 0, .int .i64 0] 26)
  have T1 := Lib.hid trivial
  have T2 := Lib.hid trivial
  go_enter Try.func19, Try.ntmps19
  go_wp2_with (first | (go_at_call 40; have t0 := T1; clear t0 T1; refine (span40 a b _).mono ?_; rintro e w1 ⟨rfl, h1⟩; have H1 := Lib.hid h1; clear h1) | (go_at_call 40; have t0 := T2; clear t0 T2; refine (span40 c d _).mono ?_; rintro e w2 ⟨rfl, h2⟩; have hX := H1.out.trans h2; have H2 := Lib.hid hX; have HC2 := Lib.hid (HC.out.ext hX); clear h2 hX; have k0 := HC2.out.c 0 _ rfl; have k1 := HC2.out.c 1 _ rfl; have k2 := HC2.out.c 2 _ rfl; have k3 := HC2.out.c 3 _ rfl; have f0 := HC2.out.f 0 (by simp); have f1 := HC2.out.f 1 (by simp); have f2 := HC2.out.f 2 (by simp); have f3 := HC2.out.f 3 (by simp)))
  have hB := (((HC2.out.set (i := 0) (by simp) (.int .i64 a)).set (i := 1) (by simp) (.int .i64 b)).set (i := 2) (by simp) (.int .i64 c)).set (i := 3) (by simp) (.int .i64 d)
  have hX : Ext w _ := (((((Ext.refl w).alloc (.cells #[.int .i64 0, .int .i64 0, .int .i64 0, .int .i64 0] 26)).trans H2.out).setCell (p := ⟨w.heap.size, 0, none⟩) (Nat.le_refl _) (.int .i64 a)).setCell (p := ⟨w.heap.size, 1, none⟩) (Nat.le_refl _) (.int .i64 b)).setCell (p := ⟨w.heap.size, 2, none⟩) (Nat.le_refl _) (.int .i64 c)
  exact bodyPost_ret (v := .agg #[.int .i64 a, .int .i64 b, .int .i64 c, .int .i64 d]) (results_cells (n := 4) rfl (by kernel_rfl) (by kernel_rfl) _ w.heap.size [.int .i64 a, .int .i64 b, .int .i64 c, .int .i64 d] rfl (by simp) (fun j v hv => hB.c j v hv)) (by simp) ⟨rfl, hX.setCell (p := ⟨w.heap.size, 3, none⟩) (Nat.le_refl _) (.int .i64 d)⟩

set_option maxRecDepth 100000 in
set_option maxHeartbeats 2000000 in
theorem same12 (l : List Int) (o o' : Option Addr) (c c' : Nat) (w : World) (hl : l.length ≤ 1000) (h : IntsAt w o l) (h' : IntsAt w o' l) : Calls Try.prog 12 #[.slice o l.length c, .slice o' l.length c'] w fun e w' => e = .returned (.bool true) ∧ Ext w w' := by
  have H := Lib.hid h
  have H' := Lib.hid h'
  clear h h'
  go_enter Try.func12, Try.ntmps12
  go_wp2_with fail
  go_loopg [5] l.length (fun g i wr => ∃ k : Nat, k + g = l.length ∧ Ext w wr ∧ i = .int .i64 k)
  case atStart => exact ⟨0, by simp, Ext.refl _, rfl⟩
  case round =>
    obtain ⟨k, hk, hE, rfl⟩ := hrel
    have HE := Lib.hid hE
    by_cases hlt : k < l.length
    · obtain ⟨b, off, ho, hb, c1⟩ := (H.out.ext hE).at hlt
      obtain ⟨b2, off2, ho2, hb2, c2⟩ := (H'.out.ext hE).at hlt
      subst ho ho2
      have hltI : (k : Int) < (l.length : Int) := by omega
      have hkn : k ≤ 1000 := by omega
      clear hE
      generalize l[k] = v at *
      go_wp2_with fail
      refine wp_region_plan (.take 0 <| .take 1 <| .take 2 <| .take 3 <| .take 4 <| .take 5 <| .take 6 <| .take 7 <| .take 8 <| .done) (fun W => Ext wr W) mixed (by kernel_rfl) (by kernel_rfl) rfl (fun _ _ d _ _ h => by cases d <;> exact h) ((Ext.refl wr).drew) ?_
      repeat ((first | (refine plan_take (v := ?_) rfl rfl (fun W hW => ?_) ?_; rotate_left; (focus (have d0 := cell_ext hW c1; have d1 := cell_ext hW c2; go_simp; first | exact rfl | (split <;> first | exact rfl | (exfalso; omega)) | done))) | refine plan_skip rfl rfl ?_); simp only [Act.put, List.setIfInBounds_toArray, List.set_cons_zero, List.set_cons_succ])
      refine plan_done ?_
      clear c1 c2
      go_wp2
      go_roundg (gk - 1)
      case measure => omega
      case rel => exact ⟨k + 1, by omega, HE.out.drew, by go_num⟩
    · obtain rfl : k = l.length := by omega
      clear hE
      go_wp2
      go_ret
      exact ⟨rfl, HE.out⟩

end Go.Proofs.Ytdmegfbeibbmfaa
/- Contract: the job of the examples. -/
namespace Go.Proofs.Ytdmegfbeibbmfaa
open Go.RowKit Go.My Go.GoldM

abbrev grsJ : List Value := [.int .i64 1, .int .i64 2, .int .i64 4, .int .i64 6, .int .i64 0, .int .i64 1, .int .i64 2, .int .i64 3]
abbrev pcsJ : List Value := [.int .i64 3, .int .i64 2, .bool false, .int .i64 0, .int .i64 2, .int .i64 2, .bool false, .int .i64 0, .int .i64 1, .int .i64 3, .bool true, .int .i64 1, .int .i64 4, .int .i64 1, .bool false, .int .i64 1]
theorem flat_get {α : Type} (f : α → List Value) (n : Nat) (hf : ∀ a, (f a).length = n) {l : List α} {i : Nat} {a : α} (ha : l[i]? = some a) {j : Nat} {v : Value} (hv : (f a)[j]? = some v) : (l.flatMap f)[i * n + j]? = some v := by
  induction l generalizing i with
  | nil => simp at ha
  | cons x l ih =>
    have e : (x :: l).flatMap f = f x ++ l.flatMap f := rfl
    have hl := hf x
    rw [e]
    cases i with
    | zero =>
      simp only [List.getElem?_cons_zero, Option.some.injEq] at ha
      subst ha
      have hj := (List.getElem?_eq_some_iff.1 hv).1
      rw [Nat.zero_mul, Nat.zero_add, List.getElem?_append_left hj]
      exact hv
    | succ i =>
      simp only [List.getElem?_cons_succ] at ha
      have : (i + 1) * n = n + i * n := by rw [Nat.succ_mul, Nat.add_comm]
      rw [List.getElem?_append_right (by rw [hl, this]; omega), hl, show (i + 1) * n + j - n = i * n + j by rw [this]; omega]
      exact ih ha
theorem grs_vb {W : World} {B : Nat} {gs : List Gr} (hB : B < W.heap.size) (h : VB W B (gs.flatMap grL)) : GrsAt W (some ⟨B, 0, none⟩) gs := fun i g hg => ⟨B, 0, rfl, hB, fun j v hv => by
  have := h _ _ (flat_get grL 4 (fun _ => rfl) hg hv)
  rwa [Nat.zero_add]⟩
theorem pcs_vb {W : World} {B : Nat} {ps : List Pc} (hB : B < W.heap.size) (h : VB W B (ps.flatMap pcL)) : PcsAt W (some ⟨B, 0, none⟩) ps := fun i g hg => ⟨B, 0, rfl, hB, fun j v hv => by
  have := h _ _ (flat_get pcL 4 (fun _ => rfl) hg hv)
  rwa [Nat.zero_add]⟩
theorem fineJ : Fine jobJ where
  wide := by decide
  high := by decide
  book := by decide
  spoilt := by decide
  gl := by decide
  pl := by decide
  gr := fun g hg => by
    simp only [jobJ, List.mem_cons, List.not_mem_nil, or_false] at hg
    rcases hg with rfl | rfl <;> decide
  pc := fun p hp => by
    simp only [jobJ, List.mem_cons, List.not_mem_nil, or_false] at hp
    rcases hp with rfl | rfl | rfl | rfl <;> decide

set_option maxRecDepth 100000 in
set_option maxHeartbeats 2000000 in
theorem j9 (w : World) : Calls Try.prog 9 #[] w fun e w' => ∃ og op, e = .returned (jobV jobJ og 2 op 4) ∧ JAt w' jobJ og op ∧ Ext w w' := by
  have HC := Lib.hid (CB.new w [.int .i64 0, .int .i64 0, .int .i64 0, .int .i64 0, .slice none 0 0, .slice none 0 0] 30)
  have T1 := Lib.hid trivial
  have T2 := Lib.hid trivial
  go_enter Try.func9, Try.ntmps9
  go_wp2_with (first | (go_at_call 19; have t0 := T1; clear t0 T1; refine (ground19 1 2 4 6 _).mono ?_; rintro e w1 ⟨rfl, h1⟩; have H1 := Lib.hid h1; clear h1) | (go_at_call 19; have t0 := T2; clear t0 T2; refine (ground19 0 1 2 3 _).mono ?_; rintro e w2 ⟨rfl, h2⟩; have hX := H1.out.trans h2; have H2 := Lib.hid hX; have HC2 := Lib.hid (HC.out.ext hX); clear h2 hX; have k0 := HC2.out.c 0 _ rfl; have k1 := HC2.out.c 1 _ rfl; have k2 := HC2.out.c 2 _ rfl; have k3 := HC2.out.c 3 _ rfl; have k4 := HC2.out.c 4 _ rfl; have k5 := HC2.out.c 5 _ rfl; have f0 := HC2.out.f 0 (by simp); have f1 := HC2.out.f 1 (by simp); have f2 := HC2.out.f 2 (by simp); have f3 := HC2.out.f 3 (by simp); have f4 := HC2.out.f 4 (by simp); have f5 := HC2.out.f 5 (by simp); have hlt := World.block_lt_of_cell? _ _ k0; have hne := Nat.ne_of_lt hlt; simp only at hlt hne))
  have hB := ((((((HC2.out.set (i := 0) (by simp) (.int .i64 4)).set (i := 1) (by simp) (.int .i64 3)).set (i := 2) (by simp) (.int .i64 2)).set (i := 3) (by simp) (.int .i64 1)).set (i := 4) (by simp) (.slice (some ⟨w2.heap.size, 0, none⟩) 2 2)).set (i := 5) (by simp) (.slice (some ⟨w2.heap.size + 1, 0, none⟩) 4 4))
  have hX := ((((((((Ext.refl w).alloc (.cells #[.int .i64 0, .int .i64 0, .int .i64 0, .int .i64 0, .slice none 0 0, .slice none 0 0] 30)).trans H2.out).setCell (p := ⟨w.heap.size, 0, none⟩) (Nat.le_refl _) (.int .i64 4)).setCell (p := ⟨w.heap.size, 1, none⟩) (Nat.le_refl _) (.int .i64 3)).setCell (p := ⟨w.heap.size, 2, none⟩) (Nat.le_refl _) (.int .i64 2)).setCell (p := ⟨w.heap.size, 3, none⟩) (Nat.le_refl _) (.int .i64 1)).setCell (p := ⟨w.heap.size, 4, none⟩) (Nat.le_refl _) (.slice (some ⟨w2.heap.size, 0, none⟩) 2 2)).setCell (p := ⟨w.heap.size, 5, none⟩) (Nat.le_refl _) (.slice (some ⟨w2.heap.size + 1, 0, none⟩) 4 4)
  obtain ⟨X, hXe⟩ : ∃ X, X = (((((w2.setCell ⟨w.heap.size, 0, none⟩ (.int .i64 4)).setCell ⟨w.heap.size, 1, none⟩ (.int .i64 3)).setCell ⟨w.heap.size, 2, none⟩ (.int .i64 2)).setCell ⟨w.heap.size, 3, none⟩ (.int .i64 1)).setCell ⟨w.heap.size, 4, none⟩ (.slice (some ⟨w2.heap.size, 0, none⟩) 2 2)).setCell ⟨w.heap.size, 5, none⟩ (.slice (some ⟨w2.heap.size + 1, 0, none⟩) 4 4) := ⟨_, rfl⟩
  have hsX : X.heap.size = w2.heap.size := by rw [hXe]; simp
  rw [← hXe] at hB hX ⊢
  clear hXe
  have hG : VB ((X.alloc (.cells grsJ.toArray 26)).alloc (.cells pcsJ.toArray 32)) w2.heap.size grsJ := by
    have h9 := (VB.new X grsJ 26).ext ((Ext.refl _).alloc (.cells pcsJ.toArray 32))
    rwa [hsX] at h9
  have hP : VB ((X.alloc (.cells grsJ.toArray 26)).alloc (.cells pcsJ.toArray 32)) (w2.heap.size + 1) pcsJ := by
    have h9 := VB.new (X.alloc (.cells grsJ.toArray 26)) pcsJ 32
    rwa [World.size_alloc, hsX] at h9
  have hB2 := (hB.ext ((Ext.refl X).alloc (.cells grsJ.toArray 26))).ext ((Ext.refl _).alloc (.cells pcsJ.toArray 32))
  refine bodyPost_ret (v := jobV jobJ (some ⟨w2.heap.size, 0, none⟩) 2 (some ⟨w2.heap.size + 1, 0, none⟩) 4) (results_cells (n := 6) rfl (by kernel_rfl) (by kernel_rfl) _ w.heap.size (jobL' jobJ (some ⟨w2.heap.size, 0, none⟩) 2 (some ⟨w2.heap.size + 1, 0, none⟩) 4) rfl rfl (fun j v hv => hB2.c j v hv)) (by simp) ⟨_, _, rfl, ⟨grs_vb (by simp; omega) hG, pcs_vb (by simp; omega) hP⟩, ((show Ext w X from hX).alloc _).alloc _⟩

abbrev stsC (n2 n3 : Nat) : List Value := [.int .i64 1, .bool true, .int .i64 2, .int .i64 2, .slice none 0 0, .int .i64 0, .bool false, .int .i64 2, .int .i64 3, .slice none 0 0, .int .i64 0, .bool true, .int .i64 1, .int .i64 2, .slice (some ⟨n2, 0, none⟩) 1 1, .int .i64 1, .bool false, .int .i64 1, .int .i64 3, .slice (some ⟨n3, 0, none⟩) 1 1]
theorem ints_vb {W : World} {B : Nat} {l : List Int} (hB : B < W.heap.size) (h : VB W B (l.map (Value.int .i64))) : IntsAt W (some ⟨B, 0, none⟩) l := fun i v hv => ⟨B, 0, rfl, hB, by
  rw [Nat.zero_add]
  exact h i _ (by rw [List.getElem?_map, hv]; rfl)⟩

set_option maxRecDepth 100000 in
set_option maxHeartbeats 2000000 in
theorem b11 (w : World) : Calls Try.prog 11 #[] w fun e w' => ∃ ob os, e = .returned (bnV (benchB 1) ob 2 os 4) ∧ BnAt w' (benchB 1) ob os ∧ (∀ ad, os = some ad → ad.block < w'.heap.size) ∧ Ext w w' := by
  have HC := Lib.hid ((CB.new w [.int .i64 0, .slice none 0 0, .slice none 0 0] 57).ext ((Ext.refl _).alloc (.cells #[.int .i64 5, .int .i64 6] 3)))
  have HE0 := Lib.hid (((Ext.refl w).alloc (.cells #[.int .i64 0, .slice none 0 0, .slice none 0 0] 57)).alloc (.cells #[.int .i64 5, .int .i64 6] 3))
  have HB := Lib.hid (show VB ((w.alloc (.cells #[.int .i64 0, .slice none 0 0, .slice none 0 0] 57)).alloc (.cells #[.int .i64 5, .int .i64 6] 3)) (w.heap.size + 1) [.int .i64 5, .int .i64 6] by
    have h9 := VB.new (w.alloc (.cells #[.int .i64 0, .slice none 0 0, .slice none 0 0] 57)) [.int .i64 5, .int .i64 6] 3
    simpa only [World.size_alloc] using h9)
  have T1 := Lib.hid trivial
  have T2 := Lib.hid trivial
  have T3 := Lib.hid trivial
  have T4 := Lib.hid trivial
  go_enter Try.func11, Try.ntmps11
  go_wp2_with (first | (go_at_call 23; have t0 := T1; clear t0 T1; refine (span23 2 2 _).mono ?_; rintro e w1 ⟨rfl, h1⟩; have H1 := Lib.hid h1; clear h1) | (go_at_call 23; have t0 := T2; clear t0 T2; refine (span23 2 3 _).mono ?_; rintro e w2 ⟨rfl, h2⟩; have H2 := Lib.hid (H1.out.trans h2); clear h2) | (go_at_call 23; have t0 := T3; clear t0 T3; refine (span23 1 2 _).mono ?_; rintro e w3 ⟨rfl, h3⟩; have H3 := Lib.hid (H2.out.trans h3); clear h3) | (go_at_call 23; have t0 := T4; clear t0 T4; refine (span23 1 3 _).mono ?_; rintro e w4 ⟨rfl, h4⟩; have hX := (H3.out.alloc _).trans h4; have H4 := Lib.hid hX; have HN2 := Lib.hid ((VB.new w3 [.int .i64 1] 3).ext h4); have HC4 := Lib.hid (HC.out.ext hX); have HB4 := Lib.hid (HB.out.ext hX); have hs4 := h4.size; have hs40 := (HE0.out.trans hX).size; clear h4 hX; have k0 := HC4.out.c 0 _ rfl; have k1 := HC4.out.c 1 _ rfl; have k2 := HC4.out.c 2 _ rfl; have f0 := HC4.out.f 0 (by simp); have f1 := HC4.out.f 1 (by simp); have f2 := HC4.out.f 2 (by simp); have hlt := World.block_lt_of_cell? _ _ k0; have hne := Nat.ne_of_lt hlt; simp only at hlt hne))
  have hB := ((HC4.out.set (i := 0) (by simp) (.int .i64 1)).set (i := 1) (by simp) (.slice (some ⟨w.heap.size + 1, 0, none⟩) 2 2)).set (i := 2) (by simp) (.slice (some ⟨w4.heap.size + 1, 0, none⟩) 4 4)
  have hT : Turned w.heap.size w4 (((w4.setCell ⟨w.heap.size, 0, none⟩ (.int .i64 1)).setCell ⟨w.heap.size, 1, none⟩ (.slice (some ⟨w.heap.size + 1, 0, none⟩) 2 2)).setCell ⟨w.heap.size, 2, none⟩ (.slice (some ⟨w4.heap.size + 1, 0, none⟩) 4 4)) := (((Turned.refl _ w4).set 0 _).set 1 _).set 2 _
  obtain ⟨X, hXe⟩ : ∃ X, X = ((w4.setCell ⟨w.heap.size, 0, none⟩ (.int .i64 1)).setCell ⟨w.heap.size, 1, none⟩ (.slice (some ⟨w.heap.size + 1, 0, none⟩) 2 2)).setCell ⟨w.heap.size, 2, none⟩ (.slice (some ⟨w4.heap.size + 1, 0, none⟩) 4 4) := ⟨_, rfl⟩
  have hsX : X.heap.size = w4.heap.size := by rw [hXe]; simp
  rw [← hXe] at hB hT ⊢
  clear hXe
  simp only [World.size_alloc] at hs4 hs40
  have hX : Ext w X := ext_own (HE0.out.trans H4.out) hT (Nat.le_refl _)
  have hbd : VB X (w.heap.size + 1) [.int .i64 5, .int .i64 6] := fun i v hv => Turned.cell hT (by simp) (HB4.out i v hv)
  have hs3 : w.heap.size + 2 ≤ w3.heap.size := by have := (HE0.out.trans H3.out).size; have h5 := H3.out.size; simp only [World.size_alloc] at h5; omega
  have hn2 : VB X w3.heap.size [.int .i64 1] := fun i v hv => Turned.cell hT (by simp; omega) (HN2.out i v hv)
  obtain ⟨Y, hY⟩ : ∃ Y, Y = (X.alloc (.cells #[.int .i64 0] 3)).alloc (.cells (stsC w3.heap.size w4.heap.size).toArray 81) := ⟨_, rfl⟩
  have hXY : Ext X Y := by rw [hY]; exact ((Ext.refl X).alloc _).alloc _
  have hn3 : VB Y w4.heap.size [.int .i64 0] := by
    rw [hY]
    have h9 := (VB.new X [.int .i64 0] 3).ext ((Ext.refl _).alloc (.cells (stsC w3.heap.size w4.heap.size).toArray 81))
    rwa [hsX] at h9
  have hst : VB Y (w4.heap.size + 1) (stsC w3.heap.size w4.heap.size) := by
    rw [hY]
    have h9 := VB.new (X.alloc (.cells #[.int .i64 0] 3)) (stsC w3.heap.size w4.heap.size) 81
    rwa [World.size_alloc, hsX] at h9
  have hsY : Y.heap.size = w4.heap.size + 2 := by rw [hY]; simp [hsX]
  have hB2 := hB.ext hXY
  rw [← hY]
  clear hY
  refine bodyPost_ret (v := bnV (benchB 1) (some ⟨w.heap.size + 1, 0, none⟩) 2 (some ⟨w4.heap.size + 1, 0, none⟩) 4) (results_cells (n := 3) rfl (by kernel_rfl) (by kernel_rfl) _ w.heap.size (bnL (benchB 1) (some ⟨w.heap.size + 1, 0, none⟩) 2 (some ⟨w4.heap.size + 1, 0, none⟩) 4) rfl rfl (fun j v hv => hB2.c j v hv)) (by simp) ⟨_, _, rfl, ⟨ints_vb (by omega) (fun i v hv => (hbd.ext hXY) i v hv), fun i s hs => ?_⟩, fun ad had => by cases had; show w4.heap.size + 1 < _; omega, hX.trans hXY⟩
  match i, hs with
  | 0, hs =>
    simp [benchB, stsB] at hs; subst hs
    exact ⟨_, 0, none, 0, rfl, by omega, fun j v hv => hst _ _ (by match j, hv with | 0, hv => exact hv | 1, hv => exact hv | 2, hv => exact hv | 3, hv => exact hv | 4, hv => exact hv | j + 5, hv => simp at hv), by simp, fun i v hv => by simp at hv⟩
  | 1, hs =>
    simp [benchB, stsB] at hs; subst hs
    exact ⟨_, 0, none, 0, rfl, by omega, fun j v hv => hst _ _ (by match j, hv with | 0, hv => exact hv | 1, hv => exact hv | 2, hv => exact hv | 3, hv => exact hv | 4, hv => exact hv | j + 5, hv => simp at hv), by simp, fun i v hv => by simp at hv⟩
  | 2, hs =>
    simp [benchB, stsB] at hs; subst hs
    exact ⟨_, 0, some ⟨w3.heap.size, 0, none⟩, 1, rfl, by omega, fun j v hv => hst _ _ (by match j, hv with | 0, hv => exact hv | 1, hv => exact hv | 2, hv => exact hv | 3, hv => exact hv | 4, hv => exact hv | j + 5, hv => simp at hv), by simp, ints_vb (by omega) (fun i v hv => (hn2.ext hXY) i v hv)⟩
  | 3, hs =>
    simp [benchB, stsB] at hs; subst hs
    exact ⟨_, 0, some ⟨w4.heap.size, 0, none⟩, 1, rfl, by omega, fun j v hv => hst _ _ (by match j, hv with | 0, hv => exact hv | 1, hv => exact hv | 2, hv => exact hv | 3, hv => exact hv | 4, hv => exact hv | j + 5, hv => simp at hv), by simp, ints_vb (by omega) (fun i v hv => hn3 i v hv)⟩
  | i + 4, hs => simp [benchB, stsB] at hs

end Go.Proofs.Ytdmegfbeibbmfaa
/- Contract: the rows of the examples. -/
namespace Go.Proofs.Ytdmegfbeibbmfaa
open Go.RowKit Go.My Go.GoldM

theorem bestJ0 : (bests jobJ)[0]? = some ([0, 1, 0, 1], 2) := by rw [← List.head?_eq_getElem?]; exact bests_J
set_option maxRecDepth 100000 in
set_option maxHeartbeats 2000000 in
theorem known4 (w : World) : Calls Try.prog 4 #[] w fun e w' => e = .returned (.bool true) ∧ Ext w w' := by
  have R5 := Lib.hid (fun og op W (h : JAt W jobJ og op) => cut5 jobJ fineJ og op 2 4 W h ([0, 1, 0, 1], 2) bestJ0)
  have R10 := Lib.hid (fun ob os W (h : BnAt W (benchB 1) ob os) (hos : ∀ ad, os = some ad → ad.block < W.heap.size) => more10 ob os 2 4 W h hos)
  go_enter Try.func4, Try.ntmps4
  go_wp2_with (first | (go_at_call 9; refine (j9 _).mono ?_; rintro e w1 ⟨og, op, rfl, hj, h1⟩; have HJ := Lib.hid hj; have H1 := Lib.hid h1; clear hj h1) | (go_at_call 5; refine (R5.out og op _ HJ.out).mono ?_; rintro e w2 ⟨om, cm, rfl, hi, h2⟩; have HI := Lib.hid hi; have H2 := Lib.hid (H1.out.trans h2); clear hi h2) | (go_at_call 11; refine (b11 _).mono ?_; rintro e w3 ⟨ob, os, rfl, hb, hos, h3⟩; have HB := Lib.hid (And.intro hb hos); have H3 := Lib.hid (H2.out.trans h3); have HI3 := Lib.hid (HI.out.ext h3); clear hb hos h3) | (go_at_call 10; refine (R10.out ob os _ HB.out.1 HB.out.2).mono ?_; rintro e w4 ⟨rfl, h4⟩; have H4 := Lib.hid (H3.out.trans h4); have HI4 := Lib.hid (HI3.out.ext h4); clear h4) | (go_at_call 12; refine (same12 (upL [0, 1, 0, 1]) om (some ⟨w4.heap.size, 0, none⟩) cm 4 _ (by decide) (HI4.out.ext ((Ext.refl _).alloc _)) (ints_vb (by simp) (VB.new w4 [.int .i64 0, .int .i64 1, .int .i64 0, .int .i64 1] 3))).mono ?_; rintro e w5 ⟨rfl, h5⟩; have H5 := Lib.hid ((H4.out.alloc _).trans h5); clear h5))
  go_ret
  exact ⟨rfl, H5.out⟩

end Go.Proofs.Ytdmegfbeibbmfaa
