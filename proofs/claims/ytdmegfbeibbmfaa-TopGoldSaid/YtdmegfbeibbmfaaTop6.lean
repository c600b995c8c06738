/- The walk through TopGold where the numbers are in their ranges. -/
import Derived.Test.YtdmegfbeibbmfaaTop5
set_option linter.unusedVariables false
set_option linter.unusedSimpArgs false
namespace Go.Proofs.Ytdmegfbeibbmfaa
open Go.RowKit Go.My Go.GoldM

set_option maxRecDepth 100000 in
set_option maxHeartbeats 8000000 in
theorem top_in (n wd hg bk : Nat) (hn : 1 ≤ n ∧ n ≤ 5) (hw : 1 ≤ wd ∧ wd ≤ 6) (hh : 1 ≤ hg ∧ hg ≤ 6) (ha : wd * hg ≤ 12) (hb : 1 ≤ bk ∧ bk ≤ 12) (w : World) :
    Calls Try.prog 3 #[I n, I wd, I hg, I bk] w fun e w' => e = .returned (.bool true) ∧ Ext w w' := by
  have ha1 : 1 ≤ wd * hg := Nat.mul_pos hw.1 hh.1
  obtain ⟨x, hx, hx2⟩ := bestL (b := bk) hn hw hh ha
  have hf := fineL hn hw hh hb
  have hL := ceilN_pos (n := n) (a := wd * hg) hn.1 ha1
  have R5 := Lib.hid (fun og o c W (hj : JAt W (jobL n wd hg bk) og o) => (by
    have h9 := cut5 (jobL n wd hg bk) hf og o 1 c W hj x hx
    rw [jobV_L] at h9
    exact h9 : Calls Try.prog 5 #[.agg #[I wd, I hg, I bk, .int .i64 0, .slice og 1 1, .slice o n c]] W fun e w' => ∃ om cm, e = .returned (.tuple #[.slice om x.1.length cm, .int .i64 (x.2 : Nat), .int .i64 0]) ∧ IntsAt w' om (upL x.1) ∧ Ext W w'))
  have R6 := Lib.hid (fun og o c W (hj : JAt W (jobL n wd hg bk) og o) => (by
    have h9 := books6 (jobL n wd hg bk) hf og o 1 c W hj x hx (by omega) (by omega)
    rw [jobV_L] at h9
    exact h9 : Calls Try.prog 6 #[.agg #[I wd, I hg, I bk, .int .i64 0, .slice og 1 1, .slice o n c]] W fun e w' => e = .returned (.tuple #[.agg #[.int .i64 (ceilN x.2 bk : Nat), .int .i64 (ceilN x.2 bk : Nat)], .int .i64 0]) ∧ Ext W w'))
  have hqm : IntKind.i64.wrap ((wd : Int) * (hg : Int)) = ((wd * hg : Nat) : Int) := by rw [← Int.natCast_mul, IntWalk.i64_in _ (by omega)]
  have Hx2 := Lib.hid hx2
  generalize x.2 = L at *
  have HL := Lib.hid (show ceilN n (wd * hg) = L from Hx2.out.symm)
  rw [HL.out] at hL
  generalize wd * hg = A at *
  have hFs : FineS ⟨n, L, A, bk⟩ := ⟨by show n ≤ 60; omega, by show L ≤ 40; omega, ⟨ha1, ha⟩, hb⟩
  have HFs := Lib.hid hFs
  have c1 : ¬ (n : Int) < 1 := by omega
  have c2 : ¬ (5 : Int) < (n : Int) := by omega
  have c3 : ¬ (wd : Int) < 1 := by omega
  have c4 : ¬ (6 : Int) < (wd : Int) := by omega
  have c5 : ¬ (hg : Int) < 1 := by omega
  have c6 : ¬ (6 : Int) < (hg : Int) := by omega
  have c7 : ¬ (12 : Int) < (A : Int) := by omega
  have c8 : ¬ (bk : Int) < 1 := by omega
  have c9 : ¬ (12 : Int) < (bk : Int) := by omega
  clear hx hx2 hf hFs
  go_enter Try.func3, Try.ntmps3
  go_wp2_with fail
  obtain ⟨w1, hw1⟩ : ∃ X, X = (w.alloc (.cells #[.int .i64 0, .int .i64 0, .int .i64 0, .int .i64 0] 26)).alloc (.cells #[.int .i64 (wd : Nat), .int .i64 (hg : Nat), .int .i64 (bk : Nat), .int .i64 0, .slice (some ⟨w.heap.size, 0, none⟩) 1 1, .slice none 0 0] 30) := ⟨_, rfl⟩
  have HX1 := Lib.hid (show Ext w w1 by rw [hw1]; exact ((Ext.refl w).alloc _).alloc _)
  have HG1 := Lib.hid (show VB w1 w.heap.size [.int .i64 0, .int .i64 0, .int .i64 0, .int .i64 0] by rw [hw1]; exact (VB.new w [.int .i64 0, .int .i64 0, .int .i64 0, .int .i64 0] 26).ext ((Ext.refl _).alloc _))
  have HJ1 := Lib.hid (show CB w1 (w.heap.size + 1) [I wd, I hg, I bk, .int .i64 0, .slice (some ⟨w.heap.size, 0, none⟩) 1 1, .slice none 0 0] by
    have h9 := CB.new (w.alloc (.cells #[.int .i64 0, .int .i64 0, .int .i64 0, .int .i64 0] 26)) [I wd, I hg, I bk, .int .i64 0, .slice (some ⟨w.heap.size, 0, none⟩) 1 1, .slice none 0 0] 30
    rw [World.size_alloc] at h9
    rw [hw1]; exact h9)
  have Hs1 := Lib.hid (show w.heap.size + 2 ≤ w1.heap.size by rw [hw1]; simp)
  rw [← hw1]
  clear hw1 c1 c2 c3 c4 c5 c6 c7 c8 c9
  go_loopg [10] n (fun g i wr => ∃ k : Nat, ∃ v : Value, k + g = n ∧ i = .int .i64 k ∧ Ext w wr ∧ w.heap.size + 2 ≤ wr.heap.size ∧ VB wr w.heap.size [.int .i64 0, .int .i64 0, .int .i64 0, .int .i64 0] ∧ CB wr (w.heap.size + 1) [I wd, I hg, I bk, .int .i64 0, .slice (some ⟨w.heap.size, 0, none⟩) 1 1, v] ∧ wr.ownsRow (w.heap.size + 2) 32 4 v k (pcsC (List.replicate k pc1)))
  case atStart => exact ⟨0, _, by simp, rfl, HX1.out, Hs1.out, HG1.out, HJ1.out, World.ownsRow_nil _ _ _ _⟩
  case round =>
    obtain ⟨k, v, hk, rfl, hE, hs, hG, hJ, hrow⟩ := hrel
    obtain ⟨wo, rfl⟩ : ∃ wo : World, wo = wr := ⟨_, rfl⟩
    obtain ⟨oa, ca, rfl⟩ := row_slice hrow
    have HE := Lib.hid hE
    have HG := Lib.hid hG
    have HJ := Lib.hid hJ
    have Hrow := Lib.hid hrow
    clear HX1 HG1 HJ1 Hs1 hE hG hrow
    by_cases hlt : k < n
    · have hltI : (k : Int) < (n : Int) := by omega
      have k5 := hJ.c 5 _ rfl
      have f5 := hJ.f 5 (by simp)
      have hbl := World.block_lt_of_cell? _ _ k5
      have hbn := Nat.ne_of_lt hbl
      simp only at hbl hbn
      clear hJ
      obtain ⟨ii, hi1, hi2, hi3, hi4⟩ := info_parts i32
      go_wp2_with (first | (at_builtin; refine wpList_append_own _ rfl _ _ 28 rfl (w.heap.size + 2) 32 ii (.agg #[.int .i64 0, .int .i64 0, .bool false, .int .i64 0]) 4 32 Try.underlying28 hi1 hi2 hi3 hi4 rfl (by decide) _ k (pcsC (List.replicate k pc1)) rfl (row_mv Hrow.out (Mv.of_ext (I := fun _ => False) ((Ext.refl wo).alloc _)) (fun _ _ h => h)) ⟨wo.heap.size, 0, none⟩ 1 1 [.int .i64 1, .int .i64 1, .bool false, .int .i64 0] rfl rfl ?_ (by simp [Value.oneCell']) (by unfold maxLen; omega) (by omega) (by simp only [World.size_alloc]; omega) ?_))
      · intro j u hu
        match j, hu with
        | 0, hu => simp at hu; subst hu; simp [Addr.add]
        | 1, hu => simp at hu; subst hu; simp [Addr.add]
        | 2, hu => simp at hu; subst hu; simp [Addr.add]
        | 3, hu => simp at hu; subst hu; simp [Addr.add]
      · intro v' w7 hr7 hg7 _
        rw [← pcs_succ] at hr7
        obtain ⟨o7, c7, rfl⟩ := row_slice hr7
        have X6 : Ext wo (wo.alloc (.cells #[.int .i64 1, .int .i64 1, .bool false, .int .i64 0] 32)) := (Ext.refl wo).alloc _
        have hM7 : Mv (fun i => (Value.slice oa k ca).ownBlock = some i) (wo.alloc (.cells #[.int .i64 1, .int .i64 1, .bool false, .int .i64 0] 32)) w7 := Mv.of_grown hg7 fun i h => h
        have hown : ∀ b, (Value.slice oa k ca).ownBlock = some b → w.heap.size + 2 ≤ b := fun b hb => (World.ownsRow.lt Hrow.out b hb).1
        have HJ7 := Lib.hid ((HJ.out.ext X6).mv hM7 (fun h => by have := hown _ h; omega))
        have HG7 := Lib.hid (VB.mv (HG.out.ext X6) hM7 (fun h => by have := hown _ h; omega))
        have HE7 := Lib.hid (show Ext w w7 from (HE.out.trans X6).below (B := w.heap.size) ((Below.refl _ _).grown hg7 (by simp only [World.size_alloc]; omega) fun b hb => Nat.le_trans (by omega) (World.ownsRow.lt Hrow.out b hb).1) (Nat.le_refl _))
        have hs7 : w.heap.size + 2 ≤ w7.heap.size := Nat.le_trans hs (Nat.le_trans X6.size hM7.size)
        have Hr7 := Lib.hid hr7
        have q5 := HJ7.out.c 5 _ rfl
        have g5 := HJ7.out.f 5 (by simp)
        clear hr7 hg7 X6 hM7 hown k5 f5 hbl hbn
        go_wp2
        have hT : Turned (w.heap.size + 1) w7 (w7.setCell ⟨w.heap.size + 1, 5, none⟩ (.slice o7 (k + 1) c7)) := (Turned.refl _ w7).set 5 _
        go_roundg (gk - 1)
        case measure => omega
        case rel => exact ⟨k + 1, .slice o7 (k + 1) c7, by omega, by go_num, ext_own HE7.out hT (by omega), Nat.le_trans hs7 hT.size, fun i v hv => Turned.cell hT (by simp) (HG7.out i v hv), HJ7.out.set (i := 5) (by simp) (.slice o7 (k + 1) c7), row_mv (I := fun i => i = w.heap.size + 1) Hr7.out (Mv.of_grown hT fun i hi => by cases hi; rfl) fun b hb hbq => by have := (World.ownsRow.lt Hr7.out b hb).1; omega⟩
    · have hkn : k = n := by omega
      subst hkn
      have hltI : ¬ (k : Int) < (k : Int) := by omega
      have hrow2 : wo.ownsRow (w.heap.size + 2) 32 4 (.slice oa k ca) (List.replicate k pc1).length (pcsC (List.replicate k pc1)) := by rw [List.length_replicate]; exact Hrow.out
      obtain ⟨o', c', e1, z1, hP, z2⟩ := own_pcs hrow2
      injection e1 with e1 e2 e3
      subst e1
      clear e2 e3 z1 z2
      have HJt := Lib.hid (show JAt wo (jobL k wd hg bk) (some ⟨w.heap.size, 0, none⟩) oa from ⟨grs_vb (by omega) HG.out, hP⟩)
      have j0 := hJ.c 0 _ rfl
      have j1 := hJ.c 1 _ rfl
      have j2 := hJ.c 2 _ rfl
      have j3 := hJ.c 3 _ rfl
      have j4 := hJ.c 4 _ rfl
      have j5 := hJ.c 5 _ rfl
      clear hrow2 hP hJ HG Hrow hlt hk
      go_wp2_with (first | (go_at_call 5; refine (R5.out _ oa ca _ HJt.out).mono ?_; rintro e w5 ⟨om, cm, rfl, _, h5⟩; have HX5 := Lib.hid (HE.out.trans h5); have HJ5 := Lib.hid (HJt.out.ext h5); have HB5 := Lib.hid (HJ.out.ext h5); clear h5 j0 j1 j2 j3 j4 j5; have j0 := HB5.out.c 0 _ rfl; have j1 := HB5.out.c 1 _ rfl; have j2 := HB5.out.c 2 _ rfl; have j3 := HB5.out.c 3 _ rfl; have j4 := HB5.out.c 4 _ rfl; have j5 := HB5.out.c 5 _ rfl) | (go_at_call 6; refine (R6.out _ oa ca _ HJ5.out).mono ?_; rintro e w6 ⟨rfl, h6⟩; have HX6 := Lib.hid (HX5.out.trans h6); clear h6 j0 j1 j2 j3 j4 j5))
      obtain ⟨a1, ha1⟩ : ∃ X, X = w6.alloc (.cells #[.int .i64 (ceilN L bk : Nat), .int .i64 (ceilN L bk : Nat)] 24) := ⟨_, rfl⟩
      have s1 : a1.heap.size = w6.heap.size + 1 := by rw [ha1]; simp
      have v1 : VB a1 w6.heap.size [.int .i64 (ceilN L bk : Nat), .int .i64 (ceilN L bk : Nat)] := by rw [ha1]; exact VB.new _ _ _
      have E1 : Ext w6 a1 := by rw [ha1]; exact (Ext.refl _).alloc _
      rw [← ha1]
      obtain ⟨a2, ha2⟩ : ∃ X, X = a1.alloc (.cells #[.int .i64 0] 3) := ⟨_, rfl⟩
      have s2 : a2.heap.size = w6.heap.size + 1 + 1 := by rw [ha2]; simp [s1]
      have v2 : VB a2 (w6.heap.size + 1) [.int .i64 0] := by rw [ha2, ← s1]; exact VB.new _ _ _
      have E2 : Ext a1 a2 := by rw [ha2]; exact (Ext.refl _).alloc _
      rw [← ha2]
      obtain ⟨a3, ha3⟩ : ∃ X, X = a2.alloc (.cells #[I k, .int .i64 (L : Nat), .int .i64 0, .int .i64 0, .int .i64 0] 40) := ⟨_, rfl⟩
      have s3 : a3.heap.size = w6.heap.size + 1 + 1 + 1 := by rw [ha3]; simp [s2]
      have v3 : VB a3 (w6.heap.size + 1 + 1) (bdL ⟨k, L, A, bk⟩) := by rw [ha3, ← s2]; exact VB.new _ _ _
      have E3 : Ext a2 a3 := by rw [ha3]; exact (Ext.refl _).alloc _
      rw [← ha3]
      obtain ⟨a4, ha4⟩ : ∃ X, X = a3.alloc (.cells #[.int .i64 1, .int .i64 1, .int .i64 (A : Nat), .int .i64 2, .bool false, .int .i64 2, .int .i64 1, I bk, .int .i64 2, .bool false] 45) := ⟨_, rfl⟩
      have s4 : a4.heap.size = w6.heap.size + 1 + 1 + 1 + 1 := by rw [ha4]; simp [s3]
      have v4 : VB a4 (w6.heap.size + 1 + 1 + 1) (tfs ⟨k, L, A, bk⟩) := by rw [ha4, ← s3]; exact VB.new _ _ _
      have E4 : Ext a3 a4 := by rw [ha4]; exact (Ext.refl _).alloc _
      rw [← ha4]
      obtain ⟨a5, ha5⟩ : ∃ X, X = a4.alloc (.cells #[.slice (some ⟨w6.heap.size + 1, 0, none⟩) 1 1, .slice (some ⟨w6.heap.size + 1 + 1, 0, none⟩) 1 1, .slice (some ⟨w6.heap.size + 1 + 1 + 1, 0, none⟩) 2 2] 48) := ⟨_, rfl⟩
      have s5 : a5.heap.size = w6.heap.size + 1 + 1 + 1 + 1 + 1 := by rw [ha5]; simp [s4]
      have v5 : VB a5 (w6.heap.size + 1 + 1 + 1 + 1) (shL (w6.heap.size + 1) (w6.heap.size + 1 + 1) (w6.heap.size + 1 + 1 + 1)) := by rw [ha5, ← s4]; exact VB.new _ _ _
      have E5 : Ext a4 a5 := by rw [ha5]; exact (Ext.refl _).alloc _
      rw [← ha5]
      obtain ⟨a6, ha6⟩ : ∃ X, X = a5.alloc (.cells #[.int .i64 0] 3) := ⟨_, rfl⟩
      have v6 : VB a6 (w6.heap.size + 1 + 1 + 1 + 1 + 1) [.int .i64 0] := by rw [ha6, ← s5]; exact VB.new _ _ _
      have E6 : Ext a5 a6 := by rw [ha6]; exact (Ext.refl _).alloc _
      rw [← ha6]
      have E26 := E3.trans (E4.trans (E5.trans E6))
      have HSh := Lib.hid (show ShAt a6 ⟨k, L, A, bk⟩ (w6.heap.size + 1) (w6.heap.size + 1 + 1) (w6.heap.size + 1 + 1 + 1) from ⟨v2.ext E26, v3.ext (E4.trans (E5.trans E6)), v4.ext (E5.trans E6)⟩)
      have Hv6 := Lib.hid v6
      have Hv5 := Lib.hid (v5.ext E6)
      have Hv1 := Lib.hid (v1.ext (E2.trans E26))
      have HXa := Lib.hid (HX6.out.trans (E1.trans (E2.trans E26)))
      clear ha1 ha2 ha3 ha4 ha5 ha6 s1 s2 s3 s4 s5 v1 v2 v3 v4 v5 v6 E1 E2 E3 E4 E5 E6 E26
      have R7a := Lib.hid (fun bh W hs hb => total7_1 ⟨k, L, A, bk⟩ HFs.out ⟨by show 1 ≤ k; omega, by show k ≤ 60; omega⟩ (w6.heap.size + 1) (w6.heap.size + 1 + 1) (w6.heap.size + 1 + 1 + 1) bh W hs hb)
      have R7b := Lib.hid (fun bh W hs hb => total7_2 ⟨k, L, A, bk⟩ HFs.out ⟨by show 1 ≤ L; omega, by show L ≤ 60; omega⟩ (w6.heap.size + 1) (w6.heap.size + 1 + 1) (w6.heap.size + 1 + 1 + 1) bh W hs hb)
      simp only at R7a R7b
      rw [HL.out] at R7a
      refine (R7a.out _ _ HSh.out Hv6.out).mono ?_
      rintro e w7 ⟨rfl, h7⟩
      have HX7 := Lib.hid (HXa.out.trans h7)
      have HSh7 := Lib.hid (HSh.out.ext h7)
      have Hv57 := Lib.hid (Hv5.out.ext h7)
      have Hv17 := Lib.hid (Hv1.out.ext h7)
      have y0 := Hv57.out 0 _ rfl
      have y1 := Hv57.out 1 _ rfl
      have y2 := Hv57.out 2 _ rfl
      clear h7 HXa HSh Hv5 Hv1 Hv6
      go_wp2_with (first | (go_at_call 7; refine (R7b.out _ _ (HSh7.out.ext ((Ext.refl w7).alloc _)) (VB.new w7 [.int .i64 0] 3)).mono ?_; rintro e w8 ⟨rfl, h8⟩; have hX := ((Ext.refl w7).alloc (.cells #[.int .i64 0] 3)).trans h8; have HX8 := Lib.hid (HX7.out.trans hX); have Hv18 := Lib.hid (Hv17.out.ext hX); clear hX h8 y0 y1 y2))
      have z0 := Hv18.out 0 _ rfl
      have z1 := Hv18.out 1 _ rfl
      have he := fun W => eql24 ((ceilN L bk : Nat) : Int) ((ceilN L bk : Nat) : Int) W
      clear R7a R7b
      generalize ceilN L bk = C at *
      refine wp_region_plan (.take 0 <| .take 1 <| .take 2 <| .take 3 <| .take 4 <| .take 5 <| .take 6 <| .take 7 <| .take 8 <| .take 9 <| .take 10 <| .take 11 <| .take 12 <| .take 13 <| .only 14 <| .take 15 <| .take 16 <| .take 17 <| .only 18 <| .take 19 <| .take 20 <| .done) (fun W => Ext w8 W) mixed (by kernel_rfl) (by kernel_rfl) rfl (fun _ _ d _ _ h => by cases d <;> exact h) ((Ext.refl w8).drew) ?_
      repeat ((first | (refine plan_take (v := ?_) rfl rfl (fun W hW => ?_) ?_; rotate_left; (focus (have d0 := cell_ext hW z0; have d1 := cell_ext hW z1; go_simp; first | exact rfl | (split <;> first | exact rfl | (exfalso; omega)) | done))) | refine plan_skip rfl rfl ?_); simp only [Act.put, List.setIfInBounds_toArray, List.set_cons_zero, List.set_cons_succ])
      have X9 := (Ext.refl w8).drew
      clear z0 z1
      generalize w8.drew = w9 at *
      refine plan_walk rfl ?_; intro K hK
      go_wp2_with (first | (go_at_call 8; refine (one8 _ _).mono ?_; rintro e wb ⟨rfl, hb1⟩))
      have Xb := X9.trans hb1
      refine hK _ _ Xb ?_
      repeat ((first | (refine plan_take (v := ?_) rfl rfl (fun W hW => ?_) ?_; rotate_left; (focus (skip; go_simp; first | exact rfl | (split <;> first | exact rfl | (exfalso; omega)) | done))) | refine plan_skip rfl rfl ?_); simp only [Act.put, List.setIfInBounds_toArray, List.set_cons_zero, List.set_cons_succ])
      refine plan_walk rfl ?_; intro K hK
      go_wp2_with (first | (go_at_call 4; refine (known4 _).mono ?_; rintro e wc ⟨rfl, hc1⟩))
      have Xc := Xb.trans hc1
      have HXc := Lib.hid (HX8.out.trans Xc)
      refine hK _ _ Xc ?_
      repeat ((first | (refine plan_take (v := ?_) rfl rfl (fun W hW => ?_) ?_; rotate_left; (focus (skip; go_simp; first | exact rfl | (split <;> first | exact rfl | (exfalso; omega)) | done))) | refine plan_skip rfl rfl ?_); simp only [Act.put, List.setIfInBounds_toArray, List.set_cons_zero, List.set_cons_succ])
      refine plan_done ?_
      go_wp2
      go_ret
      exact ⟨rfl, HXc.out⟩

end Go.Proofs.Ytdmegfbeibbmfaa
