/- Contracts and mathematics, joined: Far, Pot, May. Conditions stand with each. -/
import Derived.Below
import Derived.BigQuiet
import Derived.Deep.DeepCutAuto
import Derived.Deep.DeepFit
import Derived.Deep.LoopGhost
import Derived.Deep.QuietTactic
import Derived.Deep.RegionHeld
import Derived.Deep.RegionHeld3
import Derived.Deep.RegionWith
import Derived.Laws.EntriesVeiled
import Derived.Lib.Hide
import Derived.OrdersHeld
import Derived.Test.YtjpekonfjihcoaaGreatDoorProg
import Derived.WalkKit
import Derived.WalkLawsBesides
import Derived.WalkSpells
import Derived.Test.YtjpekonfjihcoaaGreatDoorM2
import Derived.Test.YtjpekonfjihcoaaGreatDoorM5
import Derived.Test.YtjpekonfjihcoaaGreatDoorM4
import Derived.Test.YtjpekonfjihcoaaGreatDoorM3
import Derived.Test.YtjpekonfjihcoaaGreatDoorM1
namespace Go.TintM
end Go.TintM
set_option maxRecDepth 100000
set_option maxHeartbeats 64000000
set_option linter.unusedVariables false
set_option linter.unusedSimpArgs false
/- Contract: far. No condition beyond sheets and mixtures as defined. -/
namespace Go.Proofs.YtjpekonfjihcoaaGreatDoor
open Go.RowKit Go.My Go.TintM

/-- An empty box of a span. -/
structure ZS (W : World) (q : Nat) : Prop where
 c0 : W.cell? ⟨q, 0, none⟩ = some (.int .i64 0)
 c1 : W.cell? ⟨q, 1, none⟩ = some (.int .i64 0)
 f0 : W.frozen? ⟨q, 0, none⟩ = false
 f1 : W.frozen? ⟨q, 1, none⟩ = false
theorem ZS.new (W : World) : ZS (W.alloc (.cells #[.int .i64 0, .int .i64 0] 24)) W.heap.size := ⟨by go_simp, by go_simp, by go_simp, by go_simp⟩
theorem ZS.ext {W W' : World} {q : Nat} (h : ZS W q) (hE : Ext W W') : ZS W' q :=
 ⟨cell_ext hE h.c0, cell_ext hE h.c1, (hE.frozen (World.block_lt_of_cell? _ _ h.c0)).trans h.f0, (hE.frozen (World.block_lt_of_cell? _ _ h.c1)).trans h.f1⟩
structure FS (W : World) (q : Nat) (a b : Int) : Prop where
 c0 : W.cell? ⟨q, 0, none⟩ = some (.int .i64 a)
 c1 : W.cell? ⟨q, 1, none⟩ = some (.int .i64 b)
theorem FS.ext {W W' : World} {q : Nat} {a b : Int} (h : FS W q a b) (hE : Ext W W') : FS W' q a b := ⟨cell_ext hE h.c0, cell_ext hE h.c1⟩
theorem two_spans {W wr : World} {q7 q8 : Nat} (h7 : ZS W q7) (h8 : ZS W q8) (hne : ¬ q7 = q8) (hE : Ext wr W) (l7 : wr.heap.size ≤ q7) (l8 : wr.heap.size ≤ q8) (a b c d : Nat) :
  Ext wr ((((W.setCell ⟨q7, 0, none⟩ (.int .i64 a)).setCell ⟨q7, 1, none⟩ (.int .i64 b)).setCell ⟨q8, 0, none⟩ (.int .i64 c)).setCell ⟨q8, 1, none⟩ (.int .i64 d)) ∧
   FS ((((W.setCell ⟨q7, 0, none⟩ (.int .i64 a)).setCell ⟨q7, 1, none⟩ (.int .i64 b)).setCell ⟨q8, 0, none⟩ (.int .i64 c)).setCell ⟨q8, 1, none⟩ (.int .i64 d)) q7 a b ∧
   FS ((((W.setCell ⟨q7, 0, none⟩ (.int .i64 a)).setCell ⟨q7, 1, none⟩ (.int .i64 b)).setCell ⟨q8, 0, none⟩ (.int .i64 c)).setCell ⟨q8, 1, none⟩ (.int .i64 d)) q8 c d := by
 obtain ⟨a0, a1, _, _⟩ := h7
 obtain ⟨b0, b1, _, _⟩ := h8
 have hne2 : ¬ q8 = q7 := fun e => hne e.symm
 exact ⟨ext_set (ext_set (ext_set (ext_set hE l7) l7) l8) l8, ⟨by go_simp, by go_simp⟩, ⟨by go_simp, by go_simp⟩⟩

/-- The sums stay small. -/
theorem high_small {s : Sh} (g : Fine s) {m : List Nat} (hm : IsMix s m) {p : Nat} (hp : p < 3) : highS s m p ≤ 99 * m.length * 8 := by
 have key : ∀ k, k ≤ m.length → highTo s m p k ≤ 99 * k * 8 := by
  intro k
  induction k with
  | zero => intro _; simp [highTo]
  | succ k ih =>
   intro hk
   have i := ih (by omega)
   have hl := hm.len
   rw [highTo_succ]
   have h1 : m.getD k 0 ≤ 8 := by
    rw [show m.getD k 0 = m[k] by simp [List.getD, show k < m.length by omega]]; exact hm.le _ (List.getElem_mem _)
   have h2 : thi (s.tins.getD k []) p ≤ 99 := by
    rw [show s.tins.getD k [] = s.tins[k] by simp [List.getD, show k < s.tins.length by omega]]; exact (g.tin _ (List.getElem_mem _) p hp).2
   have := Nat.mul_le_mul h1 h2
   omega
 exact key _ (Nat.le_refl _)

theorem far_any (s : Sh) (g : Fine s) (m : List Nat) (hm : IsMix s m) (ot : Option Addr) (cap : Nat) (om : Option Addr) (cm p y : Nat) (hp : p < 3) (hy : y ≤ 20) (w : World) (h : TinsAt w ot (ofSh s).tins) (hi : IntsAt w om (upL m)) :
  Calls Tryz.prog 127 #[potV s ot cap om m.length cm, .int .i64 p, .int .i64 y] w fun e w' => e = .returned (.int .i64 (far s m p y)) ∧ Ext w w' := by
 have hm8 : ∀ x ∈ upL m, 0 ≤ x ∧ x ≤ 10000 := fun x hx => by
  obtain ⟨n, hn, rfl⟩ := List.mem_map.1 hx
  have := hm.le n hn; omega
 have hml : (upL m).length ≤ 1000 := by rw [upL_length, hm.len]; have := g.len2; omega
 have R87 := Lib.hid (fun W (hW : Ext w W) => has_any s g m hm ot cap om cm p hp W (h.ext hW) (hi.ext hW))
 have R120 := Lib.hid (fun W => board_any s g ot cap p y hp hy W)
 have R75 := Lib.hid (fun W (hW : Ext w W) => sumB_any (upL m) om cm W (hi.ext hW) hml hm8)
 rw [upL_length, sum_up] at R75
 have hfar := Lib.hid (show far s m p y = max (((highS s m p : Nat) : Int) - ((m.sum * left (s.old p) y (s.fhi p) : Nat) : Int)) (((m.sum * left (s.old p) y (s.flo p) : Nat) : Int) - ((lowS s m p : Nat) : Int)) from rfl)
 have hlow : lowS s m p ≤ highS s m p := low_high g hm.len hp
 have hhi := high_small g hm hp
 have hs8 := hm.sum
 rw [hm.len] at hhi
 have hl4 := g.len2
 have hB1 := Nat.le_trans (left_le (s.old p) y (s.fhi p)) (g.old p hp)
 have hB2 := Nat.le_trans (left_le (s.old p) y (s.flo p)) (g.old p hp)
 clear h hi hm8 hml hm g
 generalize lowS s m p = L at *
 generalize highS s m p = H at *
 generalize left (s.old p) y (s.fhi p) = BL at *
 generalize left (s.old p) y (s.flo p) = BH at *
 generalize m.sum = N at *
 go_enter Tryz.func127, Tryz.ntmps127
 go_wp2_with fail
 obtain ⟨wr, hwr⟩ : ∃ wr, wr = w.alloc (.cells (potC s ot cap om m.length cm) 108) := ⟨_, rfl⟩
 have HWr := Lib.hid (show Ext w wr by rw [hwr]; exact (Ext.refl w).alloc _)
 have c0 : wr.cell? ⟨w.heap.size, 0, none⟩ = some (.int .i64 (ofSh s).o0) := by rw [hwr]; go_simp
 have c1 : wr.cell? ⟨w.heap.size, 1, none⟩ = some (.int .i64 (ofSh s).o1) := by rw [hwr]; go_simp
 have c2 : wr.cell? ⟨w.heap.size, 2, none⟩ = some (.int .i64 (ofSh s).o2) := by rw [hwr]; go_simp
 have c3 : wr.cell? ⟨w.heap.size, 3, none⟩ = some (.int .i64 (ofSh s).a0) := by rw [hwr]; go_simp
 have c4 : wr.cell? ⟨w.heap.size, 4, none⟩ = some (.int .i64 (ofSh s).b0) := by rw [hwr]; go_simp
 have c5 : wr.cell? ⟨w.heap.size, 5, none⟩ = some (.int .i64 (ofSh s).a1) := by rw [hwr]; go_simp
 have c6 : wr.cell? ⟨w.heap.size, 6, none⟩ = some (.int .i64 (ofSh s).b1) := by rw [hwr]; go_simp
 have c7 : wr.cell? ⟨w.heap.size, 7, none⟩ = some (.int .i64 (ofSh s).a2) := by rw [hwr]; go_simp
 have c8 : wr.cell? ⟨w.heap.size, 8, none⟩ = some (.int .i64 (ofSh s).b2) := by rw [hwr]; go_simp
 have c9 : wr.cell? ⟨w.heap.size, 9, none⟩ = some (.int .i64 (ofSh s).ylo) := by rw [hwr]; go_simp
 have c10 : wr.cell? ⟨w.heap.size, 10, none⟩ = some (.int .i64 (ofSh s).yhi) := by rw [hwr]; go_simp
 have c11 : wr.cell? ⟨w.heap.size, 11, none⟩ = some (.int .i64 (ofSh s).off) := by rw [hwr]; go_simp
 have c12 : wr.cell? ⟨w.heap.size, 12, none⟩ = some (.slice ot (ofSh s).tins.length cap) := by rw [hwr]; go_simp
 have c13 : wr.cell? ⟨w.heap.size, 13, none⟩ = some (.slice om m.length cm) := by rw [hwr]; go_simp
 rw [← hwr]
 clear hwr
 refine wp_region_plan (.take 0 <| .take 1 <| .take 3 <| .take 4 <| .take 5 <| .take 6 <| .take 8 <| .take 9 <| .three 2 11 12 (.three 7 11 12 (.three 10 11 12 (.two 11 12 (.only 12 <| .only 13 <| .only 14 <| .take 15 <| .done) (.only 11 <| .only 13 <| .only 14 <| .take 15 <| .done)) (.two 10 12 (.only 12 <| .only 13 <| .only 14 <| .take 15 <| .done) (.only 10 <| .only 13 <| .only 14 <| .take 15 <| .done)) (.two 10 11 (.only 11 <| .only 13 <| .only 14 <| .take 15 <| .done) (.only 10 <| .only 13 <| .only 14 <| .take 15 <| .done))) (.two 7 12 (.two 10 12 (.only 12 <| .only 13 <| .only 14 <| .take 15 <| .done) (.only 10 <| .only 13 <| .only 14 <| .take 15 <| .done)) (.only 7 <| .only 10 <| .only 13 <| .only 14 <| .take 15 <| .done)) (.two 7 11 (.two 10 11 (.only 11 <| .only 13 <| .only 14 <| .take 15 <| .done) (.only 10 <| .only 13 <| .only 14 <| .take 15 <| .done)) (.only 7 <| .only 10 <| .only 13 <| .only 14 <| .take 15 <| .done))) (.two 2 12 (.two 7 12 (.two 10 12 (.only 12 <| .only 13 <| .only 14 <| .take 15 <| .done) (.only 10 <| .only 13 <| .only 14 <| .take 15 <| .done)) (.only 7 <| .only 10 <| .only 13 <| .only 14 <| .take 15 <| .done)) (.only 2 <| .only 7 <| .only 10 <| .only 13 <| .only 14 <| .take 15 <| .done)) (.two 2 11 (.two 7 11 (.two 10 11 (.only 11 <| .only 13 <| .only 14 <| .take 15 <| .done) (.only 10 <| .only 13 <| .only 14 <| .take 15 <| .done)) (.only 7 <| .only 10 <| .only 13 <| .only 14 <| .take 15 <| .done)) (.only 2 <| .only 7 <| .only 10 <| .only 13 <| .only 14 <| .take 15 <| .done))) (fun W => Ext wr W) mixed (by kernel_rfl) (by kernel_rfl) rfl (fun _ _ d _ _ h => by cases d <;> exact h) ((Ext.refl wr).drew) ?_
 repeat ((first | (refine plan_take (v := ?_) rfl rfl (fun W hW => ?_) ?_; rotate_left; (focus (have d0 := cell_ext hW c0; have d1 := cell_ext hW c1; have d2 := cell_ext hW c2; have d3 := cell_ext hW c3; have d4 := cell_ext hW c4; have d5 := cell_ext hW c5; have d6 := cell_ext hW c6; have d7 := cell_ext hW c7; have d8 := cell_ext hW c8; have d9 := cell_ext hW c9; have d10 := cell_ext hW c10; have d11 := cell_ext hW c11; have d12 := cell_ext hW c12; have d13 := cell_ext hW c13; go_simp; first | exact rfl | (split <;> first | exact rfl | (exfalso; omega)) | done))) | refine plan_skip rfl rfl ?_); simp only [puts])
 clear c0 c1 c2 c3 c4 c5 c6 c7 c8 c9 c10 c11 c12 c13
 refine plan_share (fun A a' w' => ∃ (q7 q8 : Nat), a' = ((((((A.put (some 12) (spanV L H)).put (some 17) (spanV BL BH)).put (some 20) (.int .i64 N)).put (some 7) (.pointer (some ⟨q7, 0, none⟩))).put (some 8) (.pointer (some ⟨q8, 0, none⟩))).put (some 9) (.int .i64 N)) ∧ Ext wr w' ∧ FS w' q7 L H ∧ FS w' q8 BL BH) ?_ ?_
 ·obtain ⟨wd, hwd⟩ : ∃ wd, wd = wr.drew := ⟨_, rfl⟩
  have ed : Ext wr wd := by rw [hwd]; exact (Ext.refl wr).drew
  rw [← hwd]
  clear hwd
  refine plan_three rfl rfl rfl ?_ ?_ ?_
  ·intro K hK
   go_wp2_with (first | (go_at_call 87; refine (R87.out _ (HWr.out.trans ed)).mono ?_; rintro e w1 ⟨rfl, h1⟩))
   have e1 := ed.trans h1
   refine hK _ _ e1 ?_
   refine plan_three rfl rfl rfl ?_ ?_ ?_
   ·intro K hK
    go_wp2_with (first | (go_at_call 120; refine (R120.out _).mono ?_; rintro e w2 ⟨rfl, h2⟩))
    have e2 := e1.trans h2
    refine hK _ _ e2 ?_
    refine plan_three rfl rfl rfl ?_ ?_ ?_
    ·intro K hK
     go_wp2_with (first | (go_at_call 75; refine (R75.out _ (HWr.out.trans e2)).mono ?_; rintro e w3 ⟨rfl, rfl⟩))
     refine hK _ _ e2 ?_
     refine plan_two rfl rfl ?_ ?_
     ·intro K hK
      go_wp2
      have e4 := e2.alloc (.cells #[.int .i64 0, .int .i64 0] 24)
      have n4 := ZS.new w2
      obtain ⟨w4, hw4⟩ : ∃ W, W = w2.alloc (.cells #[.int .i64 0, .int .i64 0] 24) := ⟨_, rfl⟩
      have h4 : Ext w2 w4 := by rw [hw4]; exact (Ext.refl _).alloc _
      rw [← hw4] at e4 n4 ⊢
      clear hw4
      refine hK _ _ e4 ?_
      refine plan_walk rfl ?_; intro K hK
      go_wp2
      have e5 := e4.alloc (.cells #[.int .i64 0, .int .i64 0] 24)
      have n5 := ZS.new w4
      have lt_5 := World.block_lt_of_cell? _ _ n4.c0
      obtain ⟨w5, hw5⟩ : ∃ W, W = w4.alloc (.cells #[.int .i64 0, .int .i64 0] 24) := ⟨_, rfl⟩
      have h5 : Ext w4 w5 := by rw [hw5]; exact (Ext.refl _).alloc _
      rw [← hw5] at e5 n5 ⊢
      clear hw5
      have z7_5 := n4.ext h5
      refine hK _ _ e5 ?_
      refine plan_walk rfl ?_; intro K hK
      have s7 := e2.size
      have s8 := e4.size
      have hne : ¬ w2.heap.size = w4.heap.size := by (try simp only at lt_5); omega
      have hne2 : ¬ w4.heap.size = w2.heap.size := by omega
      have hT := two_spans z7_5 n5 hne e5 (by omega) (by omega) L H BL BH
      have HT := Lib.hid hT
      clear hT
      have a0 := z7_5.c0; have a1 := z7_5.c1; have f0 := z7_5.f0; have f1 := z7_5.f1; have a2 := n5.c0; have a3 := n5.c1; have f2 := n5.f0; have f3 := n5.f1
      go_wp2
      refine hK _ _ (ext_set (ext_set e5 (by omega)) (by omega)) ?_
      refine plan_walk rfl ?_; intro K hK
      go_wp2
      refine hK _ _ HT.out.1 ?_
      repeat ((first | (refine plan_take (v := ?_) rfl rfl (fun W hW => ?_) ?_; rotate_left; (focus (skip; go_simp; first | exact rfl | (split <;> first | exact rfl | (exfalso; omega)) | done))) | refine plan_skip rfl rfl ?_); simp only [puts])
      refine plan_met ?_
      exact ⟨_, _, rfl, HT.out.1, HT.out.2⟩
     ·intro K hK
      go_wp2
      have e8 := e2.alloc (.cells #[.int .i64 0, .int .i64 0] 24)
      have n8 := ZS.new w2
      obtain ⟨w8, hw8⟩ : ∃ W, W = w2.alloc (.cells #[.int .i64 0, .int .i64 0] 24) := ⟨_, rfl⟩
      have h8 : Ext w2 w8 := by rw [hw8]; exact (Ext.refl _).alloc _
      rw [← hw8] at e8 n8 ⊢
      clear hw8
      refine hK _ _ e8 ?_
      refine plan_walk rfl ?_; intro K hK
      go_wp2
      have e9 := e8.alloc (.cells #[.int .i64 0, .int .i64 0] 24)
      have n9 := ZS.new w8
      have lt_9 := World.block_lt_of_cell? _ _ n8.c0
      obtain ⟨w9, hw9⟩ : ∃ W, W = w8.alloc (.cells #[.int .i64 0, .int .i64 0] 24) := ⟨_, rfl⟩
      have h9 : Ext w8 w9 := by rw [hw9]; exact (Ext.refl _).alloc _
      rw [← hw9] at e9 n9 ⊢
      clear hw9
      have z8_9 := n8.ext h9
      refine hK _ _ e9 ?_
      refine plan_walk rfl ?_; intro K hK
      have s7 := e8.size
      have s8 := e2.size
      have hne : ¬ w8.heap.size = w2.heap.size := by (try simp only at lt_9); omega
      have hne2 : ¬ w2.heap.size = w8.heap.size := by omega
      have hT := two_spans n9 z8_9 hne e9 (by omega) (by omega) L H BL BH
      have HT := Lib.hid hT
      clear hT
      have a0 := n9.c0; have a1 := n9.c1; have f0 := n9.f0; have f1 := n9.f1; have a2 := z8_9.c0; have a3 := z8_9.c1; have f2 := z8_9.f0; have f3 := z8_9.f1
      go_wp2
      refine hK _ _ (ext_set (ext_set e9 (by omega)) (by omega)) ?_
      refine plan_walk rfl ?_; intro K hK
      go_wp2
      refine hK _ _ HT.out.1 ?_
      repeat ((first | (refine plan_take (v := ?_) rfl rfl (fun W hW => ?_) ?_; rotate_left; (focus (skip; go_simp; first | exact rfl | (split <;> first | exact rfl | (exfalso; omega)) | done))) | refine plan_skip rfl rfl ?_); simp only [puts])
      refine plan_met ?_
      exact ⟨_, _, rfl, HT.out.1, HT.out.2⟩
    ·intro K hK
     go_wp2
     have e12 := e2.alloc (.cells #[.int .i64 0, .int .i64 0] 24)
     have n12 := ZS.new w2
     obtain ⟨w12, hw12⟩ : ∃ W, W = w2.alloc (.cells #[.int .i64 0, .int .i64 0] 24) := ⟨_, rfl⟩
     have h12 : Ext w2 w12 := by rw [hw12]; exact (Ext.refl _).alloc _
     rw [← hw12] at e12 n12 ⊢
     clear hw12
     refine hK _ _ e12 ?_
     refine plan_two rfl rfl ?_ ?_
     ·intro K hK
      go_wp2_with (first | (go_at_call 75; refine (R75.out _ (HWr.out.trans e12)).mono ?_; rintro e w13 ⟨rfl, rfl⟩))
      refine hK _ _ e12 ?_
      refine plan_walk rfl ?_; intro K hK
      go_wp2
      have e14 := e12.alloc (.cells #[.int .i64 0, .int .i64 0] 24)
      have n14 := ZS.new w12
      have lt_14 := World.block_lt_of_cell? _ _ n12.c0
      obtain ⟨w14, hw14⟩ : ∃ W, W = w12.alloc (.cells #[.int .i64 0, .int .i64 0] 24) := ⟨_, rfl⟩
      have h14 : Ext w12 w14 := by rw [hw14]; exact (Ext.refl _).alloc _
      rw [← hw14] at e14 n14 ⊢
      clear hw14
      have z7_14 := n12.ext h14
      refine hK _ _ e14 ?_
      refine plan_walk rfl ?_; intro K hK
      have s7 := e2.size
      have s8 := e12.size
      have hne : ¬ w2.heap.size = w12.heap.size := by (try simp only at lt_14); omega
      have hne2 : ¬ w12.heap.size = w2.heap.size := by omega
      have hT := two_spans z7_14 n14 hne e14 (by omega) (by omega) L H BL BH
      have HT := Lib.hid hT
      clear hT
      have a0 := z7_14.c0; have a1 := z7_14.c1; have f0 := z7_14.f0; have f1 := z7_14.f1; have a2 := n14.c0; have a3 := n14.c1; have f2 := n14.f0; have f3 := n14.f1
      go_wp2
      refine hK _ _ (ext_set (ext_set e14 (by omega)) (by omega)) ?_
      refine plan_walk rfl ?_; intro K hK
      go_wp2
      refine hK _ _ HT.out.1 ?_
      repeat ((first | (refine plan_take (v := ?_) rfl rfl (fun W hW => ?_) ?_; rotate_left; (focus (skip; go_simp; first | exact rfl | (split <;> first | exact rfl | (exfalso; omega)) | done))) | refine plan_skip rfl rfl ?_); simp only [puts])
      refine plan_met ?_
      exact ⟨_, _, rfl, HT.out.1, HT.out.2⟩
     ·intro K hK
      go_wp2
      have e17 := e12.alloc (.cells #[.int .i64 0, .int .i64 0] 24)
      have n17 := ZS.new w12
      have lt_17 := World.block_lt_of_cell? _ _ n12.c0
      obtain ⟨w17, hw17⟩ : ∃ W, W = w12.alloc (.cells #[.int .i64 0, .int .i64 0] 24) := ⟨_, rfl⟩
      have h17 : Ext w12 w17 := by rw [hw17]; exact (Ext.refl _).alloc _
      rw [← hw17] at e17 n17 ⊢
      clear hw17
      have z7_17 := n12.ext h17
      refine hK _ _ e17 ?_
      refine plan_walk rfl ?_; intro K hK
      go_wp2_with (first | (go_at_call 75; refine (R75.out _ (HWr.out.trans e17)).mono ?_; rintro e w18 ⟨rfl, rfl⟩))
      refine hK _ _ e17 ?_
      refine plan_walk rfl ?_; intro K hK
      have s7 := e2.size
      have s8 := e12.size
      have hne : ¬ w2.heap.size = w12.heap.size := by (try simp only at lt_17); omega
      have hne2 : ¬ w12.heap.size = w2.heap.size := by omega
      have hT := two_spans z7_17 n17 hne e17 (by omega) (by omega) L H BL BH
      have HT := Lib.hid hT
      clear hT
      have a0 := z7_17.c0; have a1 := z7_17.c1; have f0 := z7_17.f0; have f1 := z7_17.f1; have a2 := n17.c0; have a3 := n17.c1; have f2 := n17.f0; have f3 := n17.f1
      go_wp2
      refine hK _ _ (ext_set (ext_set e17 (by omega)) (by omega)) ?_
      refine plan_walk rfl ?_; intro K hK
      go_wp2
      refine hK _ _ HT.out.1 ?_
      repeat ((first | (refine plan_take (v := ?_) rfl rfl (fun W hW => ?_) ?_; rotate_left; (focus (skip; go_simp; first | exact rfl | (split <;> first | exact rfl | (exfalso; omega)) | done))) | refine plan_skip rfl rfl ?_); simp only [puts])
      refine plan_met ?_
      exact ⟨_, _, rfl, HT.out.1, HT.out.2⟩
    ·intro K hK
     go_wp2
     have e21 := e2.alloc (.cells #[.int .i64 0, .int .i64 0] 24)
     have n21 := ZS.new w2
     obtain ⟨w21, hw21⟩ : ∃ W, W = w2.alloc (.cells #[.int .i64 0, .int .i64 0] 24) := ⟨_, rfl⟩
     have h21 : Ext w2 w21 := by rw [hw21]; exact (Ext.refl _).alloc _
     rw [← hw21] at e21 n21 ⊢
     clear hw21
     refine hK _ _ e21 ?_
     refine plan_two rfl rfl ?_ ?_
     ·intro K hK
      go_wp2_with (first | (go_at_call 75; refine (R75.out _ (HWr.out.trans e21)).mono ?_; rintro e w22 ⟨rfl, rfl⟩))
      refine hK _ _ e21 ?_
      refine plan_walk rfl ?_; intro K hK
      go_wp2
      have e23 := e21.alloc (.cells #[.int .i64 0, .int .i64 0] 24)
      have n23 := ZS.new w21
      have lt_23 := World.block_lt_of_cell? _ _ n21.c0
      obtain ⟨w23, hw23⟩ : ∃ W, W = w21.alloc (.cells #[.int .i64 0, .int .i64 0] 24) := ⟨_, rfl⟩
      have h23 : Ext w21 w23 := by rw [hw23]; exact (Ext.refl _).alloc _
      rw [← hw23] at e23 n23 ⊢
      clear hw23
      have z8_23 := n21.ext h23
      refine hK _ _ e23 ?_
      refine plan_walk rfl ?_; intro K hK
      have s7 := e21.size
      have s8 := e2.size
      have hne : ¬ w21.heap.size = w2.heap.size := by (try simp only at lt_23); omega
      have hne2 : ¬ w2.heap.size = w21.heap.size := by omega
      have hT := two_spans n23 z8_23 hne e23 (by omega) (by omega) L H BL BH
      have HT := Lib.hid hT
      clear hT
      have a0 := n23.c0; have a1 := n23.c1; have f0 := n23.f0; have f1 := n23.f1; have a2 := z8_23.c0; have a3 := z8_23.c1; have f2 := z8_23.f0; have f3 := z8_23.f1
      go_wp2
      refine hK _ _ (ext_set (ext_set e23 (by omega)) (by omega)) ?_
      refine plan_walk rfl ?_; intro K hK
      go_wp2
      refine hK _ _ HT.out.1 ?_
      repeat ((first | (refine plan_take (v := ?_) rfl rfl (fun W hW => ?_) ?_; rotate_left; (focus (skip; go_simp; first | exact rfl | (split <;> first | exact rfl | (exfalso; omega)) | done))) | refine plan_skip rfl rfl ?_); simp only [puts])
      refine plan_met ?_
      exact ⟨_, _, rfl, HT.out.1, HT.out.2⟩
     ·intro K hK
      go_wp2
      have e26 := e21.alloc (.cells #[.int .i64 0, .int .i64 0] 24)
      have n26 := ZS.new w21
      have lt_26 := World.block_lt_of_cell? _ _ n21.c0
      obtain ⟨w26, hw26⟩ : ∃ W, W = w21.alloc (.cells #[.int .i64 0, .int .i64 0] 24) := ⟨_, rfl⟩
      have h26 : Ext w21 w26 := by rw [hw26]; exact (Ext.refl _).alloc _
      rw [← hw26] at e26 n26 ⊢
      clear hw26
      have z8_26 := n21.ext h26
      refine hK _ _ e26 ?_
      refine plan_walk rfl ?_; intro K hK
      go_wp2_with (first | (go_at_call 75; refine (R75.out _ (HWr.out.trans e26)).mono ?_; rintro e w27 ⟨rfl, rfl⟩))
      refine hK _ _ e26 ?_
      refine plan_walk rfl ?_; intro K hK
      have s7 := e21.size
      have s8 := e2.size
      have hne : ¬ w21.heap.size = w2.heap.size := by (try simp only at lt_26); omega
      have hne2 : ¬ w2.heap.size = w21.heap.size := by omega
      have hT := two_spans n26 z8_26 hne e26 (by omega) (by omega) L H BL BH
      have HT := Lib.hid hT
      clear hT
      have a0 := n26.c0; have a1 := n26.c1; have f0 := n26.f0; have f1 := n26.f1; have a2 := z8_26.c0; have a3 := z8_26.c1; have f2 := z8_26.f0; have f3 := z8_26.f1
      go_wp2
      refine hK _ _ (ext_set (ext_set e26 (by omega)) (by omega)) ?_
      refine plan_walk rfl ?_; intro K hK
      go_wp2
      refine hK _ _ HT.out.1 ?_
      repeat ((first | (refine plan_take (v := ?_) rfl rfl (fun W hW => ?_) ?_; rotate_left; (focus (skip; go_simp; first | exact rfl | (split <;> first | exact rfl | (exfalso; omega)) | done))) | refine plan_skip rfl rfl ?_); simp only [puts])
      refine plan_met ?_
      exact ⟨_, _, rfl, HT.out.1, HT.out.2⟩
   ·intro K hK
    go_wp2
    have e30 := e1.alloc (.cells #[.int .i64 0, .int .i64 0] 24)
    have n30 := ZS.new w1
    obtain ⟨w30, hw30⟩ : ∃ W, W = w1.alloc (.cells #[.int .i64 0, .int .i64 0] 24) := ⟨_, rfl⟩
    have h30 : Ext w1 w30 := by rw [hw30]; exact (Ext.refl _).alloc _
    rw [← hw30] at e30 n30 ⊢
    clear hw30
    refine hK _ _ e30 ?_
    refine plan_two rfl rfl ?_ ?_
    ·intro K hK
     go_wp2_with (first | (go_at_call 120; refine (R120.out _).mono ?_; rintro e w31 ⟨rfl, h31⟩))
     have e31 := e30.trans h31
     have z7_31 := n30.ext h31
     refine hK _ _ e31 ?_
     refine plan_two rfl rfl ?_ ?_
     ·intro K hK
      go_wp2_with (first | (go_at_call 75; refine (R75.out _ (HWr.out.trans e31)).mono ?_; rintro e w32 ⟨rfl, rfl⟩))
      refine hK _ _ e31 ?_
      refine plan_walk rfl ?_; intro K hK
      go_wp2
      have e33 := e31.alloc (.cells #[.int .i64 0, .int .i64 0] 24)
      have n33 := ZS.new w31
      have lt_33 := World.block_lt_of_cell? _ _ z7_31.c0
      obtain ⟨w33, hw33⟩ : ∃ W, W = w31.alloc (.cells #[.int .i64 0, .int .i64 0] 24) := ⟨_, rfl⟩
      have h33 : Ext w31 w33 := by rw [hw33]; exact (Ext.refl _).alloc _
      rw [← hw33] at e33 n33 ⊢
      clear hw33
      have z7_33 := z7_31.ext h33
      refine hK _ _ e33 ?_
      refine plan_walk rfl ?_; intro K hK
      have s7 := e1.size
      have s8 := e31.size
      have hne : ¬ w1.heap.size = w31.heap.size := by (try simp only at lt_33); omega
      have hne2 : ¬ w31.heap.size = w1.heap.size := by omega
      have hT := two_spans z7_33 n33 hne e33 (by omega) (by omega) L H BL BH
      have HT := Lib.hid hT
      clear hT
      have a0 := z7_33.c0; have a1 := z7_33.c1; have f0 := z7_33.f0; have f1 := z7_33.f1; have a2 := n33.c0; have a3 := n33.c1; have f2 := n33.f0; have f3 := n33.f1
      go_wp2
      refine hK _ _ (ext_set (ext_set e33 (by omega)) (by omega)) ?_
      refine plan_walk rfl ?_; intro K hK
      go_wp2
      refine hK _ _ HT.out.1 ?_
      repeat ((first | (refine plan_take (v := ?_) rfl rfl (fun W hW => ?_) ?_; rotate_left; (focus (skip; go_simp; first | exact rfl | (split <;> first | exact rfl | (exfalso; omega)) | done))) | refine plan_skip rfl rfl ?_); simp only [puts])
      refine plan_met ?_
      exact ⟨_, _, rfl, HT.out.1, HT.out.2⟩
     ·intro K hK
      go_wp2
      have e36 := e31.alloc (.cells #[.int .i64 0, .int .i64 0] 24)
      have n36 := ZS.new w31
      have lt_36 := World.block_lt_of_cell? _ _ z7_31.c0
      obtain ⟨w36, hw36⟩ : ∃ W, W = w31.alloc (.cells #[.int .i64 0, .int .i64 0] 24) := ⟨_, rfl⟩
      have h36 : Ext w31 w36 := by rw [hw36]; exact (Ext.refl _).alloc _
      rw [← hw36] at e36 n36 ⊢
      clear hw36
      have z7_36 := z7_31.ext h36
      refine hK _ _ e36 ?_
      refine plan_walk rfl ?_; intro K hK
      go_wp2_with (first | (go_at_call 75; refine (R75.out _ (HWr.out.trans e36)).mono ?_; rintro e w37 ⟨rfl, rfl⟩))
      refine hK _ _ e36 ?_
      refine plan_walk rfl ?_; intro K hK
      have s7 := e1.size
      have s8 := e31.size
      have hne : ¬ w1.heap.size = w31.heap.size := by (try simp only at lt_36); omega
      have hne2 : ¬ w31.heap.size = w1.heap.size := by omega
      have hT := two_spans z7_36 n36 hne e36 (by omega) (by omega) L H BL BH
      have HT := Lib.hid hT
      clear hT
      have a0 := z7_36.c0; have a1 := z7_36.c1; have f0 := z7_36.f0; have f1 := z7_36.f1; have a2 := n36.c0; have a3 := n36.c1; have f2 := n36.f0; have f3 := n36.f1
      go_wp2
      refine hK _ _ (ext_set (ext_set e36 (by omega)) (by omega)) ?_
      refine plan_walk rfl ?_; intro K hK
      go_wp2
      refine hK _ _ HT.out.1 ?_
      repeat ((first | (refine plan_take (v := ?_) rfl rfl (fun W hW => ?_) ?_; rotate_left; (focus (skip; go_simp; first | exact rfl | (split <;> first | exact rfl | (exfalso; omega)) | done))) | refine plan_skip rfl rfl ?_); simp only [puts])
      refine plan_met ?_
      exact ⟨_, _, rfl, HT.out.1, HT.out.2⟩
    ·intro K hK
     go_wp2
     have e40 := e30.alloc (.cells #[.int .i64 0, .int .i64 0] 24)
     have n40 := ZS.new w30
     have lt_40 := World.block_lt_of_cell? _ _ n30.c0
     obtain ⟨w40, hw40⟩ : ∃ W, W = w30.alloc (.cells #[.int .i64 0, .int .i64 0] 24) := ⟨_, rfl⟩
     have h40 : Ext w30 w40 := by rw [hw40]; exact (Ext.refl _).alloc _
     rw [← hw40] at e40 n40 ⊢
     clear hw40
     have z7_40 := n30.ext h40
     refine hK _ _ e40 ?_
     refine plan_walk rfl ?_; intro K hK
     go_wp2_with (first | (go_at_call 120; refine (R120.out _).mono ?_; rintro e w41 ⟨rfl, h41⟩))
     have e41 := e40.trans h41
     have z7_41 := z7_40.ext h41
     have z8_41 := n40.ext h41
     refine hK _ _ e41 ?_
     refine plan_walk rfl ?_; intro K hK
     go_wp2_with (first | (go_at_call 75; refine (R75.out _ (HWr.out.trans e41)).mono ?_; rintro e w42 ⟨rfl, rfl⟩))
     refine hK _ _ e41 ?_
     refine plan_walk rfl ?_; intro K hK
     have s7 := e1.size
     have s8 := e30.size
     have hne : ¬ w1.heap.size = w30.heap.size := by (try simp only at lt_40); omega
     have hne2 : ¬ w30.heap.size = w1.heap.size := by omega
     have hT := two_spans z7_41 z8_41 hne e41 (by omega) (by omega) L H BL BH
     have HT := Lib.hid hT
     clear hT
     have a0 := z7_41.c0; have a1 := z7_41.c1; have f0 := z7_41.f0; have f1 := z7_41.f1; have a2 := z8_41.c0; have a3 := z8_41.c1; have f2 := z8_41.f0; have f3 := z8_41.f1
     go_wp2
     refine hK _ _ (ext_set (ext_set e41 (by omega)) (by omega)) ?_
     refine plan_walk rfl ?_; intro K hK
     go_wp2
     refine hK _ _ HT.out.1 ?_
     repeat ((first | (refine plan_take (v := ?_) rfl rfl (fun W hW => ?_) ?_; rotate_left; (focus (skip; go_simp; first | exact rfl | (split <;> first | exact rfl | (exfalso; omega)) | done))) | refine plan_skip rfl rfl ?_); simp only [puts])
     refine plan_met ?_
     exact ⟨_, _, rfl, HT.out.1, HT.out.2⟩
   ·intro K hK
    go_wp2
    have e45 := e1.alloc (.cells #[.int .i64 0, .int .i64 0] 24)
    have n45 := ZS.new w1
    obtain ⟨w45, hw45⟩ : ∃ W, W = w1.alloc (.cells #[.int .i64 0, .int .i64 0] 24) := ⟨_, rfl⟩
    have h45 : Ext w1 w45 := by rw [hw45]; exact (Ext.refl _).alloc _
    rw [← hw45] at e45 n45 ⊢
    clear hw45
    refine hK _ _ e45 ?_
    refine plan_two rfl rfl ?_ ?_
    ·intro K hK
     go_wp2_with (first | (go_at_call 120; refine (R120.out _).mono ?_; rintro e w46 ⟨rfl, h46⟩))
     have e46 := e45.trans h46
     have z8_46 := n45.ext h46
     refine hK _ _ e46 ?_
     refine plan_two rfl rfl ?_ ?_
     ·intro K hK
      go_wp2_with (first | (go_at_call 75; refine (R75.out _ (HWr.out.trans e46)).mono ?_; rintro e w47 ⟨rfl, rfl⟩))
      refine hK _ _ e46 ?_
      refine plan_walk rfl ?_; intro K hK
      go_wp2
      have e48 := e46.alloc (.cells #[.int .i64 0, .int .i64 0] 24)
      have n48 := ZS.new w46
      have lt_48 := World.block_lt_of_cell? _ _ z8_46.c0
      obtain ⟨w48, hw48⟩ : ∃ W, W = w46.alloc (.cells #[.int .i64 0, .int .i64 0] 24) := ⟨_, rfl⟩
      have h48 : Ext w46 w48 := by rw [hw48]; exact (Ext.refl _).alloc _
      rw [← hw48] at e48 n48 ⊢
      clear hw48
      have z8_48 := z8_46.ext h48
      refine hK _ _ e48 ?_
      refine plan_walk rfl ?_; intro K hK
      have s7 := e46.size
      have s8 := e1.size
      have hne : ¬ w46.heap.size = w1.heap.size := by (try simp only at lt_48); omega
      have hne2 : ¬ w1.heap.size = w46.heap.size := by omega
      have hT := two_spans n48 z8_48 hne e48 (by omega) (by omega) L H BL BH
      have HT := Lib.hid hT
      clear hT
      have a0 := n48.c0; have a1 := n48.c1; have f0 := n48.f0; have f1 := n48.f1; have a2 := z8_48.c0; have a3 := z8_48.c1; have f2 := z8_48.f0; have f3 := z8_48.f1
      go_wp2
      refine hK _ _ (ext_set (ext_set e48 (by omega)) (by omega)) ?_
      refine plan_walk rfl ?_; intro K hK
      go_wp2
      refine hK _ _ HT.out.1 ?_
      repeat ((first | (refine plan_take (v := ?_) rfl rfl (fun W hW => ?_) ?_; rotate_left; (focus (skip; go_simp; first | exact rfl | (split <;> first | exact rfl | (exfalso; omega)) | done))) | refine plan_skip rfl rfl ?_); simp only [puts])
      refine plan_met ?_
      exact ⟨_, _, rfl, HT.out.1, HT.out.2⟩
     ·intro K hK
      go_wp2
      have e51 := e46.alloc (.cells #[.int .i64 0, .int .i64 0] 24)
      have n51 := ZS.new w46
      have lt_51 := World.block_lt_of_cell? _ _ z8_46.c0
      obtain ⟨w51, hw51⟩ : ∃ W, W = w46.alloc (.cells #[.int .i64 0, .int .i64 0] 24) := ⟨_, rfl⟩
      have h51 : Ext w46 w51 := by rw [hw51]; exact (Ext.refl _).alloc _
      rw [← hw51] at e51 n51 ⊢
      clear hw51
      have z8_51 := z8_46.ext h51
      refine hK _ _ e51 ?_
      refine plan_walk rfl ?_; intro K hK
      go_wp2_with (first | (go_at_call 75; refine (R75.out _ (HWr.out.trans e51)).mono ?_; rintro e w52 ⟨rfl, rfl⟩))
      refine hK _ _ e51 ?_
      refine plan_walk rfl ?_; intro K hK
      have s7 := e46.size
      have s8 := e1.size
      have hne : ¬ w46.heap.size = w1.heap.size := by (try simp only at lt_51); omega
      have hne2 : ¬ w1.heap.size = w46.heap.size := by omega
      have hT := two_spans n51 z8_51 hne e51 (by omega) (by omega) L H BL BH
      have HT := Lib.hid hT
      clear hT
      have a0 := n51.c0; have a1 := n51.c1; have f0 := n51.f0; have f1 := n51.f1; have a2 := z8_51.c0; have a3 := z8_51.c1; have f2 := z8_51.f0; have f3 := z8_51.f1
      go_wp2
      refine hK _ _ (ext_set (ext_set e51 (by omega)) (by omega)) ?_
      refine plan_walk rfl ?_; intro K hK
      go_wp2
      refine hK _ _ HT.out.1 ?_
      repeat ((first | (refine plan_take (v := ?_) rfl rfl (fun W hW => ?_) ?_; rotate_left; (focus (skip; go_simp; first | exact rfl | (split <;> first | exact rfl | (exfalso; omega)) | done))) | refine plan_skip rfl rfl ?_); simp only [puts])
      refine plan_met ?_
      exact ⟨_, _, rfl, HT.out.1, HT.out.2⟩
    ·intro K hK
     go_wp2
     have e55 := e45.alloc (.cells #[.int .i64 0, .int .i64 0] 24)
     have n55 := ZS.new w45
     have lt_55 := World.block_lt_of_cell? _ _ n45.c0
     obtain ⟨w55, hw55⟩ : ∃ W, W = w45.alloc (.cells #[.int .i64 0, .int .i64 0] 24) := ⟨_, rfl⟩
     have h55 : Ext w45 w55 := by rw [hw55]; exact (Ext.refl _).alloc _
     rw [← hw55] at e55 n55 ⊢
     clear hw55
     have z8_55 := n45.ext h55
     refine hK _ _ e55 ?_
     refine plan_walk rfl ?_; intro K hK
     go_wp2_with (first | (go_at_call 120; refine (R120.out _).mono ?_; rintro e w56 ⟨rfl, h56⟩))
     have e56 := e55.trans h56
     have z7_56 := n55.ext h56
     have z8_56 := z8_55.ext h56
     refine hK _ _ e56 ?_
     refine plan_walk rfl ?_; intro K hK
     go_wp2_with (first | (go_at_call 75; refine (R75.out _ (HWr.out.trans e56)).mono ?_; rintro e w57 ⟨rfl, rfl⟩))
     refine hK _ _ e56 ?_
     refine plan_walk rfl ?_; intro K hK
     have s7 := e45.size
     have s8 := e1.size
     have hne : ¬ w45.heap.size = w1.heap.size := by (try simp only at lt_55); omega
     have hne2 : ¬ w1.heap.size = w45.heap.size := by omega
     have hT := two_spans z7_56 z8_56 hne e56 (by omega) (by omega) L H BL BH
     have HT := Lib.hid hT
     clear hT
     have a0 := z7_56.c0; have a1 := z7_56.c1; have f0 := z7_56.f0; have f1 := z7_56.f1; have a2 := z8_56.c0; have a3 := z8_56.c1; have f2 := z8_56.f0; have f3 := z8_56.f1
     go_wp2
     refine hK _ _ (ext_set (ext_set e56 (by omega)) (by omega)) ?_
     refine plan_walk rfl ?_; intro K hK
     go_wp2
     refine hK _ _ HT.out.1 ?_
     repeat ((first | (refine plan_take (v := ?_) rfl rfl (fun W hW => ?_) ?_; rotate_left; (focus (skip; go_simp; first | exact rfl | (split <;> first | exact rfl | (exfalso; omega)) | done))) | refine plan_skip rfl rfl ?_); simp only [puts])
     refine plan_met ?_
     exact ⟨_, _, rfl, HT.out.1, HT.out.2⟩
  ·intro K hK
   go_wp2
   have e60 := ed.alloc (.cells #[.int .i64 0, .int .i64 0] 24)
   have n60 := ZS.new wd
   obtain ⟨w60, hw60⟩ : ∃ W, W = wd.alloc (.cells #[.int .i64 0, .int .i64 0] 24) := ⟨_, rfl⟩
   have h60 : Ext wd w60 := by rw [hw60]; exact (Ext.refl _).alloc _
   rw [← hw60] at e60 n60 ⊢
   clear hw60
   refine hK _ _ e60 ?_
   refine plan_two rfl rfl ?_ ?_
   ·intro K hK
    go_wp2_with (first | (go_at_call 87; refine (R87.out _ (HWr.out.trans e60)).mono ?_; rintro e w61 ⟨rfl, h61⟩))
    have e61 := e60.trans h61
    have z7_61 := n60.ext h61
    refine hK _ _ e61 ?_
    refine plan_two rfl rfl ?_ ?_
    ·intro K hK
     go_wp2_with (first | (go_at_call 120; refine (R120.out _).mono ?_; rintro e w62 ⟨rfl, h62⟩))
     have e62 := e61.trans h62
     have z7_62 := z7_61.ext h62
     refine hK _ _ e62 ?_
     refine plan_two rfl rfl ?_ ?_
     ·intro K hK
      go_wp2_with (first | (go_at_call 75; refine (R75.out _ (HWr.out.trans e62)).mono ?_; rintro e w63 ⟨rfl, rfl⟩))
      refine hK _ _ e62 ?_
      refine plan_walk rfl ?_; intro K hK
      go_wp2
      have e64 := e62.alloc (.cells #[.int .i64 0, .int .i64 0] 24)
      have n64 := ZS.new w62
      have lt_64 := World.block_lt_of_cell? _ _ z7_62.c0
      obtain ⟨w64, hw64⟩ : ∃ W, W = w62.alloc (.cells #[.int .i64 0, .int .i64 0] 24) := ⟨_, rfl⟩
      have h64 : Ext w62 w64 := by rw [hw64]; exact (Ext.refl _).alloc _
      rw [← hw64] at e64 n64 ⊢
      clear hw64
      have z7_64 := z7_62.ext h64
      refine hK _ _ e64 ?_
      refine plan_walk rfl ?_; intro K hK
      have s7 := ed.size
      have s8 := e62.size
      have hne : ¬ wd.heap.size = w62.heap.size := by (try simp only at lt_64); omega
      have hne2 : ¬ w62.heap.size = wd.heap.size := by omega
      have hT := two_spans z7_64 n64 hne e64 (by omega) (by omega) L H BL BH
      have HT := Lib.hid hT
      clear hT
      have a0 := z7_64.c0; have a1 := z7_64.c1; have f0 := z7_64.f0; have f1 := z7_64.f1; have a2 := n64.c0; have a3 := n64.c1; have f2 := n64.f0; have f3 := n64.f1
      go_wp2
      refine hK _ _ (ext_set (ext_set e64 (by omega)) (by omega)) ?_
      refine plan_walk rfl ?_; intro K hK
      go_wp2
      refine hK _ _ HT.out.1 ?_
      repeat ((first | (refine plan_take (v := ?_) rfl rfl (fun W hW => ?_) ?_; rotate_left; (focus (skip; go_simp; first | exact rfl | (split <;> first | exact rfl | (exfalso; omega)) | done))) | refine plan_skip rfl rfl ?_); simp only [puts])
      refine plan_met ?_
      exact ⟨_, _, rfl, HT.out.1, HT.out.2⟩
     ·intro K hK
      go_wp2
      have e67 := e62.alloc (.cells #[.int .i64 0, .int .i64 0] 24)
      have n67 := ZS.new w62
      have lt_67 := World.block_lt_of_cell? _ _ z7_62.c0
      obtain ⟨w67, hw67⟩ : ∃ W, W = w62.alloc (.cells #[.int .i64 0, .int .i64 0] 24) := ⟨_, rfl⟩
      have h67 : Ext w62 w67 := by rw [hw67]; exact (Ext.refl _).alloc _
      rw [← hw67] at e67 n67 ⊢
      clear hw67
      have z7_67 := z7_62.ext h67
      refine hK _ _ e67 ?_
      refine plan_walk rfl ?_; intro K hK
      go_wp2_with (first | (go_at_call 75; refine (R75.out _ (HWr.out.trans e67)).mono ?_; rintro e w68 ⟨rfl, rfl⟩))
      refine hK _ _ e67 ?_
      refine plan_walk rfl ?_; intro K hK
      have s7 := ed.size
      have s8 := e62.size
      have hne : ¬ wd.heap.size = w62.heap.size := by (try simp only at lt_67); omega
      have hne2 : ¬ w62.heap.size = wd.heap.size := by omega
      have hT := two_spans z7_67 n67 hne e67 (by omega) (by omega) L H BL BH
      have HT := Lib.hid hT
      clear hT
      have a0 := z7_67.c0; have a1 := z7_67.c1; have f0 := z7_67.f0; have f1 := z7_67.f1; have a2 := n67.c0; have a3 := n67.c1; have f2 := n67.f0; have f3 := n67.f1
      go_wp2
      refine hK _ _ (ext_set (ext_set e67 (by omega)) (by omega)) ?_
      refine plan_walk rfl ?_; intro K hK
      go_wp2
      refine hK _ _ HT.out.1 ?_
      repeat ((first | (refine plan_take (v := ?_) rfl rfl (fun W hW => ?_) ?_; rotate_left; (focus (skip; go_simp; first | exact rfl | (split <;> first | exact rfl | (exfalso; omega)) | done))) | refine plan_skip rfl rfl ?_); simp only [puts])
      refine plan_met ?_
      exact ⟨_, _, rfl, HT.out.1, HT.out.2⟩
    ·intro K hK
     go_wp2
     have e71 := e61.alloc (.cells #[.int .i64 0, .int .i64 0] 24)
     have n71 := ZS.new w61
     have lt_71 := World.block_lt_of_cell? _ _ z7_61.c0
     obtain ⟨w71, hw71⟩ : ∃ W, W = w61.alloc (.cells #[.int .i64 0, .int .i64 0] 24) := ⟨_, rfl⟩
     have h71 : Ext w61 w71 := by rw [hw71]; exact (Ext.refl _).alloc _
     rw [← hw71] at e71 n71 ⊢
     clear hw71
     have z7_71 := z7_61.ext h71
     refine hK _ _ e71 ?_
     refine plan_walk rfl ?_; intro K hK
     go_wp2_with (first | (go_at_call 120; refine (R120.out _).mono ?_; rintro e w72 ⟨rfl, h72⟩))
     have e72 := e71.trans h72
     have z7_72 := z7_71.ext h72
     have z8_72 := n71.ext h72
     refine hK _ _ e72 ?_
     refine plan_walk rfl ?_; intro K hK
     go_wp2_with (first | (go_at_call 75; refine (R75.out _ (HWr.out.trans e72)).mono ?_; rintro e w73 ⟨rfl, rfl⟩))
     refine hK _ _ e72 ?_
     refine plan_walk rfl ?_; intro K hK
     have s7 := ed.size
     have s8 := e61.size
     have hne : ¬ wd.heap.size = w61.heap.size := by (try simp only at lt_71); omega
     have hne2 : ¬ w61.heap.size = wd.heap.size := by omega
     have hT := two_spans z7_72 z8_72 hne e72 (by omega) (by omega) L H BL BH
     have HT := Lib.hid hT
     clear hT
     have a0 := z7_72.c0; have a1 := z7_72.c1; have f0 := z7_72.f0; have f1 := z7_72.f1; have a2 := z8_72.c0; have a3 := z8_72.c1; have f2 := z8_72.f0; have f3 := z8_72.f1
     go_wp2
     refine hK _ _ (ext_set (ext_set e72 (by omega)) (by omega)) ?_
     refine plan_walk rfl ?_; intro K hK
     go_wp2
     refine hK _ _ HT.out.1 ?_
     repeat ((first | (refine plan_take (v := ?_) rfl rfl (fun W hW => ?_) ?_; rotate_left; (focus (skip; go_simp; first | exact rfl | (split <;> first | exact rfl | (exfalso; omega)) | done))) | refine plan_skip rfl rfl ?_); simp only [puts])
     refine plan_met ?_
     exact ⟨_, _, rfl, HT.out.1, HT.out.2⟩
   ·intro K hK
    go_wp2
    have e76 := e60.alloc (.cells #[.int .i64 0, .int .i64 0] 24)
    have n76 := ZS.new w60
    have lt_76 := World.block_lt_of_cell? _ _ n60.c0
    obtain ⟨w76, hw76⟩ : ∃ W, W = w60.alloc (.cells #[.int .i64 0, .int .i64 0] 24) := ⟨_, rfl⟩
    have h76 : Ext w60 w76 := by rw [hw76]; exact (Ext.refl _).alloc _
    rw [← hw76] at e76 n76 ⊢
    clear hw76
    have z7_76 := n60.ext h76
    refine hK _ _ e76 ?_
    refine plan_walk rfl ?_; intro K hK
    go_wp2_with (first | (go_at_call 87; refine (R87.out _ (HWr.out.trans e76)).mono ?_; rintro e w77 ⟨rfl, h77⟩))
    have e77 := e76.trans h77
    have z7_77 := z7_76.ext h77
    have z8_77 := n76.ext h77
    refine hK _ _ e77 ?_
    refine plan_walk rfl ?_; intro K hK
    go_wp2_with (first | (go_at_call 120; refine (R120.out _).mono ?_; rintro e w78 ⟨rfl, h78⟩))
    have e78 := e77.trans h78
    have z7_78 := z7_77.ext h78
    have z8_78 := z8_77.ext h78
    refine hK _ _ e78 ?_
    refine plan_walk rfl ?_; intro K hK
    go_wp2_with (first | (go_at_call 75; refine (R75.out _ (HWr.out.trans e78)).mono ?_; rintro e w79 ⟨rfl, rfl⟩))
    refine hK _ _ e78 ?_
    refine plan_walk rfl ?_; intro K hK
    have s7 := ed.size
    have s8 := e60.size
    have hne : ¬ wd.heap.size = w60.heap.size := by (try simp only at lt_76); omega
    have hne2 : ¬ w60.heap.size = wd.heap.size := by omega
    have hT := two_spans z7_78 z8_78 hne e78 (by omega) (by omega) L H BL BH
    have HT := Lib.hid hT
    clear hT
    have a0 := z7_78.c0; have a1 := z7_78.c1; have f0 := z7_78.f0; have f1 := z7_78.f1; have a2 := z8_78.c0; have a3 := z8_78.c1; have f2 := z8_78.f0; have f3 := z8_78.f1
    go_wp2
    refine hK _ _ (ext_set (ext_set e78 (by omega)) (by omega)) ?_
    refine plan_walk rfl ?_; intro K hK
    go_wp2
    refine hK _ _ HT.out.1 ?_
    repeat ((first | (refine plan_take (v := ?_) rfl rfl (fun W hW => ?_) ?_; rotate_left; (focus (skip; go_simp; first | exact rfl | (split <;> first | exact rfl | (exfalso; omega)) | done))) | refine plan_skip rfl rfl ?_); simp only [puts])
    refine plan_met ?_
    exact ⟨_, _, rfl, HT.out.1, HT.out.2⟩
  ·intro K hK
   go_wp2
   have e82 := ed.alloc (.cells #[.int .i64 0, .int .i64 0] 24)
   have n82 := ZS.new wd
   obtain ⟨w82, hw82⟩ : ∃ W, W = wd.alloc (.cells #[.int .i64 0, .int .i64 0] 24) := ⟨_, rfl⟩
   have h82 : Ext wd w82 := by rw [hw82]; exact (Ext.refl _).alloc _
   rw [← hw82] at e82 n82 ⊢
   clear hw82
   refine hK _ _ e82 ?_
   refine plan_two rfl rfl ?_ ?_
   ·intro K hK
    go_wp2_with (first | (go_at_call 87; refine (R87.out _ (HWr.out.trans e82)).mono ?_; rintro e w83 ⟨rfl, h83⟩))
    have e83 := e82.trans h83
    have z8_83 := n82.ext h83
    refine hK _ _ e83 ?_
    refine plan_two rfl rfl ?_ ?_
    ·intro K hK
     go_wp2_with (first | (go_at_call 120; refine (R120.out _).mono ?_; rintro e w84 ⟨rfl, h84⟩))
     have e84 := e83.trans h84
     have z8_84 := z8_83.ext h84
     refine hK _ _ e84 ?_
     refine plan_two rfl rfl ?_ ?_
     ·intro K hK
      go_wp2_with (first | (go_at_call 75; refine (R75.out _ (HWr.out.trans e84)).mono ?_; rintro e w85 ⟨rfl, rfl⟩))
      refine hK _ _ e84 ?_
      refine plan_walk rfl ?_; intro K hK
      go_wp2
      have e86 := e84.alloc (.cells #[.int .i64 0, .int .i64 0] 24)
      have n86 := ZS.new w84
      have lt_86 := World.block_lt_of_cell? _ _ z8_84.c0
      obtain ⟨w86, hw86⟩ : ∃ W, W = w84.alloc (.cells #[.int .i64 0, .int .i64 0] 24) := ⟨_, rfl⟩
      have h86 : Ext w84 w86 := by rw [hw86]; exact (Ext.refl _).alloc _
      rw [← hw86] at e86 n86 ⊢
      clear hw86
      have z8_86 := z8_84.ext h86
      refine hK _ _ e86 ?_
      refine plan_walk rfl ?_; intro K hK
      have s7 := e84.size
      have s8 := ed.size
      have hne : ¬ w84.heap.size = wd.heap.size := by (try simp only at lt_86); omega
      have hne2 : ¬ wd.heap.size = w84.heap.size := by omega
      have hT := two_spans n86 z8_86 hne e86 (by omega) (by omega) L H BL BH
      have HT := Lib.hid hT
      clear hT
      have a0 := n86.c0; have a1 := n86.c1; have f0 := n86.f0; have f1 := n86.f1; have a2 := z8_86.c0; have a3 := z8_86.c1; have f2 := z8_86.f0; have f3 := z8_86.f1
      go_wp2
      refine hK _ _ (ext_set (ext_set e86 (by omega)) (by omega)) ?_
      refine plan_walk rfl ?_; intro K hK
      go_wp2
      refine hK _ _ HT.out.1 ?_
      repeat ((first | (refine plan_take (v := ?_) rfl rfl (fun W hW => ?_) ?_; rotate_left; (focus (skip; go_simp; first | exact rfl | (split <;> first | exact rfl | (exfalso; omega)) | done))) | refine plan_skip rfl rfl ?_); simp only [puts])
      refine plan_met ?_
      exact ⟨_, _, rfl, HT.out.1, HT.out.2⟩
     ·intro K hK
      go_wp2
      have e89 := e84.alloc (.cells #[.int .i64 0, .int .i64 0] 24)
      have n89 := ZS.new w84
      have lt_89 := World.block_lt_of_cell? _ _ z8_84.c0
      obtain ⟨w89, hw89⟩ : ∃ W, W = w84.alloc (.cells #[.int .i64 0, .int .i64 0] 24) := ⟨_, rfl⟩
      have h89 : Ext w84 w89 := by rw [hw89]; exact (Ext.refl _).alloc _
      rw [← hw89] at e89 n89 ⊢
      clear hw89
      have z8_89 := z8_84.ext h89
      refine hK _ _ e89 ?_
      refine plan_walk rfl ?_; intro K hK
      go_wp2_with (first | (go_at_call 75; refine (R75.out _ (HWr.out.trans e89)).mono ?_; rintro e w90 ⟨rfl, rfl⟩))
      refine hK _ _ e89 ?_
      refine plan_walk rfl ?_; intro K hK
      have s7 := e84.size
      have s8 := ed.size
      have hne : ¬ w84.heap.size = wd.heap.size := by (try simp only at lt_89); omega
      have hne2 : ¬ wd.heap.size = w84.heap.size := by omega
      have hT := two_spans n89 z8_89 hne e89 (by omega) (by omega) L H BL BH
      have HT := Lib.hid hT
      clear hT
      have a0 := n89.c0; have a1 := n89.c1; have f0 := n89.f0; have f1 := n89.f1; have a2 := z8_89.c0; have a3 := z8_89.c1; have f2 := z8_89.f0; have f3 := z8_89.f1
      go_wp2
      refine hK _ _ (ext_set (ext_set e89 (by omega)) (by omega)) ?_
      refine plan_walk rfl ?_; intro K hK
      go_wp2
      refine hK _ _ HT.out.1 ?_
      repeat ((first | (refine plan_take (v := ?_) rfl rfl (fun W hW => ?_) ?_; rotate_left; (focus (skip; go_simp; first | exact rfl | (split <;> first | exact rfl | (exfalso; omega)) | done))) | refine plan_skip rfl rfl ?_); simp only [puts])
      refine plan_met ?_
      exact ⟨_, _, rfl, HT.out.1, HT.out.2⟩
    ·intro K hK
     go_wp2
     have e93 := e83.alloc (.cells #[.int .i64 0, .int .i64 0] 24)
     have n93 := ZS.new w83
     have lt_93 := World.block_lt_of_cell? _ _ z8_83.c0
     obtain ⟨w93, hw93⟩ : ∃ W, W = w83.alloc (.cells #[.int .i64 0, .int .i64 0] 24) := ⟨_, rfl⟩
     have h93 : Ext w83 w93 := by rw [hw93]; exact (Ext.refl _).alloc _
     rw [← hw93] at e93 n93 ⊢
     clear hw93
     have z8_93 := z8_83.ext h93
     refine hK _ _ e93 ?_
     refine plan_walk rfl ?_; intro K hK
     go_wp2_with (first | (go_at_call 120; refine (R120.out _).mono ?_; rintro e w94 ⟨rfl, h94⟩))
     have e94 := e93.trans h94
     have z7_94 := n93.ext h94
     have z8_94 := z8_93.ext h94
     refine hK _ _ e94 ?_
     refine plan_walk rfl ?_; intro K hK
     go_wp2_with (first | (go_at_call 75; refine (R75.out _ (HWr.out.trans e94)).mono ?_; rintro e w95 ⟨rfl, rfl⟩))
     refine hK _ _ e94 ?_
     refine plan_walk rfl ?_; intro K hK
     have s7 := e83.size
     have s8 := ed.size
     have hne : ¬ w83.heap.size = wd.heap.size := by (try simp only at lt_93); omega
     have hne2 : ¬ wd.heap.size = w83.heap.size := by omega
     have hT := two_spans z7_94 z8_94 hne e94 (by omega) (by omega) L H BL BH
     have HT := Lib.hid hT
     clear hT
     have a0 := z7_94.c0; have a1 := z7_94.c1; have f0 := z7_94.f0; have f1 := z7_94.f1; have a2 := z8_94.c0; have a3 := z8_94.c1; have f2 := z8_94.f0; have f3 := z8_94.f1
     go_wp2
     refine hK _ _ (ext_set (ext_set e94 (by omega)) (by omega)) ?_
     refine plan_walk rfl ?_; intro K hK
     go_wp2
     refine hK _ _ HT.out.1 ?_
     repeat ((first | (refine plan_take (v := ?_) rfl rfl (fun W hW => ?_) ?_; rotate_left; (focus (skip; go_simp; first | exact rfl | (split <;> first | exact rfl | (exfalso; omega)) | done))) | refine plan_skip rfl rfl ?_); simp only [puts])
     refine plan_met ?_
     exact ⟨_, _, rfl, HT.out.1, HT.out.2⟩
   ·intro K hK
    go_wp2
    have e98 := e82.alloc (.cells #[.int .i64 0, .int .i64 0] 24)
    have n98 := ZS.new w82
    have lt_98 := World.block_lt_of_cell? _ _ n82.c0
    obtain ⟨w98, hw98⟩ : ∃ W, W = w82.alloc (.cells #[.int .i64 0, .int .i64 0] 24) := ⟨_, rfl⟩
    have h98 : Ext w82 w98 := by rw [hw98]; exact (Ext.refl _).alloc _
    rw [← hw98] at e98 n98 ⊢
    clear hw98
    have z8_98 := n82.ext h98
    refine hK _ _ e98 ?_
    refine plan_walk rfl ?_; intro K hK
    go_wp2_with (first | (go_at_call 87; refine (R87.out _ (HWr.out.trans e98)).mono ?_; rintro e w99 ⟨rfl, h99⟩))
    have e99 := e98.trans h99
    have z7_99 := n98.ext h99
    have z8_99 := z8_98.ext h99
    refine hK _ _ e99 ?_
    refine plan_walk rfl ?_; intro K hK
    go_wp2_with (first | (go_at_call 120; refine (R120.out _).mono ?_; rintro e w100 ⟨rfl, h100⟩))
    have e100 := e99.trans h100
    have z7_100 := z7_99.ext h100
    have z8_100 := z8_99.ext h100
    refine hK _ _ e100 ?_
    refine plan_walk rfl ?_; intro K hK
    go_wp2_with (first | (go_at_call 75; refine (R75.out _ (HWr.out.trans e100)).mono ?_; rintro e w101 ⟨rfl, rfl⟩))
    refine hK _ _ e100 ?_
    refine plan_walk rfl ?_; intro K hK
    have s7 := e82.size
    have s8 := ed.size
    have hne : ¬ w82.heap.size = wd.heap.size := by (try simp only at lt_98); omega
    have hne2 : ¬ wd.heap.size = w82.heap.size := by omega
    have hT := two_spans z7_100 z8_100 hne e100 (by omega) (by omega) L H BL BH
    have HT := Lib.hid hT
    clear hT
    have a0 := z7_100.c0; have a1 := z7_100.c1; have f0 := z7_100.f0; have f1 := z7_100.f1; have a2 := z8_100.c0; have a3 := z8_100.c1; have f2 := z8_100.f0; have f3 := z8_100.f1
    go_wp2
    refine hK _ _ (ext_set (ext_set e100 (by omega)) (by omega)) ?_
    refine plan_walk rfl ?_; intro K hK
    go_wp2
    refine hK _ _ HT.out.1 ?_
    repeat ((first | (refine plan_take (v := ?_) rfl rfl (fun W hW => ?_) ?_; rotate_left; (focus (skip; go_simp; first | exact rfl | (split <;> first | exact rfl | (exfalso; omega)) | done))) | refine plan_skip rfl rfl ?_); simp only [puts])
    refine plan_met ?_
    exact ⟨_, _, rfl, HT.out.1, HT.out.2⟩
 ·intro a' w4 ⟨q7, q8, ha', hE, F7, F8⟩
  subst ha'
  simp only [puts]
  have a0 := F7.c0
  have a1 := F7.c1
  have a2 := F8.c0
  have a3 := F8.c1
  have HE := Lib.hid (HWr.out.trans hE)
  have m1 := Nat.mul_le_mul hs8 hB1
  have m2 := Nat.mul_le_mul hs8 hB2
  have i1 : ((N * BL : Nat) : Int) = (N : Int) * (BL : Int) := Int.natCast_mul N BL
  have i2 : ((N * BH : Nat) : Int) = (N : Int) * (BH : Int) := Int.natCast_mul N BH
  have q1 : IntKind.i64.wrap ((N : Int) * (BL : Int)) = ((N * BL : Nat) : Int) := by rw [← i1, IntWalk.i64_in _ (by omega)]
  have q2 : IntKind.i64.wrap ((N : Int) * (BH : Int)) = ((N * BH : Nat) : Int) := by rw [← i2, IntWalk.i64_in _ (by omega)]
  clear i1 i2 F7 F8 hE
  generalize N * BL = X at *
  generalize N * BH = Y at *
  have q3 : IntKind.i64.wrap ((H : Int) - (X : Int)) = (H : Int) - (X : Int) := by rw [IntWalk.i64_in _ (by omega)]
  have q4 : IntKind.i64.wrap ((Y : Int) - (L : Int)) = (Y : Int) - (L : Int) := by rw [IntWalk.i64_in _ (by omega)]
  go_wp2
  all_goals go_ret
  all_goals exact ⟨ret_int (by first | (rw [hfar.out]; done) | (rw [hfar.out]; omega)), HE.out⟩

end Go.Proofs.YtjpekonfjihcoaaGreatDoor
/- A sheet with a mixture in a box; the greatest gap so far. No condition. -/
namespace Go.Proofs.YtjpekonfjihcoaaGreatDoor
open Go.RowKit Go.My Go.TintM

/-- A box that holds a sheet with a mixture. -/
def PotBox (W : World) (b : Nat) (s : Sh) (ot : Option Addr) (cap : Nat) (om : Option Addr) (n cm : Nat) : Prop :=
 ∀ (i : Nat) (v : Value), (potC s ot cap om n cm)[i]? = some v → W.cell? ⟨b, i, none⟩ = some v
theorem PotBox.new (w : World) (s : Sh) (ot : Option Addr) (cap : Nat) (om : Option Addr) (n cm : Nat) : PotBox (w.alloc (.cells (potC s ot cap om n cm) 108)) w.heap.size s ot cap om n cm :=
 fun i v hv => by rw [cell_of_row _ _ i _ _ _ (heap_alloc_new w _)]; exact hv
theorem PotBox.ext {W W' : World} {b : Nat} {s : Sh} {ot : Option Addr} {cap : Nat} {om : Option Addr} {n cm : Nat} (h : PotBox W b s ot cap om n cm) (hE : Ext W W') : PotBox W' b s ot cap om n cm :=
 fun i v hv => cell_ext hE (h i v hv)
theorem PotBox.turned {W W' : World} {b q : Nat} {s : Sh} {ot : Option Addr} {cap : Nat} {om : Option Addr} {n cm : Nat} (h : PotBox W b s ot cap om n cm) (hT : Turned q W W') (hne : b ≠ q) : PotBox W' b s ot cap om n cm :=
 fun i v hv => Turned.cell hT (by simpa using hne) (h i v hv)

/-! the gaps stay small -/
theorem far_small {s : Sh} (g : Fine s) {m : List Nat} (hm : IsMix s m) {p y : Nat} (hp : p < 3) : -4000 ≤ far s m p y ∧ far s m p y ≤ 4000 := by
 have h1 := high_small g hm hp
 rw [hm.len] at h1
 have h2 := g.len2
 have h3 := low_high g hm.len hp
 have h4 := Nat.mul_le_mul hm.sum (Nat.le_trans (left_le (s.old p) y (s.fhi p)) (g.old p hp))
 have h5 := Nat.mul_le_mul hm.sum (Nat.le_trans (left_le (s.old p) y (s.flo p)) (g.old p hp))
 simp only [far, hiGap, loGap]
 omega
theorem ceil_small {a : Int} {b : Nat} (hb : 1 ≤ b) (hb8 : b ≤ 8) (ha : -4000 ≤ a ∧ a ≤ 4000) : -5000 ≤ ceilD a b ∧ ceilD a b ≤ 5000 := by
 have h0 : ((a + (b : Int) - 1).tdiv b).natAbs ≤ (a + (b : Int) - 1).natAbs := by
  rw [Int.natAbs_tdiv]; exact Nat.div_le_self _ _
 simp only [ceilD]
 omega

/-- The greatest gap of the first i years, and of p pigments of the next one. -/
def row3 (s : Sh) (i : Nat) : List (Nat × Nat) := [(s.ylo + i, 0), (s.ylo + i, 1), (s.ylo + i, 2)]
def offTo (s : Sh) (m : List Nat) (i p : Nat) : Int := mx ((((List.range i).flatMap (row3 s)) ++ (row3 s i).take p).map fun x => ceilD (far s m x.2 x.1) m.sum)
theorem offTo_zero (s : Sh) (m : List Nat) : offTo s m 0 0 = 0 := by simp [offTo, mx]
theorem offTo_p (s : Sh) (m : List Nat) (i : Nat) {p : Nat} (hp : p < 3) : offTo s m i (p + 1) = max (offTo s m i p) (ceilD (far s m p (s.ylo + i)) m.sum) := by
 have : (row3 s i).take (p + 1) = (row3 s i).take p ++ [(s.ylo + i, p)] := by
  match p, hp with
  | 0, _ => rfl
  | 1, _ => rfl
  | 2, _ => rfl
 rw [offTo, this, ← List.append_assoc, List.map_append, List.map_singleton, mx_snoc, ← offTo]
theorem offTo_y (s : Sh) (m : List Nat) (i : Nat) : offTo s m (i + 1) 0 = offTo s m i 3 := by
 rw [offTo, offTo, List.range_succ, List.flatMap_append]
 simp [row3]
theorem offTo_end (s : Sh) (m : List Nat) : offTo s m (s.yhi + 1 - s.ylo) 0 = offOf s m := by
 rw [offTo, List.take_zero, List.append_nil]; rfl
theorem offTo_pos (s : Sh) (m : List Nat) (i p : Nat) : 0 ≤ offTo s m i p := mx_pos _

end Go.Proofs.YtjpekonfjihcoaaGreatDoor
/- Contract: may. No condition beyond sheets and mixtures as defined. -/
namespace Go.Proofs.YtjpekonfjihcoaaGreatDoor
open Go.RowKit Go.My Go.TintM

theorem one_span {W wr : World} {q7 : Nat} (h7 : ZS W q7) (hE : Ext wr W) (l7 : wr.heap.size ≤ q7) (a b : Nat) :
  Ext wr ((W.setCell ⟨q7, 0, none⟩ (.int .i64 a)).setCell ⟨q7, 1, none⟩ (.int .i64 b)) ∧
   FS ((W.setCell ⟨q7, 0, none⟩ (.int .i64 a)).setCell ⟨q7, 1, none⟩ (.int .i64 b)) q7 a b := by
 obtain ⟨a0, a1, _, _⟩ := h7
 exact ⟨ext_set (ext_set hE l7) l7, ⟨by go_simp, by go_simp⟩⟩
theorem pot_sheet {s : Sh} {ot : Option Addr} {cap q : Nat} {om : Option Addr} {n cm : Nat} {W : World} (h : PotBox W q s ot cap om n cm) : ∀ (i : Nat) (v : Value), (sheetC (ofSh s) ot cap)[i]? = some v → W.cell? ⟨q, i, none⟩ = some v := fun i v hv => by
 have hi13 : i < 13 := by have := (Array.getElem?_eq_some_iff.1 hv).1; simpa using this
 match i, hi13 with
 | 0, _ => cases hv; exact h 0 _ rfl
 | 1, _ => cases hv; exact h 1 _ rfl
 | 2, _ => cases hv; exact h 2 _ rfl
 | 3, _ => cases hv; exact h 3 _ rfl
 | 4, _ => cases hv; exact h 4 _ rfl
 | 5, _ => cases hv; exact h 5 _ rfl
 | 6, _ => cases hv; exact h 6 _ rfl
 | 7, _ => cases hv; exact h 7 _ rfl
 | 8, _ => cases hv; exact h 8 _ rfl
 | 9, _ => cases hv; exact h 9 _ rfl
 | 10, _ => cases hv; exact h 10 _ rfl
 | 11, _ => cases hv; exact h 11 _ rfl
 | 12, _ => cases hv; exact h 12 _ rfl
/-- No fade so far. -/
theorem may_no {s : Sh} {m : List Nat} {p y k : Nat} (hk : s.fhi p + 1 - s.flo p ≤ k) (h : ∀ j, j < k → canF s m p y (s.flo p + j) = false) : may s m p y = false := by
 rw [may, List.any_eq_false]
 intro j hj
 rw [h j (by have := List.mem_range.1 hj; omega)]; simp
theorem may_yes {s : Sh} {m : List Nat} {p y k : Nat} (hk : k < s.fhi p + 1 - s.flo p) (h : canF s m p y (s.flo p + k) = true) : may s m p y = true := by
 rw [may, List.any_eq_true]
 exact ⟨k, List.mem_range.2 hk, h⟩

theorem may_any (s : Sh) (g : Fine s) (m : List Nat) (hm : IsMix s m) (ot : Option Addr) (cap : Nat) (om : Option Addr) (cm p y : Nat) (hp : p < 3) (hy : y ≤ 20) (w : World) (h : TinsAt w ot (ofSh s).tins) (hi : IntsAt w om (upL m)) :
  Calls Tryz.prog 119 #[potV s ot cap om m.length cm, .int .i64 p, .int .i64 y] w fun e w' => e = .returned (.bool (may s m p y)) ∧ Ext w w' := by
 have hm8 : ∀ x ∈ upL m, 0 ≤ x ∧ x ≤ 10000 := fun x hx => by
  obtain ⟨n, hn, rfl⟩ := List.mem_map.1 hx
  have := hm.le n hn; omega
 have hml : (upL m).length ≤ 1000 := by rw [upL_length, hm.len]; have := g.len2; omega
 have R87 := Lib.hid (fun W (hW : Ext w W) => has_any s g m hm ot cap om cm p hp W (h.ext hW) (hi.ext hW))
 have R75 := Lib.hid (fun W (hW : Ext w W) => sumB_any (upL m) om cm W (hi.ext hW) hml hm8)
 rw [upL_length, sum_up] at R75
 have ho := g.old p hp
 have hf1 := g.flo p hp
 have hf2 := g.fhi p hp
 have hoff := g.off2
 have R78 := Lib.hid (fun f (hf : f ≤ 9) W => left_any (s.old p) y f ho hy hf W)
 have Hno := Lib.hid (fun k (hk : s.fhi p + 1 - s.flo p ≤ k) (hh : ∀ j, j < k → canF s m p y (s.flo p + j) = false) => may_no hk hh)
 have Hyes := Lib.hid (fun k (hk : k < s.fhi p + 1 - s.flo p) (hh : canF s m p y (s.flo p + k) = true) => may_yes hk hh)
 have Hcan := Lib.hid (fun f => (show canF s m p y f = (decide (lowS s m p ≤ m.sum * left (s.old p) y f + m.sum * s.off) && decide (m.sum * left (s.old p) y f ≤ highS s m p + m.sum * s.off)) from rfl))
 have hhi := high_small g hm hp
 rw [hm.len] at hhi
 have hl4 := g.len2
 have hlow : lowS s m p ≤ highS s m p := low_high g hm.len hp
 have hs8 := hm.sum
 have hso := Nat.mul_le_mul hm.sum g.off2
 have Hle := Lib.hid (fun f => Nat.mul_le_mul hm.sum (Nat.le_trans (left_le (s.old p) y f) ho))
 clear h hi hm8 hml hm g
 generalize lowS s m p = L at *
 generalize highS s m p = H at *
 generalize m.sum = N at *
 go_enter Tryz.func119, Tryz.ntmps119
 go_wp2_with fail
 obtain ⟨wr, hwr⟩ : ∃ wr, wr = w.alloc (.cells (potC s ot cap om m.length cm) 108) := ⟨_, rfl⟩
 have HWr := Lib.hid (show Ext w wr by rw [hwr]; exact (Ext.refl w).alloc _)
 have HP := Lib.hid (show PotBox wr w.heap.size s ot cap om m.length cm by rw [hwr]; exact PotBox.new _ _ _ _ _ _ _)
 have c0 := HP.out 0 _ rfl
 have c1 := HP.out 1 _ rfl
 have c2 := HP.out 2 _ rfl
 have c3 := HP.out 3 _ rfl
 have c4 := HP.out 4 _ rfl
 have c5 := HP.out 5 _ rfl
 have c6 := HP.out 6 _ rfl
 have c7 := HP.out 7 _ rfl
 have c8 := HP.out 8 _ rfl
 have c9 := HP.out 9 _ rfl
 have c10 := HP.out 10 _ rfl
 have c11 := HP.out 11 _ rfl
 have c12 := HP.out 12 _ rfl
 have c13 : wr.cell? ⟨w.heap.size, 13, none⟩ = some (.slice om m.length cm) := HP.out 13 _ rfl
 rw [← hwr]
 clear hwr
 refine wp_region_plan (.take 0 <| .take 1 <| .take 3 <| .take 4 <| .two 2 6 (.two 5 6 (.only 6 <| .only 7 <| .take 8 <| .done) (.only 5 <| .only 7 <| .take 8 <| .done)) (.only 2 <| .only 5 <| .only 7 <| .take 8 <| .done)) (fun W => Ext wr W) mixed (by kernel_rfl) (by kernel_rfl) rfl (fun _ _ d _ _ h => by cases d <;> exact h) ((Ext.refl wr).drew) ?_
 repeat ((first | (refine plan_take (v := ?_) rfl rfl (fun W hW => ?_) ?_; rotate_left; (focus (have d0 := cell_ext hW c0; have d1 := cell_ext hW c1; have d2 := cell_ext hW c2; have d3 := cell_ext hW c3; have d4 := cell_ext hW c4; have d5 := cell_ext hW c5; have d6 := cell_ext hW c6; have d7 := cell_ext hW c7; have d8 := cell_ext hW c8; have d9 := cell_ext hW c9; have d10 := cell_ext hW c10; have d11 := cell_ext hW c11; have d12 := cell_ext hW c12; have d13 := cell_ext hW c13; go_simp; first | exact rfl | (split <;> first | exact rfl | (exfalso; omega)) | done))) | refine plan_skip rfl rfl ?_); simp only [puts])
 clear c0 c1 c2 c3 c4 c5 c6 c7 c8 c9 c10 c11 c12 c13
 refine plan_share (fun A a' w' => ∃ (q7 : Nat), a' = ((((A.put (some 14) (spanV L H)).put (some 17) (.int .i64 N)).put (some 7) (.pointer (some ⟨q7, 0, none⟩))).put (some 8) (.int .i64 N)) ∧ Ext wr w' ∧ FS w' q7 L H) ?_ ?_
 ·obtain ⟨wd, hwd⟩ : ∃ wd, wd = wr.drew := ⟨_, rfl⟩
  have ed : Ext wr wd := by rw [hwd]; exact (Ext.refl wr).drew
  rw [← hwd]
  clear hwd
  refine plan_two rfl rfl ?_ ?_
  ·intro K hK
   go_wp2_with (first | (go_at_call 87; refine (R87.out _ (HWr.out.trans ed)).mono ?_; rintro e w1 ⟨rfl, h1⟩))
   have e1 := ed.trans h1
   refine hK _ _ e1 ?_
   refine plan_two rfl rfl ?_ ?_
   ·intro K hK
    go_wp2_with (first | (go_at_call 75; refine (R75.out _ (HWr.out.trans e1)).mono ?_; rintro e w2 ⟨rfl, rfl⟩))
    refine hK _ _ e1 ?_
    refine plan_walk rfl ?_; intro K hK
    go_wp2
    have e3 := e1.alloc (.cells #[.int .i64 0, .int .i64 0] 24)
    have n3 := ZS.new w1
    obtain ⟨w3, hw3⟩ : ∃ W, W = w1.alloc (.cells #[.int .i64 0, .int .i64 0] 24) := ⟨_, rfl⟩
    rw [← hw3] at e3 n3 ⊢
    clear hw3
    have s7 := e1.size
    refine hK _ _ e3 ?_
    refine plan_walk rfl ?_; intro K hK
    have hT := one_span n3 e3 (by omega) L H
    have HT := Lib.hid hT
    clear hT
    have a0 := n3.c0; have a1 := n3.c1; have f0 := n3.f0; have f1 := n3.f1
    go_wp2
    refine hK _ _ HT.out.1 ?_
    repeat ((first | (refine plan_take (v := ?_) rfl rfl (fun W hW => ?_) ?_; rotate_left; (focus (skip; go_simp; first | exact rfl | (split <;> first | exact rfl | (exfalso; omega)) | done))) | refine plan_skip rfl rfl ?_); simp only [puts])
    refine plan_met ?_
    exact ⟨_, rfl, HT.out.1, HT.out.2⟩
   ·intro K hK
    go_wp2
    have e5 := e1.alloc (.cells #[.int .i64 0, .int .i64 0] 24)
    have n5 := ZS.new w1
    obtain ⟨w5, hw5⟩ : ∃ W, W = w1.alloc (.cells #[.int .i64 0, .int .i64 0] 24) := ⟨_, rfl⟩
    rw [← hw5] at e5 n5 ⊢
    clear hw5
    have s7 := e1.size
    refine hK _ _ e5 ?_
    refine plan_walk rfl ?_; intro K hK
    go_wp2_with (first | (go_at_call 75; refine (R75.out _ (HWr.out.trans e5)).mono ?_; rintro e w6 ⟨rfl, rfl⟩))
    refine hK _ _ e5 ?_
    refine plan_walk rfl ?_; intro K hK
    have hT := one_span n5 e5 (by omega) L H
    have HT := Lib.hid hT
    clear hT
    have a0 := n5.c0; have a1 := n5.c1; have f0 := n5.f0; have f1 := n5.f1
    go_wp2
    refine hK _ _ HT.out.1 ?_
    repeat ((first | (refine plan_take (v := ?_) rfl rfl (fun W hW => ?_) ?_; rotate_left; (focus (skip; go_simp; first | exact rfl | (split <;> first | exact rfl | (exfalso; omega)) | done))) | refine plan_skip rfl rfl ?_); simp only [puts])
    refine plan_met ?_
    exact ⟨_, rfl, HT.out.1, HT.out.2⟩
  ·intro K hK
   go_wp2
   have e8 := ed.alloc (.cells #[.int .i64 0, .int .i64 0] 24)
   have n8 := ZS.new wd
   obtain ⟨w8, hw8⟩ : ∃ W, W = wd.alloc (.cells #[.int .i64 0, .int .i64 0] 24) := ⟨_, rfl⟩
   rw [← hw8] at e8 n8 ⊢
   clear hw8
   have s7 := ed.size
   refine hK _ _ e8 ?_
   refine plan_walk rfl ?_; intro K hK
   go_wp2_with (first | (go_at_call 87; refine (R87.out _ (HWr.out.trans e8)).mono ?_; rintro e w9 ⟨rfl, h9⟩))
   have e9 := e8.trans h9
   have z_9 := n8.ext h9
   refine hK _ _ e9 ?_
   refine plan_walk rfl ?_; intro K hK
   go_wp2_with (first | (go_at_call 75; refine (R75.out _ (HWr.out.trans e9)).mono ?_; rintro e w10 ⟨rfl, rfl⟩))
   refine hK _ _ e9 ?_
   refine plan_walk rfl ?_; intro K hK
   have hT := one_span z_9 e9 (by omega) L H
   have HT := Lib.hid hT
   clear hT
   have a0 := z_9.c0; have a1 := z_9.c1; have f0 := z_9.f0; have f1 := z_9.f1
   go_wp2
   refine hK _ _ HT.out.1 ?_
   repeat ((first | (refine plan_take (v := ?_) rfl rfl (fun W hW => ?_) ?_; rotate_left; (focus (skip; go_simp; first | exact rfl | (split <;> first | exact rfl | (exfalso; omega)) | done))) | refine plan_skip rfl rfl ?_); simp only [puts])
   refine plan_met ?_
   exact ⟨_, rfl, HT.out.1, HT.out.2⟩
 ·intro a' w4 ⟨q7, ha', hE, F7⟩
  subst ha'
  simp only [puts]
  have HE := Lib.hid (HWr.out.trans hE)
  have HP4 := Lib.hid (HP.out.ext hE)
  have b1 := (box_fade (pot_sheet HP4.out) hp).1
  have b2 := (box_fade (pot_sheet HP4.out) hp).2
  have HF := Lib.hid F7
  have hpI : (p : Int) < 3 := by omega
  clear HP hE F7 HWr
  generalize hFL : s.flo p = FL at *
  generalize hFH : s.fhi p = FH at *
  have l1 := World.block_lt_of_cell? _ _ b1
  go_wp2
  obtain ⟨w5, hw5⟩ : ∃ W, W = w4.alloc (.cells #[.int .i64 FL, .int .i64 FH] 24) := ⟨_, rfl⟩
  have hX := Lib.hid (show Ext w w5 by rw [hw5]; exact HE.out.alloc _)
  have hX4 : Ext w4 w5 := by rw [hw5]; exact (Ext.refl w4).alloc _
  have e0 : w5.cell? ⟨w4.heap.size, 0, none⟩ = some (.int .i64 FL) := by rw [hw5]; go_simp
  have e1 : w5.cell? ⟨w4.heap.size, 1, none⟩ = some (.int .i64 FH) := by rw [hw5]; go_simp
  have HP5 := Lib.hid (HP4.out.ext hX4)
  have f0 : w5.cell? ⟨q7, 0, none⟩ = some (.int .i64 L) := cell_ext hX4 HF.out.c0
  have f1 : w5.cell? ⟨q7, 1, none⟩ = some (.int .i64 H) := cell_ext hX4 HF.out.c1
  have c11 : w5.cell? ⟨w.heap.size, 11, none⟩ = some (.int .i64 s.off) := HP5.out 11 _ rfl
  have cp : w5.cell? ⟨w.heap.size, p, none⟩ = some (.int .i64 (s.old p)) := box_old (pot_sheet HP5.out) hp
  rw [← hw5]
  clear hw5 hX4 b1 b2 l1 HP4 HP5 HF
  go_loopg [10, 11] (FH + 1 - FL) (fun g n b wr => ∃ k F : Nat, F = FL + k ∧ k + g = FH + 1 - FL ∧ wr = w5 ∧ n = .int .i64 (F : Nat) ∧ ∀ j, j < k → canF s m p y (FL + j) = false)
  case atStart => exact ⟨0, FL, by omega, by omega, rfl, rfl, fun j hj => by omega⟩
  case round =>
   obtain ⟨k, F, hF, hk, rfl, rfl, hno⟩ := hrel
   have HN := Lib.hid hno
   clear hno
   by_cases hlt : k < FH + 1 - FL
   ·have hFle : F ≤ FH := by omega
    have hFi : (F : Int) ≤ (FH : Int) := by omega
    have hFe := Lib.hid hF
    have R := Lib.hid (R78.out F (by omega))
    have hc := Hcan.out F
    have hle := Hle.out F
    generalize left (s.old p) y F = B at *
    have i1 : ((N * B : Nat) : Int) = (N : Int) * (B : Int) := Int.natCast_mul N B
    have i2 : ((N * s.off : Nat) : Int) = (N : Int) * (s.off : Int) := Int.natCast_mul N s.off
    have q1 : IntKind.i64.wrap ((N : Int) * (B : Int)) = ((N * B : Nat) : Int) := by rw [← i1, IntWalk.i64_in _ (by omega)]
    have q2 : IntKind.i64.wrap ((N : Int) * (s.off : Int)) = ((N * s.off : Nat) : Int) := by rw [← i2, IntWalk.i64_in _ (by omega)]
    clear i1 i2
    generalize N * B = X at *
    generalize N * s.off = Z at *
    have q3 : IntKind.i64.wrap ((X : Int) + (Z : Int)) = (X : Int) + (Z : Int) := by rw [IntWalk.i64_in _ (by omega)]
    have q4 : IntKind.i64.wrap ((X : Int) - (Z : Int)) = (X : Int) - (Z : Int) := by rw [IntWalk.i64_in _ (by omega)]
    have q5 : IntKind.i64.wrap ((F : Int) + 1) = (F : Int) + 1 := by rw [IntWalk.i64_in _ (by omega)]
    by_cases h1 : L ≤ X + Z
    ·have h1i : (L : Int) ≤ (X : Int) + (Z : Int) := by omega
     by_cases h2 : X ≤ H + Z
     ·have h2i : (X : Int) - (Z : Int) ≤ (H : Int) := by omega
      have hc1 : canF s m p y (FL + k) = true := by rw [← hF, hc]; simp [h1, h2]
      have hY := Lib.hid (Hyes.out k hlt hc1)
      clear hc hc1 hle hF hlt h1 h2 hFle
      go_wp2_with (first | (go_at_call 78; refine (R.out _).mono ?_; rintro e w6 ⟨rfl, rfl⟩))
      go_ret
      exact ⟨ret_bool hY.out.symm, hX.out⟩
     ·have h2i : ¬ (X : Int) - (Z : Int) ≤ (H : Int) := by omega
      have hc1 := Lib.hid (show canF s m p y (FL + k) = false by rw [← hF, hc]; simp [h1, h2])
      clear hc hle hF h1 h2 hFle
      go_wp2_with (first | (go_at_call 78; refine (R.out _).mono ?_; rintro e w6 ⟨rfl, rfl⟩))
      go_roundg (gk - 1)
      case measure => omega
      case rel => exact ⟨k + 1, F + 1, by have := hFe.out; omega, by omega, rfl, by go_num, fun j hj => by
       rcases Nat.lt_succ_iff_lt_or_eq.1 hj with hj | rfl
       ·exact HN.out j hj
       ·exact hc1.out⟩
    ·have h1i : ¬ (L : Int) ≤ (X : Int) + (Z : Int) := by omega
     have hc1 := Lib.hid (show canF s m p y (FL + k) = false by rw [← hF, hc]; simp [h1])
     clear hc hle hF h1 hFle
     go_wp2_with (first | (go_at_call 78; refine (R.out _).mono ?_; rintro e w6 ⟨rfl, rfl⟩))
     go_roundg (gk - 1)
     case measure => omega
     case rel => exact ⟨k + 1, F + 1, by have := hFe.out; omega, by omega, rfl, by go_num, fun j hj => by
      rcases Nat.lt_succ_iff_lt_or_eq.1 hj with hj | rfl
      ·exact HN.out j hj
      ·exact hc1.out⟩
   ·have hFi : ¬ (F : Int) ≤ (FH : Int) := by omega
    have hN := Lib.hid (Hno.out k (by omega) HN.out)
    clear hF hlt hk
    go_wp2
    go_ret
    exact ⟨ret_bool hN.out.symm, hX.out⟩

end Go.Proofs.YtjpekonfjihcoaaGreatDoor
