/- The walk of StripSeen: it answers true. No condition. -/
import Derived.Test.YtiehfpkcaoeieaaGreatDoorCounted
set_option linter.unusedVariables false
set_option linter.unusedSimpArgs false
namespace Go.Proofs.YtiehfpkcaoeieaaGreatDoor
open Go.RowKit Go.My Go.StripM

/-- The box of a board, and of the board with one spot more (in block q). -/
structure Sn (n : Nat) (ss : List (List Nat)) (s : List Nat) (oa : Option Addr) (cap q : Nat) (o2 : Option Addr) (c2 : Nat) (w W : World) : Prop where
  bx : Bx n ss oa cap w W
  x0 : W.cell? ⟨q, 0, none⟩ = some (.int .i64 n)
  x1 : W.cell? ⟨q, 1, none⟩ = some (.slice o2 (ss.length + 1) c2)
  rows : RowsAt W o2 (upp (ss ++ [s]))
theorem Sn.next {n : Nat} {ss : List (List Nat)} {s : List Nat} {oa : Option Addr} {cap q : Nat} {o2 : Option Addr} {c2 : Nat} {w W W' : World} (h : Sn n ss s oa cap q o2 c2 w W) (hE : Ext W W') : Sn n ss s oa cap q o2 c2 w W' :=
  ⟨h.bx.next hE, cell_ext hE h.x0, cell_ext hE h.x1, h.rows.ext hE⟩
theorem Sn.c0 {n : Nat} {ss : List (List Nat)} {s : List Nat} {oa : Option Addr} {cap q : Nat} {o2 : Option Addr} {c2 : Nat} {w W : World} (h : Sn n ss s oa cap q o2 c2 w W) : W.cell? ⟨w.heap.size, 0, none⟩ = some (.int .i64 n) := h.bx.c0
theorem Sn.c1 {n : Nat} {ss : List (List Nat)} {s : List Nat} {oa : Option Addr} {cap q : Nat} {o2 : Option Addr} {c2 : Nat} {w W : World} (h : Sn n ss s oa cap q o2 c2 w W) : W.cell? ⟨w.heap.size, 1, none⟩ = some (.slice oa ss.length cap) := h.bx.c1

/-- What the walk of StripSeen asks of each call. -/
structure SeenCalls (n : Nat) (ss : List (List Nat)) (s : List Nat) (oa : Option Addr) (cap : Nat) (ob : Option Addr) (cb : Nat) (w : World) (V e : Int) (C X : Nat) : Prop where
  r29 : ∀ W, Bx n ss oa cap w W → Calls Tryz.prog 29 #[.agg #[.int .i64 n, .slice oa ss.length cap]] W fun e w' => e = .returned (.bool true) ∧ Ext W w'
  r41 : ∀ W, Bx n ss oa cap w W → ∀ v : Value, Calls Tryz.prog 41 #[.agg #[.int .i64 n, v], .slice ob s.length cb] W fun e w' => e = .returned (.bool true) ∧ Ext W w'
  r40 : ∀ W, Bx n ss oa cap w W → Calls Tryz.prog 40 #[.agg #[.int .i64 n, .slice oa ss.length cap], .slice ob s.length cb] W fun r w' => r = .returned (.tuple #[.int .i64 V, .int .i64 e]) ∧ Ext W w'
  r25 : ∀ W, Bx n ss oa cap w W → Calls Tryz.prog 25 #[.agg #[.int .i64 n, .slice oa ss.length cap]] W fun e w' => e = .returned (.tuple #[.int .i64 C, .int .i64 0]) ∧ Ext W w'
  rx : ∀ W (o2 : Option Addr) (c2 : Nat), RowsAt W o2 (upp (ss ++ [s])) → Calls Tryz.prog 25 #[.agg #[.int .i64 n, .slice o2 (ss.length + 1) c2]] W fun e w' => e = .returned (.tuple #[.int .i64 X, .int .i64 0]) ∧ Ext W w'
  rk : ∀ W, Bx n ss oa cap w W → Calls Tryz.prog 23 #[] W fun e w' => e = .returned (.bool true) ∧ Ext W w'

set_option maxRecDepth 100000 in
set_option maxHeartbeats 8000000 in
theorem seen_none {n : Nat} {ss : List (List Nat)} {s : List Nat} {oa : Option Addr} {cap : Nat} {ob : Option Addr} {cb : Nat} {w : World} (h : RowsAt w oa (upp ss)) (hsv : IsInts w (.slice ob s.length cb) (up s)) (h6 : ss.length < 6) (hcap : ss.length ≤ cap) (hcm : cap ≤ maxLen) (hoa : oa = none → cap = 0) (hs5 : s.length ≤ 5) (R : SeenCalls n ss s oa cap ob cb w 0 7 0 0) :
    Calls Tryz.prog 8 #[.agg #[.int .i64 n, .slice oa ss.length cap], .slice ob s.length cb] w fun e w' => e = .returned (.bool true) ∧ Ext w w' := by
  have B := Lib.hid (Bx.start (n := n) (cap := cap) h)
  have H := Lib.hid h
  have Hs := Lib.hid hsv
  have Hoa := Lib.hid hoa
  replace R := Lib.hid R
  have T25 := Lib.hid trivial
  have i6 : ¬ (6 : Int) ≤ (ss.length : Int) := by omega
  have j6 : ¬ 6 ≤ ss.length := by omega
  have i7 : ¬ (7 : Int) < (s.length : Int) := by omega
  have j7 : ¬ 7 < s.length := by omega
  clear h hsv hoa
  go_enter Tryz.func8, Tryz.ntmps8
  go_wp2_with (first | (go_at_call 29; refine (R.out.r29 _ B.out).mono ?_; rintro e w9 ⟨rfl, hE9⟩; replace B := Lib.hid (B.out.next hE9); (try clear c0 c1); have c0 := B.out.c0; have c1 := B.out.c1; clear hE9) | (go_at_call 41; refine (R.out.r41 _ B.out _).mono ?_; rintro e wz ⟨rfl, hE9⟩; replace B := Lib.hid (B.out.next hE9); clear hE9 c0 c1; have c0 := B.out.c0; have c1 := B.out.c1; have hlt : w.heap.size < wz.heap.size := World.block_lt_of_cell? wz _ c0; have hne := World.new_ne wz _ c0) | (at_builtin; refine wpList_appRows _ rfl _ _ rfl w ss oa cap rfl rfl H.out (B.out.ext.alloc _) Hoa.out hcap hcm (by omega) ?_; intro v1 w1 hown1 hE3; have Hown1 : Hid (OwnR w1 w.heap.size (wz.heap.size + 1) v1 ss) := Lib.hid (by simpa using hown1); clear hown1) | (at_builtin; refine wpList_appR _ rfl _ _ rfl w.heap.size (wz.heap.size + 1) _ ss rfl (Hown1.out.ext ((Ext.refl w1).alloc _)) w1.heap.size (.slice ob s.length cb) s rfl (by go_simp) (RowE.of_below Hs.out ((B.out.ext.alloc (.cells #[.int .i64 n, .slice oa ss.length cap] 24)).trans (hE3.alloc _)) (Nat.le_refl _)) ?_ ?_ ?_))
  · omega
  · have := hE3.size; simp at this ⊢; omega
  · intro v2 w2 hown2 hBl
    have hX : Ext (wz.alloc (.cells #[.int .i64 n, .slice oa ss.length cap] 24)) w2 := (hE3.alloc (.cells #[.slice ob s.length cb] 27)).below hBl (by simp)
    have hXz := ((Ext.refl wz).alloc (.cells #[.int .i64 n, .slice oa ss.length cap] 24)).trans hX
    have y0 : w2.cell? ⟨wz.heap.size, 0, none⟩ = some (.int .i64 n) := cell_ext hX (by go_simp)
    have y1 : w2.cell? ⟨wz.heap.size, 1, none⟩ = some (.slice oa ss.length cap) := cell_ext hX (by go_simp)
    have f1 : w2.frozen? ⟨wz.heap.size, 1, none⟩ = false := (hX.frozen (by simp)).trans (by go_simp)
    have tg : ∃ c, w2.heap[wz.heap.size]? = some (.cells c 24 (0, 0)) := ⟨_, (hX.block wz.heap.size (by simp)).trans (heap_alloc_new wz _)⟩
    obtain ⟨o2, c2, hv2, _⟩ := hown2.slice
    rw [show (ss ++ [s]).length = ss.length + 1 by simp] at hv2
    subst hv2
    have hT := (Turned.refl wz.heap.size w2).set 1 (.slice o2 (ss.length + 1) c2)
    obtain ⟨o3, c3, hv3, _, _, _, hr3⟩ := (hown2.turned hT (by omega) (by omega) (tag_set tg (by decide))).slice
    obtain rfl : o2 = o3 := by injection hv3
    have hX2 : Ext w (w2.setCell ⟨wz.heap.size, 1, none⟩ (.slice o2 (ss.length + 1) c2)) := ext_own ((B.out.next hXz).ext) hT (by omega)
    have hsn : Sn n ss s oa cap wz.heap.size o2 c2 w (w2.setCell ⟨wz.heap.size, 1, none⟩ (.slice o2 (ss.length + 1) c2)) := by
      refine ⟨⟨hX2, H.out.ext hX2, ?_, ?_⟩, ?_, World.cell?_setCell_same _ _ _ y1, hr3⟩
      · rw [World.cell?_setCell_other _ _ _ _ (by simp <;> omega)]; exact cell_ext hXz c0
      · rw [World.cell?_setCell_other _ _ _ _ (by simp <;> omega)]; exact cell_ext hXz c1
      · rw [World.cell?_setCell_other _ _ _ _ (by simp)]; exact y0
    have b0 := cell_ext hXz c0
    have b1 := cell_ext hXz c1
    clear B c0 c1 hr3 hown2 hT hX hX2 hXz tg hv3 hBl hE3 Hown1
    have B := Lib.hid hsn
    clear hsn
    go_wp2_with (first | (go_at_call 40; refine (R.out.r40 _ B.out.bx).mono ?_; rintro e w9 ⟨rfl, hE9⟩; replace B := Lib.hid (B.out.next hE9); (try clear c0 c1); have c0 := B.out.c0; have c1 := B.out.c1; (try clear x0 x1); have x0 := B.out.x0; have x1 := B.out.x1; clear hE9) | (go_at_call 25; have t0 := T25; clear t0 T25; refine (R.out.r25 _ B.out.bx).mono ?_; rintro e w9 ⟨rfl, hE9⟩; replace B := Lib.hid (B.out.next hE9); clear hE9 c0 c1 x0 x1; have c0 := B.out.c0; have c1 := B.out.c1; have x0 := B.out.x0; have x1 := B.out.x1) | (go_at_call 25; refine (R.out.rx _ o2 c2 B.out.rows).mono ?_; rintro e w9 ⟨rfl, hE9⟩; replace B := Lib.hid (B.out.next hE9); (try clear c0 c1); have c0 := B.out.c0; have c1 := B.out.c1; (try clear x0 x1); have x0 := B.out.x0; have x1 := B.out.x1; clear hE9) | (go_at_call 23; refine (R.out.rk _ B.out.bx).mono ?_; rintro e w9 ⟨rfl, hE9⟩; replace B := Lib.hid (B.out.next hE9); (try clear c0 c1); have c0 := B.out.c0; have c1 := B.out.c1; clear hE9))
    go_ret
    exact ⟨rfl, B.out.bx.ext⟩

set_option maxRecDepth 100000 in
set_option maxHeartbeats 8000000 in
theorem seen_some {n : Nat} {ss : List (List Nat)} {s : List Nat} {oa : Option Addr} {cap : Nat} {ob : Option Addr} {cb : Nat} {w : World} {V : Int} {C X : Nat} (h : RowsAt w oa (upp ss)) (hsv : IsInts w (.slice ob s.length cb) (up s)) (h6 : ss.length < 6) (hcap : ss.length ≤ cap) (hcm : cap ≤ maxLen) (hoa : oa = none → cap = 0) (hs5 : s.length ≤ 5) (R : SeenCalls n ss s oa cap ob cb w V 0 C X) (hC : 0 < C) (hXC : X ≤ C) (hC7 : C ≤ 720) (hV : (V = 1 ∧ X = 0) ∨ (V = 2 ∧ X ≠ 0 ∧ X ≠ C) ∨ (V = 3 ∧ X = C)) (h2 : s.length ≠ 2) :
    Calls Tryz.prog 8 #[.agg #[.int .i64 n, .slice oa ss.length cap], .slice ob s.length cb] w fun e w' => e = .returned (.bool true) ∧ Ext w w' := by
  have B := Lib.hid (Bx.start (n := n) (cap := cap) h)
  have H := Lib.hid h
  have Hs := Lib.hid hsv
  have Hoa := Lib.hid hoa
  replace R := Lib.hid R
  have T25 := Lib.hid trivial
  have i6 : ¬ (6 : Int) ≤ (ss.length : Int) := by omega
  have j6 : ¬ 6 ≤ ss.length := by omega
  have i7 : ¬ (7 : Int) < (s.length : Int) := by omega
  have j7 : ¬ 7 < s.length := by omega
  clear h hsv hoa
  have k1 : ¬ (C : Int) < (X : Int) := by omega
  have k2 : ¬ C < X := by omega
  have k3 : ¬ (s.length : Int) = 2 := by omega
  have k4 : ((s.length : Int) == 2) = false := by simpa using k3
  have k5 : ((s.length : Int) != 2) = true := by simpa using k3
  rcases hV with ⟨rfl, rfl⟩ | ⟨rfl, hX0, hXC2⟩ | ⟨rfl, rfl⟩
  · have k6 : ((C : Nat) : Int) ≠ 0 := by omega
    have k7 : ((0 : Int) == (C : Int)) = false := by simpa using (by omega : ¬ (0 : Int) = (C : Int))
    go_enter Tryz.func8, Tryz.ntmps8
    go_wp2_with (first | (go_at_call 29; refine (R.out.r29 _ B.out).mono ?_; rintro e w9 ⟨rfl, hE9⟩; replace B := Lib.hid (B.out.next hE9); (try clear c0 c1); have c0 := B.out.c0; have c1 := B.out.c1; clear hE9) | (go_at_call 41; refine (R.out.r41 _ B.out _).mono ?_; rintro e wz ⟨rfl, hE9⟩; replace B := Lib.hid (B.out.next hE9); clear hE9 c0 c1; have c0 := B.out.c0; have c1 := B.out.c1; have hlt : w.heap.size < wz.heap.size := World.block_lt_of_cell? wz _ c0; have hne := World.new_ne wz _ c0) | (at_builtin; refine wpList_appRows _ rfl _ _ rfl w ss oa cap rfl rfl H.out (B.out.ext.alloc _) Hoa.out hcap hcm (by omega) ?_; intro v1 w1 hown1 hE3; have Hown1 : Hid (OwnR w1 w.heap.size (wz.heap.size + 1) v1 ss) := Lib.hid (by simpa using hown1); clear hown1) | (at_builtin; refine wpList_appR _ rfl _ _ rfl w.heap.size (wz.heap.size + 1) _ ss rfl (Hown1.out.ext ((Ext.refl w1).alloc _)) w1.heap.size (.slice ob s.length cb) s rfl (by go_simp) (RowE.of_below Hs.out ((B.out.ext.alloc (.cells #[.int .i64 n, .slice oa ss.length cap] 24)).trans (hE3.alloc _)) (Nat.le_refl _)) ?_ ?_ ?_))
    · omega
    · have := hE3.size; simp at this ⊢; omega
    · intro v2 w2 hown2 hBl
      have hX : Ext (wz.alloc (.cells #[.int .i64 n, .slice oa ss.length cap] 24)) w2 := (hE3.alloc (.cells #[.slice ob s.length cb] 27)).below hBl (by simp)
      have hXz := ((Ext.refl wz).alloc (.cells #[.int .i64 n, .slice oa ss.length cap] 24)).trans hX
      have y0 : w2.cell? ⟨wz.heap.size, 0, none⟩ = some (.int .i64 n) := cell_ext hX (by go_simp)
      have y1 : w2.cell? ⟨wz.heap.size, 1, none⟩ = some (.slice oa ss.length cap) := cell_ext hX (by go_simp)
      have f1 : w2.frozen? ⟨wz.heap.size, 1, none⟩ = false := (hX.frozen (by simp)).trans (by go_simp)
      have tg : ∃ c, w2.heap[wz.heap.size]? = some (.cells c 24 (0, 0)) := ⟨_, (hX.block wz.heap.size (by simp)).trans (heap_alloc_new wz _)⟩
      obtain ⟨o2, c2, hv2, _⟩ := hown2.slice
      rw [show (ss ++ [s]).length = ss.length + 1 by simp] at hv2
      subst hv2
      have hT := (Turned.refl wz.heap.size w2).set 1 (.slice o2 (ss.length + 1) c2)
      obtain ⟨o3, c3, hv3, _, _, _, hr3⟩ := (hown2.turned hT (by omega) (by omega) (tag_set tg (by decide))).slice
      obtain rfl : o2 = o3 := by injection hv3
      have hX2 : Ext w (w2.setCell ⟨wz.heap.size, 1, none⟩ (.slice o2 (ss.length + 1) c2)) := ext_own ((B.out.next hXz).ext) hT (by omega)
      have hsn : Sn n ss s oa cap wz.heap.size o2 c2 w (w2.setCell ⟨wz.heap.size, 1, none⟩ (.slice o2 (ss.length + 1) c2)) := by
        refine ⟨⟨hX2, H.out.ext hX2, ?_, ?_⟩, ?_, World.cell?_setCell_same _ _ _ y1, hr3⟩
        · rw [World.cell?_setCell_other _ _ _ _ (by simp <;> omega)]; exact cell_ext hXz c0
        · rw [World.cell?_setCell_other _ _ _ _ (by simp <;> omega)]; exact cell_ext hXz c1
        · rw [World.cell?_setCell_other _ _ _ _ (by simp)]; exact y0
      have b0 := cell_ext hXz c0
      have b1 := cell_ext hXz c1
      clear B c0 c1 hr3 hown2 hT hX hX2 hXz tg hv3 hBl hE3 Hown1
      have B := Lib.hid hsn
      clear hsn
      go_wp2_with (first | (go_at_call 40; refine (R.out.r40 _ B.out.bx).mono ?_; rintro e w9 ⟨rfl, hE9⟩; replace B := Lib.hid (B.out.next hE9); (try clear c0 c1); have c0 := B.out.c0; have c1 := B.out.c1; (try clear x0 x1); have x0 := B.out.x0; have x1 := B.out.x1; clear hE9) | (go_at_call 25; have t0 := T25; clear t0 T25; refine (R.out.r25 _ B.out.bx).mono ?_; rintro e w9 ⟨rfl, hE9⟩; replace B := Lib.hid (B.out.next hE9); clear hE9 c0 c1 x0 x1; have c0 := B.out.c0; have c1 := B.out.c1; have x0 := B.out.x0; have x1 := B.out.x1) | (go_at_call 25; refine (R.out.rx _ o2 c2 B.out.rows).mono ?_; rintro e w9 ⟨rfl, hE9⟩; replace B := Lib.hid (B.out.next hE9); (try clear c0 c1); have c0 := B.out.c0; have c1 := B.out.c1; (try clear x0 x1); have x0 := B.out.x0; have x1 := B.out.x1; clear hE9) | (go_at_call 23; refine (R.out.rk _ B.out.bx).mono ?_; rintro e w9 ⟨rfl, hE9⟩; replace B := Lib.hid (B.out.next hE9); (try clear c0 c1); have c0 := B.out.c0; have c1 := B.out.c1; clear hE9))
      go_ret
      exact ⟨rfl, B.out.bx.ext⟩
  · have k6 : ((X : Int) == 0) = false := by simpa using hX0
    have k7 : ((X : Int) == (C : Int)) = false := by simpa using (by omega : ¬ (X : Int) = (C : Int))
    go_enter Tryz.func8, Tryz.ntmps8
    go_wp2_with (first | (go_at_call 29; refine (R.out.r29 _ B.out).mono ?_; rintro e w9 ⟨rfl, hE9⟩; replace B := Lib.hid (B.out.next hE9); (try clear c0 c1); have c0 := B.out.c0; have c1 := B.out.c1; clear hE9) | (go_at_call 41; refine (R.out.r41 _ B.out _).mono ?_; rintro e wz ⟨rfl, hE9⟩; replace B := Lib.hid (B.out.next hE9); clear hE9 c0 c1; have c0 := B.out.c0; have c1 := B.out.c1; have hlt : w.heap.size < wz.heap.size := World.block_lt_of_cell? wz _ c0; have hne := World.new_ne wz _ c0) | (at_builtin; refine wpList_appRows _ rfl _ _ rfl w ss oa cap rfl rfl H.out (B.out.ext.alloc _) Hoa.out hcap hcm (by omega) ?_; intro v1 w1 hown1 hE3; have Hown1 : Hid (OwnR w1 w.heap.size (wz.heap.size + 1) v1 ss) := Lib.hid (by simpa using hown1); clear hown1) | (at_builtin; refine wpList_appR _ rfl _ _ rfl w.heap.size (wz.heap.size + 1) _ ss rfl (Hown1.out.ext ((Ext.refl w1).alloc _)) w1.heap.size (.slice ob s.length cb) s rfl (by go_simp) (RowE.of_below Hs.out ((B.out.ext.alloc (.cells #[.int .i64 n, .slice oa ss.length cap] 24)).trans (hE3.alloc _)) (Nat.le_refl _)) ?_ ?_ ?_))
    · omega
    · have := hE3.size; simp at this ⊢; omega
    · intro v2 w2 hown2 hBl
      have hX : Ext (wz.alloc (.cells #[.int .i64 n, .slice oa ss.length cap] 24)) w2 := (hE3.alloc (.cells #[.slice ob s.length cb] 27)).below hBl (by simp)
      have hXz := ((Ext.refl wz).alloc (.cells #[.int .i64 n, .slice oa ss.length cap] 24)).trans hX
      have y0 : w2.cell? ⟨wz.heap.size, 0, none⟩ = some (.int .i64 n) := cell_ext hX (by go_simp)
      have y1 : w2.cell? ⟨wz.heap.size, 1, none⟩ = some (.slice oa ss.length cap) := cell_ext hX (by go_simp)
      have f1 : w2.frozen? ⟨wz.heap.size, 1, none⟩ = false := (hX.frozen (by simp)).trans (by go_simp)
      have tg : ∃ c, w2.heap[wz.heap.size]? = some (.cells c 24 (0, 0)) := ⟨_, (hX.block wz.heap.size (by simp)).trans (heap_alloc_new wz _)⟩
      obtain ⟨o2, c2, hv2, _⟩ := hown2.slice
      rw [show (ss ++ [s]).length = ss.length + 1 by simp] at hv2
      subst hv2
      have hT := (Turned.refl wz.heap.size w2).set 1 (.slice o2 (ss.length + 1) c2)
      obtain ⟨o3, c3, hv3, _, _, _, hr3⟩ := (hown2.turned hT (by omega) (by omega) (tag_set tg (by decide))).slice
      obtain rfl : o2 = o3 := by injection hv3
      have hX2 : Ext w (w2.setCell ⟨wz.heap.size, 1, none⟩ (.slice o2 (ss.length + 1) c2)) := ext_own ((B.out.next hXz).ext) hT (by omega)
      have hsn : Sn n ss s oa cap wz.heap.size o2 c2 w (w2.setCell ⟨wz.heap.size, 1, none⟩ (.slice o2 (ss.length + 1) c2)) := by
        refine ⟨⟨hX2, H.out.ext hX2, ?_, ?_⟩, ?_, World.cell?_setCell_same _ _ _ y1, hr3⟩
        · rw [World.cell?_setCell_other _ _ _ _ (by simp <;> omega)]; exact cell_ext hXz c0
        · rw [World.cell?_setCell_other _ _ _ _ (by simp <;> omega)]; exact cell_ext hXz c1
        · rw [World.cell?_setCell_other _ _ _ _ (by simp)]; exact y0
      have b0 := cell_ext hXz c0
      have b1 := cell_ext hXz c1
      clear B c0 c1 hr3 hown2 hT hX hX2 hXz tg hv3 hBl hE3 Hown1
      have B := Lib.hid hsn
      clear hsn
      go_wp2_with (first | (go_at_call 40; refine (R.out.r40 _ B.out.bx).mono ?_; rintro e w9 ⟨rfl, hE9⟩; replace B := Lib.hid (B.out.next hE9); (try clear c0 c1); have c0 := B.out.c0; have c1 := B.out.c1; (try clear x0 x1); have x0 := B.out.x0; have x1 := B.out.x1; clear hE9) | (go_at_call 25; have t0 := T25; clear t0 T25; refine (R.out.r25 _ B.out.bx).mono ?_; rintro e w9 ⟨rfl, hE9⟩; replace B := Lib.hid (B.out.next hE9); clear hE9 c0 c1 x0 x1; have c0 := B.out.c0; have c1 := B.out.c1; have x0 := B.out.x0; have x1 := B.out.x1) | (go_at_call 25; refine (R.out.rx _ o2 c2 B.out.rows).mono ?_; rintro e w9 ⟨rfl, hE9⟩; replace B := Lib.hid (B.out.next hE9); (try clear c0 c1); have c0 := B.out.c0; have c1 := B.out.c1; (try clear x0 x1); have x0 := B.out.x0; have x1 := B.out.x1; clear hE9) | (go_at_call 23; refine (R.out.rk _ B.out.bx).mono ?_; rintro e w9 ⟨rfl, hE9⟩; replace B := Lib.hid (B.out.next hE9); (try clear c0 c1); have c0 := B.out.c0; have c1 := B.out.c1; clear hE9))
      go_ret
      exact ⟨rfl, B.out.bx.ext⟩
  · have k6 : ((X : Int) == 0) = false := by simpa using (by omega : ¬ X = 0)
    go_enter Tryz.func8, Tryz.ntmps8
    go_wp2_with (first | (go_at_call 29; refine (R.out.r29 _ B.out).mono ?_; rintro e w9 ⟨rfl, hE9⟩; replace B := Lib.hid (B.out.next hE9); (try clear c0 c1); have c0 := B.out.c0; have c1 := B.out.c1; clear hE9) | (go_at_call 41; refine (R.out.r41 _ B.out _).mono ?_; rintro e wz ⟨rfl, hE9⟩; replace B := Lib.hid (B.out.next hE9); clear hE9 c0 c1; have c0 := B.out.c0; have c1 := B.out.c1; have hlt : w.heap.size < wz.heap.size := World.block_lt_of_cell? wz _ c0; have hne := World.new_ne wz _ c0) | (at_builtin; refine wpList_appRows _ rfl _ _ rfl w ss oa cap rfl rfl H.out (B.out.ext.alloc _) Hoa.out hcap hcm (by omega) ?_; intro v1 w1 hown1 hE3; have Hown1 : Hid (OwnR w1 w.heap.size (wz.heap.size + 1) v1 ss) := Lib.hid (by simpa using hown1); clear hown1) | (at_builtin; refine wpList_appR _ rfl _ _ rfl w.heap.size (wz.heap.size + 1) _ ss rfl (Hown1.out.ext ((Ext.refl w1).alloc _)) w1.heap.size (.slice ob s.length cb) s rfl (by go_simp) (RowE.of_below Hs.out ((B.out.ext.alloc (.cells #[.int .i64 n, .slice oa ss.length cap] 24)).trans (hE3.alloc _)) (Nat.le_refl _)) ?_ ?_ ?_))
    · omega
    · have := hE3.size; simp at this ⊢; omega
    · intro v2 w2 hown2 hBl
      have hX : Ext (wz.alloc (.cells #[.int .i64 n, .slice oa ss.length cap] 24)) w2 := (hE3.alloc (.cells #[.slice ob s.length cb] 27)).below hBl (by simp)
      have hXz := ((Ext.refl wz).alloc (.cells #[.int .i64 n, .slice oa ss.length cap] 24)).trans hX
      have y0 : w2.cell? ⟨wz.heap.size, 0, none⟩ = some (.int .i64 n) := cell_ext hX (by go_simp)
      have y1 : w2.cell? ⟨wz.heap.size, 1, none⟩ = some (.slice oa ss.length cap) := cell_ext hX (by go_simp)
      have f1 : w2.frozen? ⟨wz.heap.size, 1, none⟩ = false := (hX.frozen (by simp)).trans (by go_simp)
      have tg : ∃ c, w2.heap[wz.heap.size]? = some (.cells c 24 (0, 0)) := ⟨_, (hX.block wz.heap.size (by simp)).trans (heap_alloc_new wz _)⟩
      obtain ⟨o2, c2, hv2, _⟩ := hown2.slice
      rw [show (ss ++ [s]).length = ss.length + 1 by simp] at hv2
      subst hv2
      have hT := (Turned.refl wz.heap.size w2).set 1 (.slice o2 (ss.length + 1) c2)
      obtain ⟨o3, c3, hv3, _, _, _, hr3⟩ := (hown2.turned hT (by omega) (by omega) (tag_set tg (by decide))).slice
      obtain rfl : o2 = o3 := by injection hv3
      have hX2 : Ext w (w2.setCell ⟨wz.heap.size, 1, none⟩ (.slice o2 (ss.length + 1) c2)) := ext_own ((B.out.next hXz).ext) hT (by omega)
      have hsn : Sn n ss s oa cap wz.heap.size o2 c2 w (w2.setCell ⟨wz.heap.size, 1, none⟩ (.slice o2 (ss.length + 1) c2)) := by
        refine ⟨⟨hX2, H.out.ext hX2, ?_, ?_⟩, ?_, World.cell?_setCell_same _ _ _ y1, hr3⟩
        · rw [World.cell?_setCell_other _ _ _ _ (by simp <;> omega)]; exact cell_ext hXz c0
        · rw [World.cell?_setCell_other _ _ _ _ (by simp <;> omega)]; exact cell_ext hXz c1
        · rw [World.cell?_setCell_other _ _ _ _ (by simp)]; exact y0
      have b0 := cell_ext hXz c0
      have b1 := cell_ext hXz c1
      clear B c0 c1 hr3 hown2 hT hX hX2 hXz tg hv3 hBl hE3 Hown1
      have B := Lib.hid hsn
      clear hsn
      go_wp2_with (first | (go_at_call 40; refine (R.out.r40 _ B.out.bx).mono ?_; rintro e w9 ⟨rfl, hE9⟩; replace B := Lib.hid (B.out.next hE9); (try clear c0 c1); have c0 := B.out.c0; have c1 := B.out.c1; (try clear x0 x1); have x0 := B.out.x0; have x1 := B.out.x1; clear hE9) | (go_at_call 25; have t0 := T25; clear t0 T25; refine (R.out.r25 _ B.out.bx).mono ?_; rintro e w9 ⟨rfl, hE9⟩; replace B := Lib.hid (B.out.next hE9); clear hE9 c0 c1 x0 x1; have c0 := B.out.c0; have c1 := B.out.c1; have x0 := B.out.x0; have x1 := B.out.x1) | (go_at_call 25; refine (R.out.rx _ o2 c2 B.out.rows).mono ?_; rintro e w9 ⟨rfl, hE9⟩; replace B := Lib.hid (B.out.next hE9); (try clear c0 c1); have c0 := B.out.c0; have c1 := B.out.c1; (try clear x0 x1); have x0 := B.out.x0; have x1 := B.out.x1; clear hE9) | (go_at_call 23; refine (R.out.rk _ B.out.bx).mono ?_; rintro e w9 ⟨rfl, hE9⟩; replace B := Lib.hid (B.out.next hE9); (try clear c0 c1); have c0 := B.out.c0; have c1 := B.out.c1; clear hE9))
      go_ret
      exact ⟨rfl, B.out.bx.ext⟩

set_option maxRecDepth 100000 in
set_option maxHeartbeats 8000000 in
theorem seen_two {n : Nat} {ss : List (List Nat)} {s : List Nat} {oa : Option Addr} {cap : Nat} {ob : Option Addr} {cb : Nat} {w : World} {V : Int} {C X p q : Nat} (h : RowsAt w oa (upp ss)) (hsv : IsInts w (.slice ob s.length cb) (up s)) (h6 : ss.length < 6) (hcap : ss.length ≤ cap) (hcm : cap ≤ maxLen) (hoa : oa = none → cap = 0) (hs5 : s.length ≤ 5) (R : SeenCalls n ss s oa cap ob cb w V 0 C X) (hC : 0 < C) (hXC : X ≤ C) (hC7 : C ≤ 720) (hV : (V = 1 ∧ X = 0) ∨ (V = 2 ∧ X ≠ 0 ∧ X ≠ C) ∨ (V = 3 ∧ X = C)) (hs2 : s = [p, q])
    (r33 : ∀ W, Bx n ss oa cap w W → Calls Tryz.prog 33 #[.agg #[.int .i64 n, .slice oa ss.length cap], .int .i64 p, .int .i64 q] W fun r w' => r = .returned (.tuple #[.int .i64 V, .int .i64 0]) ∧ Ext W w') :
    Calls Tryz.prog 8 #[.agg #[.int .i64 n, .slice oa ss.length cap], .slice ob s.length cb] w fun e w' => e = .returned (.bool true) ∧ Ext w w' := by
  obtain ⟨oi, ci, hei, _, _, _, hint⟩ := id hsv
  obtain rfl : ob = oi := by injection hei
  obtain ⟨b, off, hob, _, z0⟩ := hint 0 p (by rw [hs2]; rfl)
  obtain ⟨b', off', hob', _, z1⟩ := hint 1 q (by rw [hs2]; rfl)
  subst hob
  obtain ⟨rfl, rfl⟩ : b = b' ∧ off = off' := by simpa using hob'
  rw [Nat.add_zero] at z0
  have Z0 := Lib.hid z0
  have Z1 := Lib.hid z1
  have R33 := Lib.hid r33
  have hl2 : s.length = 2 := by rw [hs2]; rfl
  have k3 : (s.length : Int) = 2 := by omega
  have k5 : ((s.length : Int) != 2) = false := by simp [k3]
  have k8 : (0 : Int) < (s.length : Int) := by omega
  have k9 : (1 : Int) < (s.length : Int) := by omega
  have k10 : 1 < s.length := by omega
  clear hei hint hob' z0 z1 r33 hs2 hl2 k3
  have B := Lib.hid (Bx.start (n := n) (cap := cap) h)
  have H := Lib.hid h
  have Hs := Lib.hid hsv
  have Hoa := Lib.hid hoa
  replace R := Lib.hid R
  have T25 := Lib.hid trivial
  have i6 : ¬ (6 : Int) ≤ (ss.length : Int) := by omega
  have j6 : ¬ 6 ≤ ss.length := by omega
  have i7 : ¬ (7 : Int) < (s.length : Int) := by omega
  have j7 : ¬ 7 < s.length := by omega
  clear h hsv hoa
  have k1 : ¬ (C : Int) < (X : Int) := by omega
  have k2 : ¬ C < X := by omega
  rcases hV with ⟨rfl, rfl⟩ | ⟨rfl, hX0, hXC2⟩ | ⟨rfl, rfl⟩
  · have k6 : ((C : Nat) : Int) ≠ 0 := by omega
    have k7 : ((0 : Int) == (C : Int)) = false := by simpa using (by omega : ¬ (0 : Int) = (C : Int))
    go_enter Tryz.func8, Tryz.ntmps8
    go_wp2_with (first | (go_at_call 29; refine (R.out.r29 _ B.out).mono ?_; rintro e w9 ⟨rfl, hE9⟩; replace B := Lib.hid (B.out.next hE9); (try clear c0 c1); have c0 := B.out.c0; have c1 := B.out.c1; clear hE9) | (go_at_call 41; refine (R.out.r41 _ B.out _).mono ?_; rintro e wz ⟨rfl, hE9⟩; replace B := Lib.hid (B.out.next hE9); clear hE9 c0 c1; have c0 := B.out.c0; have c1 := B.out.c1; have hlt : w.heap.size < wz.heap.size := World.block_lt_of_cell? wz _ c0; have hne := World.new_ne wz _ c0) | (at_builtin; refine wpList_appRows _ rfl _ _ rfl w ss oa cap rfl rfl H.out (B.out.ext.alloc _) Hoa.out hcap hcm (by omega) ?_; intro v1 w1 hown1 hE3; have Hown1 : Hid (OwnR w1 w.heap.size (wz.heap.size + 1) v1 ss) := Lib.hid (by simpa using hown1); clear hown1) | (at_builtin; refine wpList_appR _ rfl _ _ rfl w.heap.size (wz.heap.size + 1) _ ss rfl (Hown1.out.ext ((Ext.refl w1).alloc _)) w1.heap.size (.slice (some ⟨b, off, none⟩) s.length cb) s rfl (by go_simp) (RowE.of_below Hs.out ((B.out.ext.alloc (.cells #[.int .i64 n, .slice oa ss.length cap] 24)).trans (hE3.alloc _)) (Nat.le_refl _)) ?_ ?_ ?_))
    · omega
    · have := hE3.size; simp at this ⊢; omega
    · intro v2 w2 hown2 hBl
      have hX : Ext (wz.alloc (.cells #[.int .i64 n, .slice oa ss.length cap] 24)) w2 := (hE3.alloc (.cells #[.slice (some ⟨b, off, none⟩) s.length cb] 27)).below hBl (by simp)
      have hXz := ((Ext.refl wz).alloc (.cells #[.int .i64 n, .slice oa ss.length cap] 24)).trans hX
      have y0 : w2.cell? ⟨wz.heap.size, 0, none⟩ = some (.int .i64 n) := cell_ext hX (by go_simp)
      have y1 : w2.cell? ⟨wz.heap.size, 1, none⟩ = some (.slice oa ss.length cap) := cell_ext hX (by go_simp)
      have f1 : w2.frozen? ⟨wz.heap.size, 1, none⟩ = false := (hX.frozen (by simp)).trans (by go_simp)
      have tg : ∃ c, w2.heap[wz.heap.size]? = some (.cells c 24 (0, 0)) := ⟨_, (hX.block wz.heap.size (by simp)).trans (heap_alloc_new wz _)⟩
      obtain ⟨o2, c2, hv2, _⟩ := hown2.slice
      rw [show (ss ++ [s]).length = ss.length + 1 by simp] at hv2
      subst hv2
      have hT := (Turned.refl wz.heap.size w2).set 1 (.slice o2 (ss.length + 1) c2)
      obtain ⟨o3, c3, hv3, _, _, _, hr3⟩ := (hown2.turned hT (by omega) (by omega) (tag_set tg (by decide))).slice
      obtain rfl : o2 = o3 := by injection hv3
      have hX2 : Ext w (w2.setCell ⟨wz.heap.size, 1, none⟩ (.slice o2 (ss.length + 1) c2)) := ext_own ((B.out.next hXz).ext) hT (by omega)
      have hsn : Sn n ss s oa cap wz.heap.size o2 c2 w (w2.setCell ⟨wz.heap.size, 1, none⟩ (.slice o2 (ss.length + 1) c2)) := by
        refine ⟨⟨hX2, H.out.ext hX2, ?_, ?_⟩, ?_, World.cell?_setCell_same _ _ _ y1, hr3⟩
        · rw [World.cell?_setCell_other _ _ _ _ (by simp <;> omega)]; exact cell_ext hXz c0
        · rw [World.cell?_setCell_other _ _ _ _ (by simp <;> omega)]; exact cell_ext hXz c1
        · rw [World.cell?_setCell_other _ _ _ _ (by simp)]; exact y0
      have b0 := cell_ext hXz c0
      have b1 := cell_ext hXz c1
      clear B c0 c1 hr3 hown2 hT hX hX2 hXz tg hv3 hBl hE3 Hown1
      have B := Lib.hid hsn
      clear hsn
      go_wp2_with (first | (go_at_call 40; refine (R.out.r40 _ B.out.bx).mono ?_; rintro e w9 ⟨rfl, hE9⟩; replace B := Lib.hid (B.out.next hE9); (try clear c0 c1); have c0 := B.out.c0; have c1 := B.out.c1; (try clear x0 x1); have x0 := B.out.x0; have x1 := B.out.x1; clear hE9) | (go_at_call 25; have t0 := T25; clear t0 T25; refine (R.out.r25 _ B.out.bx).mono ?_; rintro e w9 ⟨rfl, hE9⟩; replace B := Lib.hid (B.out.next hE9); clear hE9 c0 c1 x0 x1; have c0 := B.out.c0; have c1 := B.out.c1; have x0 := B.out.x0; have x1 := B.out.x1) | (go_at_call 25; refine (R.out.rx _ o2 c2 B.out.rows).mono ?_; rintro e w9 ⟨rfl, hE9⟩; replace B := Lib.hid (B.out.next hE9); (try clear c0 c1); have c0 := B.out.c0; have c1 := B.out.c1; (try clear x0 x1); have x0 := B.out.x0; have x1 := B.out.x1; clear hE9) | (go_at_call 23; refine (R.out.rk _ B.out.bx).mono ?_; rintro e w9 ⟨rfl, hE9⟩; replace B := Lib.hid (B.out.next hE9); (try clear c0 c1); have c0 := B.out.c0; have c1 := B.out.c1; clear hE9))
      have B7 := Lib.hid (B.out.next (Ext.refl w9).drew)
      have g3 := cell_ext B.out.bx.ext Z0.out
      have g4 := cell_ext B.out.bx.ext Z1.out
      refine wp_region_plan (.take 0 <| .take 1 <| .take 2 <| .take 3 <| .take 4 <| .take 5 <| .take 6 <| .only 7 <| .take 8 <| .take 9 <| .take 10 <| .take 11 <| .take 12 <| .done) (fun W => Ext w9 W) mixed (by kernel_rfl) (by kernel_rfl) rfl (fun _ _ d _ _ h => by cases d <;> exact h) ((Ext.refl w9).drew) ?_
      repeat (first | (refine plan_take (v := ?_) rfl rfl (fun W hW => ?_) ?_; rotate_left; (focus (have e1 := cell_ext hW c0; have e2 := cell_ext hW c1; have e3 := cell_ext hW g3; have e4 := cell_ext hW g4; go_simp; first | exact rfl | (split <;> first | exact rfl | (exfalso; omega)) | done)); simp only [Act.put, List.setIfInBounds_toArray, List.set_cons_zero, List.set_cons_succ]) | (refine plan_skip rfl rfl ?_; simp only [Act.put, List.setIfInBounds_toArray, List.set_cons_zero, List.set_cons_succ]))
      refine plan_walk rfl ?_; intro K hK
      go_wp2_with (first | (go_at_call 33; refine (R33.out _ B7.out.bx).mono ?_; rintro e w8 ⟨rfl, hE8⟩))
      refine hK _ _ ((Ext.refl w9).drew.trans hE8) ?_
      repeat (first | (refine plan_take (v := ?_) rfl rfl (fun W hW => ?_) ?_; rotate_left; (focus (skip; go_simp; first | exact rfl | (split <;> first | exact rfl | (exfalso; omega)) | done)); simp only [Act.put, List.setIfInBounds_toArray, List.set_cons_zero, List.set_cons_succ]) | (refine plan_skip rfl rfl ?_; simp only [Act.put, List.setIfInBounds_toArray, List.set_cons_zero, List.set_cons_succ]))
      refine plan_done ?_
      replace B := Lib.hid (B7.out.next hE8)
      clear B7 c0 c1 x0 x1 g3 g4 hE8
      have c0 := B.out.c0
      have c1 := B.out.c1
      go_wp2_with (first | (go_at_call 23; refine (R.out.rk _ B.out.bx).mono ?_; rintro e w9 ⟨rfl, hE9⟩; replace B := Lib.hid (B.out.next hE9); (try clear c0 c1); have c0 := B.out.c0; have c1 := B.out.c1; clear hE9))
      go_ret
      exact ⟨rfl, B.out.bx.ext⟩
  · have k6 : ((X : Int) == 0) = false := by simpa using hX0
    have k7 : ((X : Int) == (C : Int)) = false := by simpa using (by omega : ¬ (X : Int) = (C : Int))
    go_enter Tryz.func8, Tryz.ntmps8
    go_wp2_with (first | (go_at_call 29; refine (R.out.r29 _ B.out).mono ?_; rintro e w9 ⟨rfl, hE9⟩; replace B := Lib.hid (B.out.next hE9); (try clear c0 c1); have c0 := B.out.c0; have c1 := B.out.c1; clear hE9) | (go_at_call 41; refine (R.out.r41 _ B.out _).mono ?_; rintro e wz ⟨rfl, hE9⟩; replace B := Lib.hid (B.out.next hE9); clear hE9 c0 c1; have c0 := B.out.c0; have c1 := B.out.c1; have hlt : w.heap.size < wz.heap.size := World.block_lt_of_cell? wz _ c0; have hne := World.new_ne wz _ c0) | (at_builtin; refine wpList_appRows _ rfl _ _ rfl w ss oa cap rfl rfl H.out (B.out.ext.alloc _) Hoa.out hcap hcm (by omega) ?_; intro v1 w1 hown1 hE3; have Hown1 : Hid (OwnR w1 w.heap.size (wz.heap.size + 1) v1 ss) := Lib.hid (by simpa using hown1); clear hown1) | (at_builtin; refine wpList_appR _ rfl _ _ rfl w.heap.size (wz.heap.size + 1) _ ss rfl (Hown1.out.ext ((Ext.refl w1).alloc _)) w1.heap.size (.slice (some ⟨b, off, none⟩) s.length cb) s rfl (by go_simp) (RowE.of_below Hs.out ((B.out.ext.alloc (.cells #[.int .i64 n, .slice oa ss.length cap] 24)).trans (hE3.alloc _)) (Nat.le_refl _)) ?_ ?_ ?_))
    · omega
    · have := hE3.size; simp at this ⊢; omega
    · intro v2 w2 hown2 hBl
      have hX : Ext (wz.alloc (.cells #[.int .i64 n, .slice oa ss.length cap] 24)) w2 := (hE3.alloc (.cells #[.slice (some ⟨b, off, none⟩) s.length cb] 27)).below hBl (by simp)
      have hXz := ((Ext.refl wz).alloc (.cells #[.int .i64 n, .slice oa ss.length cap] 24)).trans hX
      have y0 : w2.cell? ⟨wz.heap.size, 0, none⟩ = some (.int .i64 n) := cell_ext hX (by go_simp)
      have y1 : w2.cell? ⟨wz.heap.size, 1, none⟩ = some (.slice oa ss.length cap) := cell_ext hX (by go_simp)
      have f1 : w2.frozen? ⟨wz.heap.size, 1, none⟩ = false := (hX.frozen (by simp)).trans (by go_simp)
      have tg : ∃ c, w2.heap[wz.heap.size]? = some (.cells c 24 (0, 0)) := ⟨_, (hX.block wz.heap.size (by simp)).trans (heap_alloc_new wz _)⟩
      obtain ⟨o2, c2, hv2, _⟩ := hown2.slice
      rw [show (ss ++ [s]).length = ss.length + 1 by simp] at hv2
      subst hv2
      have hT := (Turned.refl wz.heap.size w2).set 1 (.slice o2 (ss.length + 1) c2)
      obtain ⟨o3, c3, hv3, _, _, _, hr3⟩ := (hown2.turned hT (by omega) (by omega) (tag_set tg (by decide))).slice
      obtain rfl : o2 = o3 := by injection hv3
      have hX2 : Ext w (w2.setCell ⟨wz.heap.size, 1, none⟩ (.slice o2 (ss.length + 1) c2)) := ext_own ((B.out.next hXz).ext) hT (by omega)
      have hsn : Sn n ss s oa cap wz.heap.size o2 c2 w (w2.setCell ⟨wz.heap.size, 1, none⟩ (.slice o2 (ss.length + 1) c2)) := by
        refine ⟨⟨hX2, H.out.ext hX2, ?_, ?_⟩, ?_, World.cell?_setCell_same _ _ _ y1, hr3⟩
        · rw [World.cell?_setCell_other _ _ _ _ (by simp <;> omega)]; exact cell_ext hXz c0
        · rw [World.cell?_setCell_other _ _ _ _ (by simp <;> omega)]; exact cell_ext hXz c1
        · rw [World.cell?_setCell_other _ _ _ _ (by simp)]; exact y0
      have b0 := cell_ext hXz c0
      have b1 := cell_ext hXz c1
      clear B c0 c1 hr3 hown2 hT hX hX2 hXz tg hv3 hBl hE3 Hown1
      have B := Lib.hid hsn
      clear hsn
      go_wp2_with (first | (go_at_call 40; refine (R.out.r40 _ B.out.bx).mono ?_; rintro e w9 ⟨rfl, hE9⟩; replace B := Lib.hid (B.out.next hE9); (try clear c0 c1); have c0 := B.out.c0; have c1 := B.out.c1; (try clear x0 x1); have x0 := B.out.x0; have x1 := B.out.x1; clear hE9) | (go_at_call 25; have t0 := T25; clear t0 T25; refine (R.out.r25 _ B.out.bx).mono ?_; rintro e w9 ⟨rfl, hE9⟩; replace B := Lib.hid (B.out.next hE9); clear hE9 c0 c1 x0 x1; have c0 := B.out.c0; have c1 := B.out.c1; have x0 := B.out.x0; have x1 := B.out.x1) | (go_at_call 25; refine (R.out.rx _ o2 c2 B.out.rows).mono ?_; rintro e w9 ⟨rfl, hE9⟩; replace B := Lib.hid (B.out.next hE9); (try clear c0 c1); have c0 := B.out.c0; have c1 := B.out.c1; (try clear x0 x1); have x0 := B.out.x0; have x1 := B.out.x1; clear hE9) | (go_at_call 23; refine (R.out.rk _ B.out.bx).mono ?_; rintro e w9 ⟨rfl, hE9⟩; replace B := Lib.hid (B.out.next hE9); (try clear c0 c1); have c0 := B.out.c0; have c1 := B.out.c1; clear hE9))
      have B7 := Lib.hid (B.out.next (Ext.refl w9).drew)
      have g3 := cell_ext B.out.bx.ext Z0.out
      have g4 := cell_ext B.out.bx.ext Z1.out
      refine wp_region_plan (.take 0 <| .take 1 <| .take 2 <| .take 3 <| .take 4 <| .take 5 <| .take 6 <| .only 7 <| .take 8 <| .take 9 <| .take 10 <| .take 11 <| .take 12 <| .done) (fun W => Ext w9 W) mixed (by kernel_rfl) (by kernel_rfl) rfl (fun _ _ d _ _ h => by cases d <;> exact h) ((Ext.refl w9).drew) ?_
      repeat (first | (refine plan_take (v := ?_) rfl rfl (fun W hW => ?_) ?_; rotate_left; (focus (have e1 := cell_ext hW c0; have e2 := cell_ext hW c1; have e3 := cell_ext hW g3; have e4 := cell_ext hW g4; go_simp; first | exact rfl | (split <;> first | exact rfl | (exfalso; omega)) | done)); simp only [Act.put, List.setIfInBounds_toArray, List.set_cons_zero, List.set_cons_succ]) | (refine plan_skip rfl rfl ?_; simp only [Act.put, List.setIfInBounds_toArray, List.set_cons_zero, List.set_cons_succ]))
      refine plan_walk rfl ?_; intro K hK
      go_wp2_with (first | (go_at_call 33; refine (R33.out _ B7.out.bx).mono ?_; rintro e w8 ⟨rfl, hE8⟩))
      refine hK _ _ ((Ext.refl w9).drew.trans hE8) ?_
      repeat (first | (refine plan_take (v := ?_) rfl rfl (fun W hW => ?_) ?_; rotate_left; (focus (skip; go_simp; first | exact rfl | (split <;> first | exact rfl | (exfalso; omega)) | done)); simp only [Act.put, List.setIfInBounds_toArray, List.set_cons_zero, List.set_cons_succ]) | (refine plan_skip rfl rfl ?_; simp only [Act.put, List.setIfInBounds_toArray, List.set_cons_zero, List.set_cons_succ]))
      refine plan_done ?_
      replace B := Lib.hid (B7.out.next hE8)
      clear B7 c0 c1 x0 x1 g3 g4 hE8
      have c0 := B.out.c0
      have c1 := B.out.c1
      go_wp2_with (first | (go_at_call 23; refine (R.out.rk _ B.out.bx).mono ?_; rintro e w9 ⟨rfl, hE9⟩; replace B := Lib.hid (B.out.next hE9); (try clear c0 c1); have c0 := B.out.c0; have c1 := B.out.c1; clear hE9))
      go_ret
      exact ⟨rfl, B.out.bx.ext⟩
  · have k6 : ((X : Int) == 0) = false := by simpa using (by omega : ¬ X = 0)
    go_enter Tryz.func8, Tryz.ntmps8
    go_wp2_with (first | (go_at_call 29; refine (R.out.r29 _ B.out).mono ?_; rintro e w9 ⟨rfl, hE9⟩; replace B := Lib.hid (B.out.next hE9); (try clear c0 c1); have c0 := B.out.c0; have c1 := B.out.c1; clear hE9) | (go_at_call 41; refine (R.out.r41 _ B.out _).mono ?_; rintro e wz ⟨rfl, hE9⟩; replace B := Lib.hid (B.out.next hE9); clear hE9 c0 c1; have c0 := B.out.c0; have c1 := B.out.c1; have hlt : w.heap.size < wz.heap.size := World.block_lt_of_cell? wz _ c0; have hne := World.new_ne wz _ c0) | (at_builtin; refine wpList_appRows _ rfl _ _ rfl w ss oa cap rfl rfl H.out (B.out.ext.alloc _) Hoa.out hcap hcm (by omega) ?_; intro v1 w1 hown1 hE3; have Hown1 : Hid (OwnR w1 w.heap.size (wz.heap.size + 1) v1 ss) := Lib.hid (by simpa using hown1); clear hown1) | (at_builtin; refine wpList_appR _ rfl _ _ rfl w.heap.size (wz.heap.size + 1) _ ss rfl (Hown1.out.ext ((Ext.refl w1).alloc _)) w1.heap.size (.slice (some ⟨b, off, none⟩) s.length cb) s rfl (by go_simp) (RowE.of_below Hs.out ((B.out.ext.alloc (.cells #[.int .i64 n, .slice oa ss.length cap] 24)).trans (hE3.alloc _)) (Nat.le_refl _)) ?_ ?_ ?_))
    · omega
    · have := hE3.size; simp at this ⊢; omega
    · intro v2 w2 hown2 hBl
      have hX : Ext (wz.alloc (.cells #[.int .i64 n, .slice oa ss.length cap] 24)) w2 := (hE3.alloc (.cells #[.slice (some ⟨b, off, none⟩) s.length cb] 27)).below hBl (by simp)
      have hXz := ((Ext.refl wz).alloc (.cells #[.int .i64 n, .slice oa ss.length cap] 24)).trans hX
      have y0 : w2.cell? ⟨wz.heap.size, 0, none⟩ = some (.int .i64 n) := cell_ext hX (by go_simp)
      have y1 : w2.cell? ⟨wz.heap.size, 1, none⟩ = some (.slice oa ss.length cap) := cell_ext hX (by go_simp)
      have f1 : w2.frozen? ⟨wz.heap.size, 1, none⟩ = false := (hX.frozen (by simp)).trans (by go_simp)
      have tg : ∃ c, w2.heap[wz.heap.size]? = some (.cells c 24 (0, 0)) := ⟨_, (hX.block wz.heap.size (by simp)).trans (heap_alloc_new wz _)⟩
      obtain ⟨o2, c2, hv2, _⟩ := hown2.slice
      rw [show (ss ++ [s]).length = ss.length + 1 by simp] at hv2
      subst hv2
      have hT := (Turned.refl wz.heap.size w2).set 1 (.slice o2 (ss.length + 1) c2)
      obtain ⟨o3, c3, hv3, _, _, _, hr3⟩ := (hown2.turned hT (by omega) (by omega) (tag_set tg (by decide))).slice
      obtain rfl : o2 = o3 := by injection hv3
      have hX2 : Ext w (w2.setCell ⟨wz.heap.size, 1, none⟩ (.slice o2 (ss.length + 1) c2)) := ext_own ((B.out.next hXz).ext) hT (by omega)
      have hsn : Sn n ss s oa cap wz.heap.size o2 c2 w (w2.setCell ⟨wz.heap.size, 1, none⟩ (.slice o2 (ss.length + 1) c2)) := by
        refine ⟨⟨hX2, H.out.ext hX2, ?_, ?_⟩, ?_, World.cell?_setCell_same _ _ _ y1, hr3⟩
        · rw [World.cell?_setCell_other _ _ _ _ (by simp <;> omega)]; exact cell_ext hXz c0
        · rw [World.cell?_setCell_other _ _ _ _ (by simp <;> omega)]; exact cell_ext hXz c1
        · rw [World.cell?_setCell_other _ _ _ _ (by simp)]; exact y0
      have b0 := cell_ext hXz c0
      have b1 := cell_ext hXz c1
      clear B c0 c1 hr3 hown2 hT hX hX2 hXz tg hv3 hBl hE3 Hown1
      have B := Lib.hid hsn
      clear hsn
      go_wp2_with (first | (go_at_call 40; refine (R.out.r40 _ B.out.bx).mono ?_; rintro e w9 ⟨rfl, hE9⟩; replace B := Lib.hid (B.out.next hE9); (try clear c0 c1); have c0 := B.out.c0; have c1 := B.out.c1; (try clear x0 x1); have x0 := B.out.x0; have x1 := B.out.x1; clear hE9) | (go_at_call 25; have t0 := T25; clear t0 T25; refine (R.out.r25 _ B.out.bx).mono ?_; rintro e w9 ⟨rfl, hE9⟩; replace B := Lib.hid (B.out.next hE9); clear hE9 c0 c1 x0 x1; have c0 := B.out.c0; have c1 := B.out.c1; have x0 := B.out.x0; have x1 := B.out.x1) | (go_at_call 25; refine (R.out.rx _ o2 c2 B.out.rows).mono ?_; rintro e w9 ⟨rfl, hE9⟩; replace B := Lib.hid (B.out.next hE9); (try clear c0 c1); have c0 := B.out.c0; have c1 := B.out.c1; (try clear x0 x1); have x0 := B.out.x0; have x1 := B.out.x1; clear hE9) | (go_at_call 23; refine (R.out.rk _ B.out.bx).mono ?_; rintro e w9 ⟨rfl, hE9⟩; replace B := Lib.hid (B.out.next hE9); (try clear c0 c1); have c0 := B.out.c0; have c1 := B.out.c1; clear hE9))
      have B7 := Lib.hid (B.out.next (Ext.refl w9).drew)
      have g3 := cell_ext B.out.bx.ext Z0.out
      have g4 := cell_ext B.out.bx.ext Z1.out
      refine wp_region_plan (.take 0 <| .take 1 <| .take 2 <| .take 3 <| .take 4 <| .take 5 <| .take 6 <| .only 7 <| .take 8 <| .take 9 <| .take 10 <| .take 11 <| .take 12 <| .done) (fun W => Ext w9 W) mixed (by kernel_rfl) (by kernel_rfl) rfl (fun _ _ d _ _ h => by cases d <;> exact h) ((Ext.refl w9).drew) ?_
      repeat (first | (refine plan_take (v := ?_) rfl rfl (fun W hW => ?_) ?_; rotate_left; (focus (have e1 := cell_ext hW c0; have e2 := cell_ext hW c1; have e3 := cell_ext hW g3; have e4 := cell_ext hW g4; go_simp; first | exact rfl | (split <;> first | exact rfl | (exfalso; omega)) | done)); simp only [Act.put, List.setIfInBounds_toArray, List.set_cons_zero, List.set_cons_succ]) | (refine plan_skip rfl rfl ?_; simp only [Act.put, List.setIfInBounds_toArray, List.set_cons_zero, List.set_cons_succ]))
      refine plan_walk rfl ?_; intro K hK
      go_wp2_with (first | (go_at_call 33; refine (R33.out _ B7.out.bx).mono ?_; rintro e w8 ⟨rfl, hE8⟩))
      refine hK _ _ ((Ext.refl w9).drew.trans hE8) ?_
      repeat (first | (refine plan_take (v := ?_) rfl rfl (fun W hW => ?_) ?_; rotate_left; (focus (skip; go_simp; first | exact rfl | (split <;> first | exact rfl | (exfalso; omega)) | done)); simp only [Act.put, List.setIfInBounds_toArray, List.set_cons_zero, List.set_cons_succ]) | (refine plan_skip rfl rfl ?_; simp only [Act.put, List.setIfInBounds_toArray, List.set_cons_zero, List.set_cons_succ]))
      refine plan_done ?_
      replace B := Lib.hid (B7.out.next hE8)
      clear B7 c0 c1 x0 x1 g3 g4 hE8
      have c0 := B.out.c0
      have c1 := B.out.c1
      go_wp2_with (first | (go_at_call 23; refine (R.out.rk _ B.out.bx).mono ?_; rintro e w9 ⟨rfl, hE9⟩; replace B := Lib.hid (B.out.next hE9); (try clear c0 c1); have c0 := B.out.c0; have c1 := B.out.c1; clear hE9))
      go_ret
      exact ⟨rfl, B.out.bx.ext⟩

end Go.Proofs.YtiehfpkcaoeieaaGreatDoor
