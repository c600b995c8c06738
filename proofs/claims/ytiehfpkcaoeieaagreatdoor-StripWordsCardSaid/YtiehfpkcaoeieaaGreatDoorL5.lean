/- The walk of StripWords: it answers true. No condition. -/
import Derived.Test.YtiehfpkcaoeieaaGreatDoorRefPl
set_option linter.unusedVariables false
set_option linter.unusedSimpArgs false
namespace Go.Proofs.YtiehfpkcaoeieaaGreatDoor
open Go.RowKit Go.My Go.StripM

set_option maxRecDepth 100000 in
set_option maxHeartbeats 4000000 in
theorem law5b {n : Nat} {ss : List (List Nat)} {oa : Option Addr} {cap a : Nat} {y : Int} {w : World} (g : Good n ss) (h : RowsAt w oa (upp ss)) (hl : (upp ss).length ≤ 9223372036854775807)
    (hcap : ss.length ≤ cap) (hoa : oa = none → cap = 0) (hs : shortB (upp ss) = true) (ha : a < n) (m : Int) (hm : w.cell? ⟨1, 0, none⟩ = some (.int .i64 m)) :
    Calls Tryz.prog 5 #[.agg #[.int .i64 n, .slice oa ss.length cap], .int .i64 a, .int .i64 y] w fun e w' => e = .returned (.bool true) ∧ Ext w w' := by
  have B := Lib.hid (Bx.start (n := n) (cap := cap) h)
  have hn := board_small g.isB
  have hia : inB (a : Int) 0 ((n : Int) - 1) = true := by simp only [inB, Bool.and_eq_true, decide_eq_true_eq]; omega
  have R22 := Lib.hid (fun (W : World) (hW : Bx n ss oa cap w W) => short_any n (upp ss) oa cap W hW.rows hl)
  have R26 := Lib.hid (fun (W : World) (hW : Bx n ss oa cap w W) => rBoard_any n (upp ss) oa cap W hW.rows hl)
  have R35 := Lib.hid (fun (W : World) (v : Value) => rName_any n a v W hn.1 hn.2)
  have R35y := Lib.hid (fun (W : World) (v : Value) => rName_any n y v W hn.1 hn.2)
  have Rk := Lib.hid (fun (W : World) (hW : Bx n ss oa cap w W) => known_any W m (cell_ext hW.ext hm))
  have R36 := Lib.hid (fun (W : World) (hW : Bx n ss oa cap w W) => can_good n ss oa cap W hW.rows g)
  have T35 := Lib.hid trivial
  simp only [upp_length, hs] at R22
  simp only [upp_length, g.isB] at R26
  simp only [hia] at R35
  cases hc : cyc n ss
  · have hc0 : ¬ cnt n ss = 0 := fun e => by rw [cnt_zero g.valid, hc] at e; cases e
    have R34 := Lib.hid (fun (W : World) (hW : Bx n ss oa cap w W) => places_any n ss oa cap a W hW.rows g ha hc0)
    have R37 := Lib.hid (fun (W : World) (hW : Bx n ss oa cap w W) => places_r n ss oa cap a W hW.rows g ha hc)
    simp only [hc] at R36
    cases hy : inB y 0 ((n : Int) - 1)
    · have R33 := Lib.hid (fun (W : World) (hW : Bx n ss oa cap w W) => before_bad n (upp ss) oa cap a y W hW.rows hl (by rw [hy]; simp))
      simp only [upp_length] at R33
      simp only [hy] at R35y
      clear h hl hs hm g hn hc ha hia hcap hoa hc0 hy
      generalize (n : Int) - 1 - (behinds (tab n ss) a n : Nat) = HI at *
      generalize ((befores (tab n ss) a n : Nat) : Int) = LO at *
      go_enter Tryz.func5, Tryz.ntmps5
      go_wp2_with (first | (go_at_call 22; refine (R22.out _ B.out).mono ?_; rintro e w9 ⟨rfl, hE9⟩; replace B := Lib.hid (B.out.next hE9); (try clear c0 c1); have c0 := B.out.c0; have c1 := B.out.c1; clear hE9) | (go_at_call 33; refine (R33.out _ B.out).mono ?_; rintro e w9 ⟨rfl, hE9⟩; replace B := Lib.hid (B.out.next hE9); (try clear c0 c1); have c0 := B.out.c0; have c1 := B.out.c1; clear hE9) | (go_at_call 34; refine (R34.out _ B.out).mono ?_; rintro e wp ⟨rfl, hE9⟩; replace B := Lib.hid (B.out.next hE9); (try clear c0 c1); have c0 := B.out.c0; have c1 := B.out.c1; have hlt : w.heap.size < wp.heap.size := World.block_lt_of_cell? wp _ c0; have hne := World.new_ne wp _ c0; clear hE9) | (go_at_call 26; refine (R26.out _ (B.out.next ((Ext.refl wp).alloc _))).mono ?_; rintro e w9 ⟨rfl, hE9⟩; have p0 : w9.cell? ⟨wp.heap.size, 0, none⟩ = some (.int .i64 LO) := cell_ext hE9 (by go_simp); have p1 : w9.cell? ⟨wp.heap.size, 1, none⟩ = some (.int .i64 HI) := cell_ext hE9 (by go_simp); have hE8 := ((Ext.refl wp).alloc _).trans hE9; replace B := Lib.hid (B.out.next hE8); clear hE8 hE9 c0 c1; have c0 := B.out.c0; have c1 := B.out.c1) | (go_at_call 35; have t0 := T35; clear t0 T35; refine (R35.out _ _).mono ?_; rintro e w9 ⟨rfl, hE9⟩; replace B := Lib.hid (B.out.next hE9); (try clear c0 c1); have c0 := B.out.c0; have c1 := B.out.c1; replace p0 := cell_ext hE9 p0; replace p1 := cell_ext hE9 p1; clear hE9) | (go_at_call 36; refine (R36.out _ B.out).mono ?_; rintro e w9 ⟨rfl, hE9⟩; replace B := Lib.hid (B.out.next hE9); (try clear c0 c1); have c0 := B.out.c0; have c1 := B.out.c1; replace p0 := cell_ext hE9 p0; replace p1 := cell_ext hE9 p1; clear hE9))
      have B7 := Lib.hid (B.out.next (Ext.refl _).drew)
      refine wp_region_plan (.take 0 <| .take 1 <| .take 2 <| .take 3 <| .take 4 <| .take 5 <| .only 6 <| .take 7 <| .take 8 <| .done) (fun W => Ext w9 W) mixed (by kernel_rfl) (by kernel_rfl) rfl (fun _ _ d _ _ h => by cases d <;> exact h) ((Ext.refl w9).drew) ?_
      repeat (first | (refine plan_take (v := ?_) rfl rfl (fun W hW => ?_) ?_; rotate_left; (focus (have e1 := cell_ext hW c0; have e2 := cell_ext hW c1; have e3 := cell_ext hW p0; have e4 := cell_ext hW p1; go_simp; first | exact rfl | (split <;> first | exact rfl | (exfalso; omega)) | done)); simp only [Act.put, List.setIfInBounds_toArray, List.set_cons_zero, List.set_cons_succ]) | (refine plan_skip rfl rfl ?_; simp only [Act.put, List.setIfInBounds_toArray, List.set_cons_zero, List.set_cons_succ]))
      refine plan_walk rfl ?_; intro K hK
      go_wp2_with (first | (go_at_call 37; refine (R37.out _ B7.out).mono ?_; rintro e w8 ⟨rfl, hE9⟩))
      refine hK _ _ ((Ext.refl w9).drew.trans hE9) ?_
      repeat (first | (refine plan_take (v := ?_) rfl rfl (fun W hW => ?_) ?_; rotate_left; (focus (skip; go_simp; first | exact rfl | (split <;> first | exact rfl | (exfalso; omega)) | done)); simp only [Act.put, List.setIfInBounds_toArray, List.set_cons_zero, List.set_cons_succ]) | (refine plan_skip rfl rfl ?_; simp only [Act.put, List.setIfInBounds_toArray, List.set_cons_zero, List.set_cons_succ]))
      refine plan_done ?_
      replace B := Lib.hid (B7.out.next hE9)
      clear B7 c0 c1 p0 p1
      have c0 := B.out.c0
      have c1 := B.out.c1
      go_wp2_with (first | (go_at_call 35; refine (R35y.out _ _).mono ?_; rintro e w9 ⟨rfl, hE9⟩; replace B := Lib.hid (B.out.next hE9); (try clear c0 c1); have c0 := B.out.c0; have c1 := B.out.c1; clear hE9) | (go_at_call 23; refine (Rk.out _ B.out).mono ?_; rintro e w9 ⟨rfl, hE9⟩; replace B := Lib.hid (B.out.next hE9); (try clear c0 c1); have c0 := B.out.c0; have c1 := B.out.c1; clear hE9))
      go_ret
      exact ⟨rfl, B.out.ext⟩
    · simp only [hy] at R35y
      by_cases hay : (a : Int) = y
      · have hayb : ((a : Int) == y) = true := by simp [hay]
        have R33 := Lib.hid (fun (W : World) (hW : Bx n ss oa cap w W) => before_bad n (upp ss) oa cap a y W hW.rows hl (by rw [hayb]; simp))
        simp only [upp_length] at R33
        subst hay
        clear h hl hs hm g hn hc ha hia hcap hoa hc0 hy
        generalize (n : Int) - 1 - (behinds (tab n ss) a n : Nat) = HI at *
        generalize ((befores (tab n ss) a n : Nat) : Int) = LO at *
        go_enter Tryz.func5, Tryz.ntmps5
        go_wp2_with (first | (go_at_call 22; refine (R22.out _ B.out).mono ?_; rintro e w9 ⟨rfl, hE9⟩; replace B := Lib.hid (B.out.next hE9); (try clear c0 c1); have c0 := B.out.c0; have c1 := B.out.c1; clear hE9) | (go_at_call 33; refine (R33.out _ B.out).mono ?_; rintro e w9 ⟨rfl, hE9⟩; replace B := Lib.hid (B.out.next hE9); (try clear c0 c1); have c0 := B.out.c0; have c1 := B.out.c1; clear hE9) | (go_at_call 34; refine (R34.out _ B.out).mono ?_; rintro e wp ⟨rfl, hE9⟩; replace B := Lib.hid (B.out.next hE9); (try clear c0 c1); have c0 := B.out.c0; have c1 := B.out.c1; have hlt : w.heap.size < wp.heap.size := World.block_lt_of_cell? wp _ c0; have hne := World.new_ne wp _ c0; clear hE9) | (go_at_call 26; refine (R26.out _ (B.out.next ((Ext.refl wp).alloc _))).mono ?_; rintro e w9 ⟨rfl, hE9⟩; have p0 : w9.cell? ⟨wp.heap.size, 0, none⟩ = some (.int .i64 LO) := cell_ext hE9 (by go_simp); have p1 : w9.cell? ⟨wp.heap.size, 1, none⟩ = some (.int .i64 HI) := cell_ext hE9 (by go_simp); have hE8 := ((Ext.refl wp).alloc _).trans hE9; replace B := Lib.hid (B.out.next hE8); clear hE8 hE9 c0 c1; have c0 := B.out.c0; have c1 := B.out.c1) | (go_at_call 35; have t0 := T35; clear t0 T35; refine (R35.out _ _).mono ?_; rintro e w9 ⟨rfl, hE9⟩; replace B := Lib.hid (B.out.next hE9); (try clear c0 c1); have c0 := B.out.c0; have c1 := B.out.c1; replace p0 := cell_ext hE9 p0; replace p1 := cell_ext hE9 p1; clear hE9) | (go_at_call 36; refine (R36.out _ B.out).mono ?_; rintro e w9 ⟨rfl, hE9⟩; replace B := Lib.hid (B.out.next hE9); (try clear c0 c1); have c0 := B.out.c0; have c1 := B.out.c1; replace p0 := cell_ext hE9 p0; replace p1 := cell_ext hE9 p1; clear hE9))
        have B7 := Lib.hid (B.out.next (Ext.refl _).drew)
        refine wp_region_plan (.take 0 <| .take 1 <| .take 2 <| .take 3 <| .take 4 <| .take 5 <| .only 6 <| .take 7 <| .take 8 <| .done) (fun W => Ext w9 W) mixed (by kernel_rfl) (by kernel_rfl) rfl (fun _ _ d _ _ h => by cases d <;> exact h) ((Ext.refl w9).drew) ?_
        repeat (first | (refine plan_take (v := ?_) rfl rfl (fun W hW => ?_) ?_; rotate_left; (focus (have e1 := cell_ext hW c0; have e2 := cell_ext hW c1; have e3 := cell_ext hW p0; have e4 := cell_ext hW p1; go_simp; first | exact rfl | (split <;> first | exact rfl | (exfalso; omega)) | done)); simp only [Act.put, List.setIfInBounds_toArray, List.set_cons_zero, List.set_cons_succ]) | (refine plan_skip rfl rfl ?_; simp only [Act.put, List.setIfInBounds_toArray, List.set_cons_zero, List.set_cons_succ]))
        refine plan_walk rfl ?_; intro K hK
        go_wp2_with (first | (go_at_call 37; refine (R37.out _ B7.out).mono ?_; rintro e w8 ⟨rfl, hE9⟩))
        refine hK _ _ ((Ext.refl w9).drew.trans hE9) ?_
        repeat (first | (refine plan_take (v := ?_) rfl rfl (fun W hW => ?_) ?_; rotate_left; (focus (skip; go_simp; first | exact rfl | (split <;> first | exact rfl | (exfalso; omega)) | done)); simp only [Act.put, List.setIfInBounds_toArray, List.set_cons_zero, List.set_cons_succ]) | (refine plan_skip rfl rfl ?_; simp only [Act.put, List.setIfInBounds_toArray, List.set_cons_zero, List.set_cons_succ]))
        refine plan_done ?_
        replace B := Lib.hid (B7.out.next hE9)
        clear B7 c0 c1 p0 p1
        have c0 := B.out.c0
        have c1 := B.out.c1
        go_wp2_with (first | (go_at_call 35; refine (R35y.out _ _).mono ?_; rintro e w9 ⟨rfl, hE9⟩; replace B := Lib.hid (B.out.next hE9); (try clear c0 c1); have c0 := B.out.c0; have c1 := B.out.c1; clear hE9) | (go_at_call 23; refine (Rk.out _ B.out).mono ?_; rintro e w9 ⟨rfl, hE9⟩; replace B := Lib.hid (B.out.next hE9); (try clear c0 c1); have c0 := B.out.c0; have c1 := B.out.c1; clear hE9))
        go_ret
        exact ⟨rfl, B.out.ext⟩
      · have hayb : ((a : Int) == y) = false := by simpa using hay
        obtain ⟨b, rfl, hb⟩ := name_lift hy
        have hab : a ≠ b := fun e => hay (by rw [e])
        have R33 := Lib.hid (fun (W : World) (hW : Bx n ss oa cap w W) => before_any n ss oa cap a b W hW.rows g hoa hcap ha hb hab hc0)
        have R38 := Lib.hid (fun (W : World) (hW : Bx n ss oa cap w W) => before_r n ss oa cap a b W hW.rows g ha hb hab)
        clear h hl hs hm g hn hc ha hia hcap hoa hc0 hy hb hab
        generalize wordI (cnt n (ss ++ [[a, b]])) (cnt n ss) = X at *
        generalize (n : Int) - 1 - (behinds (tab n ss) a n : Nat) = HI at *
        generalize ((befores (tab n ss) a n : Nat) : Int) = LO at *
        go_enter Tryz.func5, Tryz.ntmps5
        go_wp2_with (first | (go_at_call 22; refine (R22.out _ B.out).mono ?_; rintro e w9 ⟨rfl, hE9⟩; replace B := Lib.hid (B.out.next hE9); (try clear c0 c1); have c0 := B.out.c0; have c1 := B.out.c1; clear hE9) | (go_at_call 33; refine (R33.out _ B.out).mono ?_; rintro e w9 ⟨rfl, hE9⟩; replace B := Lib.hid (B.out.next hE9); (try clear c0 c1); have c0 := B.out.c0; have c1 := B.out.c1; clear hE9) | (go_at_call 34; refine (R34.out _ B.out).mono ?_; rintro e wp ⟨rfl, hE9⟩; replace B := Lib.hid (B.out.next hE9); (try clear c0 c1); have c0 := B.out.c0; have c1 := B.out.c1; have hlt : w.heap.size < wp.heap.size := World.block_lt_of_cell? wp _ c0; have hne := World.new_ne wp _ c0; clear hE9) | (go_at_call 26; refine (R26.out _ (B.out.next ((Ext.refl wp).alloc _))).mono ?_; rintro e w9 ⟨rfl, hE9⟩; have p0 : w9.cell? ⟨wp.heap.size, 0, none⟩ = some (.int .i64 LO) := cell_ext hE9 (by go_simp); have p1 : w9.cell? ⟨wp.heap.size, 1, none⟩ = some (.int .i64 HI) := cell_ext hE9 (by go_simp); have hE8 := ((Ext.refl wp).alloc _).trans hE9; replace B := Lib.hid (B.out.next hE8); clear hE8 hE9 c0 c1; have c0 := B.out.c0; have c1 := B.out.c1) | (go_at_call 35; have t0 := T35; clear t0 T35; refine (R35.out _ _).mono ?_; rintro e w9 ⟨rfl, hE9⟩; replace B := Lib.hid (B.out.next hE9); (try clear c0 c1); have c0 := B.out.c0; have c1 := B.out.c1; replace p0 := cell_ext hE9 p0; replace p1 := cell_ext hE9 p1; clear hE9) | (go_at_call 36; refine (R36.out _ B.out).mono ?_; rintro e w9 ⟨rfl, hE9⟩; replace B := Lib.hid (B.out.next hE9); (try clear c0 c1); have c0 := B.out.c0; have c1 := B.out.c1; replace p0 := cell_ext hE9 p0; replace p1 := cell_ext hE9 p1; clear hE9))
        have B7 := Lib.hid (B.out.next (Ext.refl _).drew)
        refine wp_region_plan (.take 0 <| .take 1 <| .take 2 <| .take 3 <| .take 4 <| .take 5 <| .only 6 <| .take 7 <| .take 8 <| .done) (fun W => Ext w9 W) mixed (by kernel_rfl) (by kernel_rfl) rfl (fun _ _ d _ _ h => by cases d <;> exact h) ((Ext.refl w9).drew) ?_
        repeat (first | (refine plan_take (v := ?_) rfl rfl (fun W hW => ?_) ?_; rotate_left; (focus (have e1 := cell_ext hW c0; have e2 := cell_ext hW c1; have e3 := cell_ext hW p0; have e4 := cell_ext hW p1; go_simp; first | exact rfl | (split <;> first | exact rfl | (exfalso; omega)) | done)); simp only [Act.put, List.setIfInBounds_toArray, List.set_cons_zero, List.set_cons_succ]) | (refine plan_skip rfl rfl ?_; simp only [Act.put, List.setIfInBounds_toArray, List.set_cons_zero, List.set_cons_succ]))
        refine plan_walk rfl ?_; intro K hK
        go_wp2_with (first | (go_at_call 37; refine (R37.out _ B7.out).mono ?_; rintro e w8 ⟨rfl, hE9⟩))
        refine hK _ _ ((Ext.refl w9).drew.trans hE9) ?_
        repeat (first | (refine plan_take (v := ?_) rfl rfl (fun W hW => ?_) ?_; rotate_left; (focus (skip; go_simp; first | exact rfl | (split <;> first | exact rfl | (exfalso; omega)) | done)); simp only [Act.put, List.setIfInBounds_toArray, List.set_cons_zero, List.set_cons_succ]) | (refine plan_skip rfl rfl ?_; simp only [Act.put, List.setIfInBounds_toArray, List.set_cons_zero, List.set_cons_succ]))
        refine plan_done ?_
        replace B := Lib.hid (B7.out.next hE9)
        clear B7 c0 c1 p0 p1
        have c0 := B.out.c0
        have c1 := B.out.c1
        go_wp2_with (first | (go_at_call 35; refine (R35y.out _ _).mono ?_; rintro e w9 ⟨rfl, hE9⟩; replace B := Lib.hid (B.out.next hE9); (try clear c0 c1); have c0 := B.out.c0; have c1 := B.out.c1; clear hE9) | (go_at_call 38; refine (R38.out _ B.out).mono ?_; rintro e w9 ⟨rfl, hE9⟩; replace B := Lib.hid (B.out.next hE9); (try clear c0 c1); have c0 := B.out.c0; have c1 := B.out.c1; clear hE9) | (go_at_call 23; refine (Rk.out _ B.out).mono ?_; rintro e w9 ⟨rfl, hE9⟩; replace B := Lib.hid (B.out.next hE9); (try clear c0 c1); have c0 := B.out.c0; have c1 := B.out.c1; clear hE9))
        go_ret
        exact ⟨rfl, B.out.ext⟩
  · have hc0 : cnt n ss = 0 := (cnt_zero g.valid).2 hc
    have R34 := Lib.hid (fun (W : World) (hW : Bx n ss oa cap w W) => places_none n ss oa cap a W hW.rows g ha hc0)
    simp only [hc] at R36
    cases hy : inB y 0 ((n : Int) - 1)
    · have R33 := Lib.hid (fun (W : World) (hW : Bx n ss oa cap w W) => before_bad n (upp ss) oa cap a y W hW.rows hl (by rw [hy]; simp))
      simp only [upp_length] at R33
      simp only [hy] at R35y
      clear h hl hs hm g hn hc ha hia hcap hoa hc0 hy
      go_enter Tryz.func5, Tryz.ntmps5
      go_wp2_with (first | (go_at_call 22; refine (R22.out _ B.out).mono ?_; rintro e w9 ⟨rfl, hE9⟩; replace B := Lib.hid (B.out.next hE9); (try clear c0 c1); have c0 := B.out.c0; have c1 := B.out.c1; clear hE9) | (go_at_call 33; refine (R33.out _ B.out).mono ?_; rintro e w9 ⟨rfl, hE9⟩; replace B := Lib.hid (B.out.next hE9); (try clear c0 c1); have c0 := B.out.c0; have c1 := B.out.c1; clear hE9) | (go_at_call 34; refine (R34.out _ B.out).mono ?_; rintro e wp ⟨rfl, hE9⟩; replace B := Lib.hid (B.out.next hE9); (try clear c0 c1); have c0 := B.out.c0; have c1 := B.out.c1; have hlt : w.heap.size < wp.heap.size := World.block_lt_of_cell? wp _ c0; have hne := World.new_ne wp _ c0; clear hE9) | (go_at_call 26; refine (R26.out _ (B.out.next ((Ext.refl wp).alloc _))).mono ?_; rintro e w9 ⟨rfl, hE9⟩; have p0 : w9.cell? ⟨wp.heap.size, 0, none⟩ = some (.int .i64 0) := cell_ext hE9 (by go_simp); have p1 : w9.cell? ⟨wp.heap.size, 1, none⟩ = some (.int .i64 0) := cell_ext hE9 (by go_simp); have hE8 := ((Ext.refl wp).alloc _).trans hE9; replace B := Lib.hid (B.out.next hE8); clear hE8 hE9 c0 c1; have c0 := B.out.c0; have c1 := B.out.c1) | (go_at_call 35; have t0 := T35; clear t0 T35; refine (R35.out _ _).mono ?_; rintro e w9 ⟨rfl, hE9⟩; replace B := Lib.hid (B.out.next hE9); (try clear c0 c1); have c0 := B.out.c0; have c1 := B.out.c1; replace p0 := cell_ext hE9 p0; replace p1 := cell_ext hE9 p1; clear hE9) | (go_at_call 36; refine (R36.out _ B.out).mono ?_; rintro e w9 ⟨rfl, hE9⟩; replace B := Lib.hid (B.out.next hE9); (try clear c0 c1); have c0 := B.out.c0; have c1 := B.out.c1; replace p0 := cell_ext hE9 p0; replace p1 := cell_ext hE9 p1; clear hE9) | (go_at_call 35; refine (R35y.out _ _).mono ?_; rintro e w9 ⟨rfl, hE9⟩; replace B := Lib.hid (B.out.next hE9); (try clear c0 c1); have c0 := B.out.c0; have c1 := B.out.c1; replace p0 := cell_ext hE9 p0; replace p1 := cell_ext hE9 p1; clear hE9) | (go_at_call 23; refine (Rk.out _ B.out).mono ?_; rintro e w9 ⟨rfl, hE9⟩; replace B := Lib.hid (B.out.next hE9); (try clear c0 c1); have c0 := B.out.c0; have c1 := B.out.c1; clear hE9))
      go_ret
      exact ⟨rfl, B.out.ext⟩
    · simp only [hy] at R35y
      by_cases hay : (a : Int) = y
      · have hayb : ((a : Int) == y) = true := by simp [hay]
        have R33 := Lib.hid (fun (W : World) (hW : Bx n ss oa cap w W) => before_bad n (upp ss) oa cap a y W hW.rows hl (by rw [hayb]; simp))
        simp only [upp_length] at R33
        subst hay
        clear h hl hs hm g hn hc ha hia hcap hoa hc0 hy
        go_enter Tryz.func5, Tryz.ntmps5
        go_wp2_with (first | (go_at_call 22; refine (R22.out _ B.out).mono ?_; rintro e w9 ⟨rfl, hE9⟩; replace B := Lib.hid (B.out.next hE9); (try clear c0 c1); have c0 := B.out.c0; have c1 := B.out.c1; clear hE9) | (go_at_call 33; refine (R33.out _ B.out).mono ?_; rintro e w9 ⟨rfl, hE9⟩; replace B := Lib.hid (B.out.next hE9); (try clear c0 c1); have c0 := B.out.c0; have c1 := B.out.c1; clear hE9) | (go_at_call 34; refine (R34.out _ B.out).mono ?_; rintro e wp ⟨rfl, hE9⟩; replace B := Lib.hid (B.out.next hE9); (try clear c0 c1); have c0 := B.out.c0; have c1 := B.out.c1; have hlt : w.heap.size < wp.heap.size := World.block_lt_of_cell? wp _ c0; have hne := World.new_ne wp _ c0; clear hE9) | (go_at_call 26; refine (R26.out _ (B.out.next ((Ext.refl wp).alloc _))).mono ?_; rintro e w9 ⟨rfl, hE9⟩; have p0 : w9.cell? ⟨wp.heap.size, 0, none⟩ = some (.int .i64 0) := cell_ext hE9 (by go_simp); have p1 : w9.cell? ⟨wp.heap.size, 1, none⟩ = some (.int .i64 0) := cell_ext hE9 (by go_simp); have hE8 := ((Ext.refl wp).alloc _).trans hE9; replace B := Lib.hid (B.out.next hE8); clear hE8 hE9 c0 c1; have c0 := B.out.c0; have c1 := B.out.c1) | (go_at_call 35; have t0 := T35; clear t0 T35; refine (R35.out _ _).mono ?_; rintro e w9 ⟨rfl, hE9⟩; replace B := Lib.hid (B.out.next hE9); (try clear c0 c1); have c0 := B.out.c0; have c1 := B.out.c1; replace p0 := cell_ext hE9 p0; replace p1 := cell_ext hE9 p1; clear hE9) | (go_at_call 36; refine (R36.out _ B.out).mono ?_; rintro e w9 ⟨rfl, hE9⟩; replace B := Lib.hid (B.out.next hE9); (try clear c0 c1); have c0 := B.out.c0; have c1 := B.out.c1; replace p0 := cell_ext hE9 p0; replace p1 := cell_ext hE9 p1; clear hE9) | (go_at_call 35; refine (R35y.out _ _).mono ?_; rintro e w9 ⟨rfl, hE9⟩; replace B := Lib.hid (B.out.next hE9); (try clear c0 c1); have c0 := B.out.c0; have c1 := B.out.c1; replace p0 := cell_ext hE9 p0; replace p1 := cell_ext hE9 p1; clear hE9) | (go_at_call 23; refine (Rk.out _ B.out).mono ?_; rintro e w9 ⟨rfl, hE9⟩; replace B := Lib.hid (B.out.next hE9); (try clear c0 c1); have c0 := B.out.c0; have c1 := B.out.c1; clear hE9))
        go_ret
        exact ⟨rfl, B.out.ext⟩
      · have hayb : ((a : Int) == y) = false := by simpa using hay
        obtain ⟨b, rfl, hb⟩ := name_lift hy
        have hab : a ≠ b := fun e => hay (by rw [e])
        have R33 := Lib.hid (fun (W : World) (hW : Bx n ss oa cap w W) => before_none n ss oa cap a b W hW.rows g hoa ha hb hab hc0)
        clear h hl hs hm g hn hc ha hia hcap hoa hc0 hy hb hab
        go_enter Tryz.func5, Tryz.ntmps5
        go_wp2_with (first | (go_at_call 22; refine (R22.out _ B.out).mono ?_; rintro e w9 ⟨rfl, hE9⟩; replace B := Lib.hid (B.out.next hE9); (try clear c0 c1); have c0 := B.out.c0; have c1 := B.out.c1; clear hE9) | (go_at_call 33; refine (R33.out _ B.out).mono ?_; rintro e w9 ⟨rfl, hE9⟩; replace B := Lib.hid (B.out.next hE9); (try clear c0 c1); have c0 := B.out.c0; have c1 := B.out.c1; clear hE9) | (go_at_call 34; refine (R34.out _ B.out).mono ?_; rintro e wp ⟨rfl, hE9⟩; replace B := Lib.hid (B.out.next hE9); (try clear c0 c1); have c0 := B.out.c0; have c1 := B.out.c1; have hlt : w.heap.size < wp.heap.size := World.block_lt_of_cell? wp _ c0; have hne := World.new_ne wp _ c0; clear hE9) | (go_at_call 26; refine (R26.out _ (B.out.next ((Ext.refl wp).alloc _))).mono ?_; rintro e w9 ⟨rfl, hE9⟩; have p0 : w9.cell? ⟨wp.heap.size, 0, none⟩ = some (.int .i64 0) := cell_ext hE9 (by go_simp); have p1 : w9.cell? ⟨wp.heap.size, 1, none⟩ = some (.int .i64 0) := cell_ext hE9 (by go_simp); have hE8 := ((Ext.refl wp).alloc _).trans hE9; replace B := Lib.hid (B.out.next hE8); clear hE8 hE9 c0 c1; have c0 := B.out.c0; have c1 := B.out.c1) | (go_at_call 35; have t0 := T35; clear t0 T35; refine (R35.out _ _).mono ?_; rintro e w9 ⟨rfl, hE9⟩; replace B := Lib.hid (B.out.next hE9); (try clear c0 c1); have c0 := B.out.c0; have c1 := B.out.c1; replace p0 := cell_ext hE9 p0; replace p1 := cell_ext hE9 p1; clear hE9) | (go_at_call 36; refine (R36.out _ B.out).mono ?_; rintro e w9 ⟨rfl, hE9⟩; replace B := Lib.hid (B.out.next hE9); (try clear c0 c1); have c0 := B.out.c0; have c1 := B.out.c1; replace p0 := cell_ext hE9 p0; replace p1 := cell_ext hE9 p1; clear hE9) | (go_at_call 35; refine (R35y.out _ _).mono ?_; rintro e w9 ⟨rfl, hE9⟩; replace B := Lib.hid (B.out.next hE9); (try clear c0 c1); have c0 := B.out.c0; have c1 := B.out.c1; replace p0 := cell_ext hE9 p0; replace p1 := cell_ext hE9 p1; clear hE9) | (go_at_call 23; refine (Rk.out _ B.out).mono ?_; rintro e w9 ⟨rfl, hE9⟩; replace B := Lib.hid (B.out.next hE9); (try clear c0 c1); have c0 := B.out.c0; have c1 := B.out.c1; clear hE9))
        go_ret
        exact ⟨rfl, B.out.ext⟩

set_option maxRecDepth 100000 in
set_option maxHeartbeats 4000000 in
theorem law5 {n : Int} {ls : List (List Int)} {oa : Option Addr} {cap : Nat} {x y : Int} {w : World} (h : BArg w ls oa cap) (hx1 : -9223372036854775808 ≤ x) (hx2 : x ≤ 9223372036854775807) (hy1 : -9223372036854775808 ≤ y) (hy2 : y ≤ 9223372036854775807)
    (m : Int) (hm : w.cell? ⟨1, 0, none⟩ = some (.int .i64 m)) :
    Calls Tryz.prog 5 #[.agg #[.int .i64 n, .slice oa ls.length cap], .int .i64 x, .int .i64 y] w fun e w' => e = .returned (.bool true) ∧ Ext w w' := by
  have hl := h.small
  have Hm := Lib.hid hm
  have B := Lib.hid (BxI.start (n := n) (cap := cap) h.rows)
  cases hs : shortB ls
  · clear h hm
    go_enter Tryz.func5, Tryz.ntmps5
    go_wp2_with (first | (go_at_call 22; refine (B.out.short hl).mono ?_; rw [hs]; rintro e w9 ⟨rfl, hE9⟩; replace B := Lib.hid (B.out.next hE9); (try clear c0 c1); have c0 := B.out.c0; have c1 := B.out.c1; clear hE9) | (go_at_call 23; refine (B.out.known Hm.out).mono ?_; rintro e w9 ⟨rfl, hE9⟩; replace B := Lib.hid (B.out.next hE9); (try clear c0 c1); have c0 := B.out.c0; have c1 := B.out.c1; clear hE9))
    go_ret
    exact ⟨rfl, B.out.ext⟩
  · cases hb : boardB n ls
    · have R33 := Lib.hid (fun (W : World) (hW : BxI n ls oa cap w W) => before_bad n ls oa cap x y W hW.rows hl (by rw [hb]; rfl))
      have R34 := Lib.hid (fun (W : World) (hW : BxI n ls oa cap w W) => places_bad n ls oa cap x W hW.rows hl (by rw [hb]; rfl))
      have R26 := Lib.hid (fun (W : World) (hW : BxI n ls oa cap w W) => rBoard_any n ls oa cap W hW.rows hl)
      simp only [hb] at R26
      clear h hm
      go_enter Tryz.func5, Tryz.ntmps5
      go_wp2_with (first | (go_at_call 22; refine (B.out.short hl).mono ?_; rw [hs]; rintro e w9 ⟨rfl, hE9⟩; replace B := Lib.hid (B.out.next hE9); (try clear c0 c1); have c0 := B.out.c0; have c1 := B.out.c1; clear hE9) | (go_at_call 33; refine (R33.out _ B.out).mono ?_; rintro e w9 ⟨rfl, hE9⟩; replace B := Lib.hid (B.out.next hE9); (try clear c0 c1); have c0 := B.out.c0; have c1 := B.out.c1; clear hE9) | (go_at_call 34; refine (R34.out _ B.out).mono ?_; rintro e wp ⟨rfl, hE9⟩; replace B := Lib.hid (B.out.next hE9); (try clear c0 c1); have c0 := B.out.c0; have c1 := B.out.c1; have hlt : w.heap.size < wp.heap.size := World.block_lt_of_cell? wp _ c0; have hne := World.new_ne wp _ c0; clear hE9) | (go_at_call 26; refine (R26.out _ (B.out.next ((Ext.refl wp).alloc _))).mono ?_; rintro e w9 ⟨rfl, hE9⟩; have p0 : w9.cell? ⟨wp.heap.size, 0, none⟩ = some (.int .i64 0) := cell_ext hE9 (by go_simp); have p1 : w9.cell? ⟨wp.heap.size, 1, none⟩ = some (.int .i64 0) := cell_ext hE9 (by go_simp); have hE8 := ((Ext.refl wp).alloc _).trans hE9; replace B := Lib.hid (B.out.next hE8); clear hE8 hE9 c0 c1; have c0 := B.out.c0; have c1 := B.out.c1) | (go_at_call 23; refine (B.out.known Hm.out).mono ?_; rintro e w9 ⟨rfl, hE9⟩; replace B := Lib.hid (B.out.next hE9); (try clear c0 c1); have c0 := B.out.c0; have c1 := B.out.c1; clear hE9))
      go_ret
      exact ⟨rfl, B.out.ext⟩
    · have hn := board_small hb
      have R35 := Lib.hid (fun (W : World) (v : Value) => rName_any n x v W hn.1 hn.2)
      cases hx : inB x 0 (n - 1)
      · have R33 := Lib.hid (fun (W : World) (hW : BxI n ls oa cap w W) => before_bad n ls oa cap x y W hW.rows hl (by rw [hx]; simp))
        have R34 := Lib.hid (fun (W : World) (hW : BxI n ls oa cap w W) => places_bad n ls oa cap x W hW.rows hl (by rw [hx]; simp))
        have R26 := Lib.hid (fun (W : World) (hW : BxI n ls oa cap w W) => rBoard_any n ls oa cap W hW.rows hl)
        simp only [hb] at R26
        simp only [hx] at R35
        clear h hm hn
        go_enter Tryz.func5, Tryz.ntmps5
        go_wp2_with (first | (go_at_call 22; refine (B.out.short hl).mono ?_; rw [hs]; rintro e w9 ⟨rfl, hE9⟩; replace B := Lib.hid (B.out.next hE9); (try clear c0 c1); have c0 := B.out.c0; have c1 := B.out.c1; clear hE9) | (go_at_call 33; refine (R33.out _ B.out).mono ?_; rintro e w9 ⟨rfl, hE9⟩; replace B := Lib.hid (B.out.next hE9); (try clear c0 c1); have c0 := B.out.c0; have c1 := B.out.c1; clear hE9) | (go_at_call 34; refine (R34.out _ B.out).mono ?_; rintro e wp ⟨rfl, hE9⟩; replace B := Lib.hid (B.out.next hE9); (try clear c0 c1); have c0 := B.out.c0; have c1 := B.out.c1; have hlt : w.heap.size < wp.heap.size := World.block_lt_of_cell? wp _ c0; have hne := World.new_ne wp _ c0; clear hE9) | (go_at_call 26; refine (R26.out _ (B.out.next ((Ext.refl wp).alloc _))).mono ?_; rintro e w9 ⟨rfl, hE9⟩; have p0 : w9.cell? ⟨wp.heap.size, 0, none⟩ = some (.int .i64 0) := cell_ext hE9 (by go_simp); have p1 : w9.cell? ⟨wp.heap.size, 1, none⟩ = some (.int .i64 0) := cell_ext hE9 (by go_simp); have hE8 := ((Ext.refl wp).alloc _).trans hE9; replace B := Lib.hid (B.out.next hE8); clear hE8 hE9 c0 c1; have c0 := B.out.c0; have c1 := B.out.c1) | (go_at_call 35; refine (R35.out _ _).mono ?_; rintro e w9 ⟨rfl, hE9⟩; replace B := Lib.hid (B.out.next hE9); (try clear c0 c1); have c0 := B.out.c0; have c1 := B.out.c1; replace p0 := cell_ext hE9 p0; replace p1 := cell_ext hE9 p1; clear hE9) | (go_at_call 23; refine (B.out.known Hm.out).mono ?_; rintro e w9 ⟨rfl, hE9⟩; replace B := Lib.hid (B.out.next hE9); (try clear c0 c1); have c0 := B.out.c0; have c1 := B.out.c1; clear hE9))
        go_ret
        exact ⟨rfl, B.out.ext⟩
      · obtain ⟨n, ss, rfl, rfl, g⟩ := board_lift hb
        obtain ⟨a, rfl, ha⟩ := name_lift hx
        have hcap := h.le
        rw [upp_length] at hcap
        rw [upp_length]
        exact law5b g h.rows hl hcap h.none hs ha m hm

end Go.Proofs.YtiehfpkcaoeieaaGreatDoor
