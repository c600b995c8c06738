/- The walk of StripAsked: it answers true. No condition. -/
import Derived.Test.YtiehfpkcaoeieaaGreatDoorCounted
set_option linter.unusedVariables false
set_option linter.unusedSimpArgs false
namespace Go.Proofs.YtiehfpkcaoeieaaGreatDoor
open Go.RowKit Go.My Go.StripM

/-- What the walk of StripAsked asks of each call, where there are orders. -/
structure AskCalls (n : Nat) (ss : List (List Nat)) (oa : Option Addr) (cap : Nat) (w : World) (a d x1 x2 x3 C X1 X2 M1 M2 : Nat) : Prop where
  r29 : ∀ W, Bx n ss oa cap w W → Calls Tryz.prog 29 #[.agg #[.int .i64 n, .slice oa ss.length cap]] W fun e w' => e = .returned (.bool true) ∧ Ext W w'
  r35 : ∀ W (v : Value) (x : Nat), x < n → Calls Tryz.prog 35 #[.agg #[.int .i64 n, v], .int .i64 x] W fun e w' => e = .returned (.bool true) ∧ Ext W w'
  r43 : ∀ W, Bx n ss oa cap w W → Calls Tryz.prog 43 #[.agg #[.int .i64 n, .slice oa ss.length cap]] W fun e w' => e = .returned (.tuple #[.int .i64 x1, .int .i64 x2, .int .i64 x3, .int .i64 0]) ∧ Ext W w'
  r25 : ∀ W, Bx n ss oa cap w W → Calls Tryz.prog 25 #[.agg #[.int .i64 n, .slice oa ss.length cap]] W fun e w' => e = .returned (.tuple #[.int .i64 C, .int .i64 0]) ∧ Ext W w'
  q1 : ∀ W, Bx n ss oa cap w W → Calls Tryz.prog 45 #[.agg #[.int .i64 n, .slice oa ss.length cap], .int .i64 x1, .int .i64 x2] W fun e w' => e = .returned (.int .i64 X1) ∧ Ext W w'
  q2 : ∀ W, Bx n ss oa cap w W → Calls Tryz.prog 45 #[.agg #[.int .i64 n, .slice oa ss.length cap], .int .i64 x2, .int .i64 x1] W fun e w' => e = .returned (.int .i64 X2) ∧ Ext W w'
  q3 : ∀ W, Bx n ss oa cap w W → Calls Tryz.prog 45 #[.agg #[.int .i64 n, .slice oa ss.length cap], .int .i64 a, .int .i64 d] W fun e w' => e = .returned (.int .i64 M1) ∧ Ext W w'
  q4 : ∀ W, Bx n ss oa cap w W → Calls Tryz.prog 45 #[.agg #[.int .i64 n, .slice oa ss.length cap], .int .i64 d, .int .i64 a] W fun e w' => e = .returned (.int .i64 M2) ∧ Ext W w'
  rk : ∀ W, Bx n ss oa cap w W → Calls Tryz.prog 23 #[] W fun e w' => e = .returned (.bool true) ∧ Ext W w'

set_option maxRecDepth 100000 in
set_option maxHeartbeats 8000000 in
theorem ask_main {n : Nat} {ss : List (List Nat)} {oa : Option Addr} {cap : Nat} {w : World} {a d x1 x2 x3 C X1 X2 M1 M2 mm : Nat} (h : RowsAt w oa (upp ss)) (R : AskCalls n ss oa cap w a d x1 x2 x3 C X1 X2 M1 M2) (h6 : ss.length < 6) (ha : a < n) (hd : d < n) (had : a < d) (hx1 : x1 < x2) (hx2 : x2 < n) (hC : 0 < C) (hC7 : C ≤ 720)
    (hX : X1 + X2 = C) (hmx : max X1 X2 = x3) (hmm : max M1 M2 = mm) (hle : x3 ≤ mm) (hM : M1 + M2 = C) (hlast : mm = x3 → x1 < a ∨ x1 = a ∧ x2 ≤ d) :
    Calls Tryz.prog 10 #[.agg #[.int .i64 n, .slice oa ss.length cap], .int .i64 a, .int .i64 d] w fun e w' => e = .returned (.bool true) ∧ Ext w w' := by
  have B := Lib.hid (Bx.start (n := n) (cap := cap) h)
  replace R := Lib.hid R
  have A35 := Lib.hid (fun (W : World) (v : Value) => R.out.r35 W v a ha)
  have D35 := Lib.hid (fun (W : World) (v : Value) => R.out.r35 W v d hd)
  have X35 := Lib.hid (fun (W : World) (v : Value) => R.out.r35 W v x1 (by omega))
  have Y35 := Lib.hid (fun (W : World) (v : Value) => R.out.r35 W v x2 hx2)
  have Ta := Lib.hid trivial; have Td := Lib.hid trivial; have Tx := Lib.hid trivial
  have i1 : max (X1 : Int) (X2 : Int) = (x3 : Int) := by omega
  have i2 : (X1 : Int) + (X2 : Int) = (C : Int) := by omega
  have i3 : max (M1 : Int) (M2 : Int) = (mm : Int) := by omega
  have i4 : IntKind.i64.wrap (C : Int) = (C : Int) := by rw [IntWalk.i64_in _ (by omega)]
  have i5 : ¬ (ss.length : Int) ≥ 6 := by omega
  have i6 : ¬ (6 : Int) ≤ (ss.length : Int) := by omega
  have i7 : ¬ (d : Int) ≤ (a : Int) := by omega
  have i8 : ¬ (x2 : Int) ≤ (x1 : Int) := by omega
  have i9 : ¬ (x3 : Int) < 1 := by omega
  have i10 : ¬ (C : Int) < (x3 : Int) := by omega
  have i11 : (0 : Int) < (C : Int) := by omega
  have i12 : ¬ (mm : Int) < (x3 : Int) := by omega
  have j9 : ¬ x3 < 1 := by omega
  have j10 : ¬ C < x3 := by omega
  have j12 : ¬ mm < x3 := by omega
  have j7 : ¬ d ≤ a := by omega
  have j8 : ¬ x2 ≤ x1 := by omega
  have j13 : 0 < x3 := by omega
  clear h hC7 hX hmx hmm hM

  by_cases hgt : (x3 : Int) < (mm : Int)
  · clear hlast hle
    go_enter Tryz.func10, Tryz.ntmps10
    go_wp2_with (first | (go_at_call 29; refine (R.out.r29 _ B.out).mono ?_; rintro e w9 ⟨rfl, hE9⟩; replace B := Lib.hid (B.out.next hE9); (try clear c0 c1); have c0 := B.out.c0; have c1 := B.out.c1; clear hE9) | (go_at_call 35; have t0 := Ta; clear t0 Ta; refine (A35.out _ _).mono ?_; rintro e w9 ⟨rfl, hE9⟩; replace B := Lib.hid (B.out.next hE9); (try clear c0 c1); have c0 := B.out.c0; have c1 := B.out.c1; clear hE9) | (go_at_call 35; have t0 := Td; clear t0 Td; refine (D35.out _ _).mono ?_; rintro e w9 ⟨rfl, hE9⟩; replace B := Lib.hid (B.out.next hE9); (try clear c0 c1); have c0 := B.out.c0; have c1 := B.out.c1; clear hE9) | (go_at_call 43; refine (R.out.r43 _ B.out).mono ?_; rintro e w9 ⟨rfl, hE9⟩; replace B := Lib.hid (B.out.next hE9); (try clear c0 c1); have c0 := B.out.c0; have c1 := B.out.c1; clear hE9) | (go_at_call 25; refine (R.out.r25 _ B.out).mono ?_; rintro e w9 ⟨rfl, hE9⟩; replace B := Lib.hid (B.out.next hE9); (try clear c0 c1); have c0 := B.out.c0; have c1 := B.out.c1; clear hE9) | (go_at_call 35; have t0 := Tx; clear t0 Tx; refine (X35.out _ _).mono ?_; rintro e w9 ⟨rfl, hE9⟩; replace B := Lib.hid (B.out.next hE9); (try clear c0 c1); have c0 := B.out.c0; have c1 := B.out.c1; clear hE9) | (go_at_call 35; refine (Y35.out _ _).mono ?_; rintro e w9 ⟨rfl, hE9⟩; replace B := Lib.hid (B.out.next hE9); (try clear c0 c1); have c0 := B.out.c0; have c1 := B.out.c1; clear hE9))
    have B7 := Lib.hid (B.out.next (Ext.refl w9).drew)
    refine wp_region_plan (.take 0 <| .take 1 <| .take 2 <| .take 4 <| .take 5 <| .take 6 <| .only 3 <| .only 7 <| .take 8 <| .take 9 <| .done) (fun W => Ext w9 W) mixed (by kernel_rfl) (by kernel_rfl) rfl (fun _ _ d _ _ h => by cases d <;> exact h) ((Ext.refl w9).drew) ?_
    repeat (first | (refine plan_take (v := ?_) rfl rfl (fun W hW => ?_) ?_; rotate_left; (focus (have e1 := cell_ext hW c0; have e2 := cell_ext hW c1; go_simp; first | exact rfl | (split <;> first | exact rfl | (exfalso; omega)) | done)); simp only [Act.put, List.setIfInBounds_toArray, List.set_cons_zero, List.set_cons_succ]) | (refine plan_skip rfl rfl ?_; simp only [Act.put, List.setIfInBounds_toArray, List.set_cons_zero, List.set_cons_succ]))
    refine plan_walk rfl ?_; intro K hK
    go_wp2_with (first | (go_at_call 45; refine (R.out.q1 _ B7.out).mono ?_; rintro e wa ⟨rfl, hE8⟩))
    refine hK _ _ ((Ext.refl w9).drew.trans hE8) ?_
    replace B7 := Lib.hid (B7.out.next hE8)
    refine plan_walk rfl ?_; intro K hK
    go_wp2_with (first | (go_at_call 45; refine (R.out.q2 _ B7.out).mono ?_; rintro e wb ⟨rfl, hE7⟩))
    refine hK _ _ (((Ext.refl w9).drew.trans hE8).trans hE7) ?_
    repeat (first | (refine plan_take (v := ?_) rfl rfl (fun W hW => ?_) ?_; rotate_left; (focus (skip; go_simp; first | exact rfl | (split <;> first | exact rfl | (exfalso; omega)) | done)); simp only [Act.put, List.setIfInBounds_toArray, List.set_cons_zero, List.set_cons_succ]) | (refine plan_skip rfl rfl ?_; simp only [Act.put, List.setIfInBounds_toArray, List.set_cons_zero, List.set_cons_succ]))
    refine plan_done ?_
    replace B := Lib.hid (B7.out.next hE7)
    clear B7 c0 c1 hE7 hE8
    have c0 := B.out.c0
    have c1 := B.out.c1
    go_wp2_with fail
    have B7 := Lib.hid (B.out.next (Ext.refl wb).drew)
    refine wp_region_plan (.take 0 <| .take 1 <| .take 2 <| .take 4 <| .take 5 <| .take 6 <| .only 3 <| .only 7 <| .take 8 <| .take 9 <| .done) (fun W => Ext wb W) mixed (by kernel_rfl) (by kernel_rfl) rfl (fun _ _ d _ _ h => by cases d <;> exact h) ((Ext.refl wb).drew) ?_
    repeat (first | (refine plan_take (v := ?_) rfl rfl (fun W hW => ?_) ?_; rotate_left; (focus (have e1 := cell_ext hW c0; have e2 := cell_ext hW c1; go_simp; first | exact rfl | (split <;> first | exact rfl | (exfalso; omega)) | done)); simp only [Act.put, List.setIfInBounds_toArray, List.set_cons_zero, List.set_cons_succ]) | (refine plan_skip rfl rfl ?_; simp only [Act.put, List.setIfInBounds_toArray, List.set_cons_zero, List.set_cons_succ]))
    refine plan_walk rfl ?_; intro K hK
    go_wp2_with (first | (go_at_call 45; refine (R.out.q3 _ B7.out).mono ?_; rintro e wc ⟨rfl, hE8⟩))
    refine hK _ _ ((Ext.refl wb).drew.trans hE8) ?_
    replace B7 := Lib.hid (B7.out.next hE8)
    refine plan_walk rfl ?_; intro K hK
    go_wp2_with (first | (go_at_call 45; refine (R.out.q4 _ B7.out).mono ?_; rintro e wd ⟨rfl, hE7⟩))
    refine hK _ _ (((Ext.refl wb).drew.trans hE8).trans hE7) ?_
    repeat (first | (refine plan_take (v := ?_) rfl rfl (fun W hW => ?_) ?_; rotate_left; (focus (skip; go_simp; first | exact rfl | (split <;> first | exact rfl | (exfalso; omega)) | done)); simp only [Act.put, List.setIfInBounds_toArray, List.set_cons_zero, List.set_cons_succ]) | (refine plan_skip rfl rfl ?_; simp only [Act.put, List.setIfInBounds_toArray, List.set_cons_zero, List.set_cons_succ]))
    refine plan_done ?_
    replace B := Lib.hid (B7.out.next hE7)
    clear B7 c0 c1 hE7 hE8
    have c0 := B.out.c0
    have c1 := B.out.c1
    go_wp2_with (first | (go_at_call 23; refine (R.out.rk _ B.out).mono ?_; rintro e w9 ⟨rfl, hE9⟩; replace B := Lib.hid (B.out.next hE9); (try clear c0 c1); have c0 := B.out.c0; have c1 := B.out.c1; clear hE9))
    go_ret
    exact ⟨rfl, B.out.ext⟩
  · obtain rfl : mm = x3 := by omega
    have hl := hlast rfl
    clear hlast hle
    rcases hl with hl | ⟨rfl, hl⟩
    · have hlI : (x1 : Int) < (a : Int) := by omega
      go_enter Tryz.func10, Tryz.ntmps10
      go_wp2_with (first | (go_at_call 29; refine (R.out.r29 _ B.out).mono ?_; rintro e w9 ⟨rfl, hE9⟩; replace B := Lib.hid (B.out.next hE9); (try clear c0 c1); have c0 := B.out.c0; have c1 := B.out.c1; clear hE9) | (go_at_call 35; have t0 := Ta; clear t0 Ta; refine (A35.out _ _).mono ?_; rintro e w9 ⟨rfl, hE9⟩; replace B := Lib.hid (B.out.next hE9); (try clear c0 c1); have c0 := B.out.c0; have c1 := B.out.c1; clear hE9) | (go_at_call 35; have t0 := Td; clear t0 Td; refine (D35.out _ _).mono ?_; rintro e w9 ⟨rfl, hE9⟩; replace B := Lib.hid (B.out.next hE9); (try clear c0 c1); have c0 := B.out.c0; have c1 := B.out.c1; clear hE9) | (go_at_call 43; refine (R.out.r43 _ B.out).mono ?_; rintro e w9 ⟨rfl, hE9⟩; replace B := Lib.hid (B.out.next hE9); (try clear c0 c1); have c0 := B.out.c0; have c1 := B.out.c1; clear hE9) | (go_at_call 25; refine (R.out.r25 _ B.out).mono ?_; rintro e w9 ⟨rfl, hE9⟩; replace B := Lib.hid (B.out.next hE9); (try clear c0 c1); have c0 := B.out.c0; have c1 := B.out.c1; clear hE9) | (go_at_call 35; have t0 := Tx; clear t0 Tx; refine (X35.out _ _).mono ?_; rintro e w9 ⟨rfl, hE9⟩; replace B := Lib.hid (B.out.next hE9); (try clear c0 c1); have c0 := B.out.c0; have c1 := B.out.c1; clear hE9) | (go_at_call 35; refine (Y35.out _ _).mono ?_; rintro e w9 ⟨rfl, hE9⟩; replace B := Lib.hid (B.out.next hE9); (try clear c0 c1); have c0 := B.out.c0; have c1 := B.out.c1; clear hE9))
      have B7 := Lib.hid (B.out.next (Ext.refl w9).drew)
      refine wp_region_plan (.take 0 <| .take 1 <| .take 2 <| .take 4 <| .take 5 <| .take 6 <| .only 3 <| .only 7 <| .take 8 <| .take 9 <| .done) (fun W => Ext w9 W) mixed (by kernel_rfl) (by kernel_rfl) rfl (fun _ _ d _ _ h => by cases d <;> exact h) ((Ext.refl w9).drew) ?_
      repeat (first | (refine plan_take (v := ?_) rfl rfl (fun W hW => ?_) ?_; rotate_left; (focus (have e1 := cell_ext hW c0; have e2 := cell_ext hW c1; go_simp; first | exact rfl | (split <;> first | exact rfl | (exfalso; omega)) | done)); simp only [Act.put, List.setIfInBounds_toArray, List.set_cons_zero, List.set_cons_succ]) | (refine plan_skip rfl rfl ?_; simp only [Act.put, List.setIfInBounds_toArray, List.set_cons_zero, List.set_cons_succ]))
      refine plan_walk rfl ?_; intro K hK
      go_wp2_with (first | (go_at_call 45; refine (R.out.q1 _ B7.out).mono ?_; rintro e wa ⟨rfl, hE8⟩))
      refine hK _ _ ((Ext.refl w9).drew.trans hE8) ?_
      replace B7 := Lib.hid (B7.out.next hE8)
      refine plan_walk rfl ?_; intro K hK
      go_wp2_with (first | (go_at_call 45; refine (R.out.q2 _ B7.out).mono ?_; rintro e wb ⟨rfl, hE7⟩))
      refine hK _ _ (((Ext.refl w9).drew.trans hE8).trans hE7) ?_
      repeat (first | (refine plan_take (v := ?_) rfl rfl (fun W hW => ?_) ?_; rotate_left; (focus (skip; go_simp; first | exact rfl | (split <;> first | exact rfl | (exfalso; omega)) | done)); simp only [Act.put, List.setIfInBounds_toArray, List.set_cons_zero, List.set_cons_succ]) | (refine plan_skip rfl rfl ?_; simp only [Act.put, List.setIfInBounds_toArray, List.set_cons_zero, List.set_cons_succ]))
      refine plan_done ?_
      replace B := Lib.hid (B7.out.next hE7)
      clear B7 c0 c1 hE7 hE8
      have c0 := B.out.c0
      have c1 := B.out.c1
      go_wp2_with fail
      have B7 := Lib.hid (B.out.next (Ext.refl wb).drew)
      refine wp_region_plan (.take 0 <| .take 1 <| .take 2 <| .take 4 <| .take 5 <| .take 6 <| .only 3 <| .only 7 <| .take 8 <| .take 9 <| .done) (fun W => Ext wb W) mixed (by kernel_rfl) (by kernel_rfl) rfl (fun _ _ d _ _ h => by cases d <;> exact h) ((Ext.refl wb).drew) ?_
      repeat (first | (refine plan_take (v := ?_) rfl rfl (fun W hW => ?_) ?_; rotate_left; (focus (have e1 := cell_ext hW c0; have e2 := cell_ext hW c1; go_simp; first | exact rfl | (split <;> first | exact rfl | (exfalso; omega)) | done)); simp only [Act.put, List.setIfInBounds_toArray, List.set_cons_zero, List.set_cons_succ]) | (refine plan_skip rfl rfl ?_; simp only [Act.put, List.setIfInBounds_toArray, List.set_cons_zero, List.set_cons_succ]))
      refine plan_walk rfl ?_; intro K hK
      go_wp2_with (first | (go_at_call 45; refine (R.out.q3 _ B7.out).mono ?_; rintro e wc ⟨rfl, hE8⟩))
      refine hK _ _ ((Ext.refl wb).drew.trans hE8) ?_
      replace B7 := Lib.hid (B7.out.next hE8)
      refine plan_walk rfl ?_; intro K hK
      go_wp2_with (first | (go_at_call 45; refine (R.out.q4 _ B7.out).mono ?_; rintro e wd ⟨rfl, hE7⟩))
      refine hK _ _ (((Ext.refl wb).drew.trans hE8).trans hE7) ?_
      repeat (first | (refine plan_take (v := ?_) rfl rfl (fun W hW => ?_) ?_; rotate_left; (focus (skip; go_simp; first | exact rfl | (split <;> first | exact rfl | (exfalso; omega)) | done)); simp only [Act.put, List.setIfInBounds_toArray, List.set_cons_zero, List.set_cons_succ]) | (refine plan_skip rfl rfl ?_; simp only [Act.put, List.setIfInBounds_toArray, List.set_cons_zero, List.set_cons_succ]))
      refine plan_done ?_
      replace B := Lib.hid (B7.out.next hE7)
      clear B7 c0 c1 hE7 hE8
      have c0 := B.out.c0
      have c1 := B.out.c1
      go_wp2_with (first | (go_at_call 23; refine (R.out.rk _ B.out).mono ?_; rintro e w9 ⟨rfl, hE9⟩; replace B := Lib.hid (B.out.next hE9); (try clear c0 c1); have c0 := B.out.c0; have c1 := B.out.c1; clear hE9))
      go_ret
      exact ⟨rfl, B.out.ext⟩
    · have hlI : (x2 : Int) ≤ (d : Int) := by omega
      go_enter Tryz.func10, Tryz.ntmps10
      go_wp2_with (first | (go_at_call 29; refine (R.out.r29 _ B.out).mono ?_; rintro e w9 ⟨rfl, hE9⟩; replace B := Lib.hid (B.out.next hE9); (try clear c0 c1); have c0 := B.out.c0; have c1 := B.out.c1; clear hE9) | (go_at_call 35; have t0 := Ta; clear t0 Ta; refine (A35.out _ _).mono ?_; rintro e w9 ⟨rfl, hE9⟩; replace B := Lib.hid (B.out.next hE9); (try clear c0 c1); have c0 := B.out.c0; have c1 := B.out.c1; clear hE9) | (go_at_call 35; have t0 := Td; clear t0 Td; refine (D35.out _ _).mono ?_; rintro e w9 ⟨rfl, hE9⟩; replace B := Lib.hid (B.out.next hE9); (try clear c0 c1); have c0 := B.out.c0; have c1 := B.out.c1; clear hE9) | (go_at_call 43; refine (R.out.r43 _ B.out).mono ?_; rintro e w9 ⟨rfl, hE9⟩; replace B := Lib.hid (B.out.next hE9); (try clear c0 c1); have c0 := B.out.c0; have c1 := B.out.c1; clear hE9) | (go_at_call 25; refine (R.out.r25 _ B.out).mono ?_; rintro e w9 ⟨rfl, hE9⟩; replace B := Lib.hid (B.out.next hE9); (try clear c0 c1); have c0 := B.out.c0; have c1 := B.out.c1; clear hE9) | (go_at_call 35; have t0 := Tx; clear t0 Tx; refine (X35.out _ _).mono ?_; rintro e w9 ⟨rfl, hE9⟩; replace B := Lib.hid (B.out.next hE9); (try clear c0 c1); have c0 := B.out.c0; have c1 := B.out.c1; clear hE9) | (go_at_call 35; refine (Y35.out _ _).mono ?_; rintro e w9 ⟨rfl, hE9⟩; replace B := Lib.hid (B.out.next hE9); (try clear c0 c1); have c0 := B.out.c0; have c1 := B.out.c1; clear hE9))
      have B7 := Lib.hid (B.out.next (Ext.refl w9).drew)
      refine wp_region_plan (.take 0 <| .take 1 <| .take 2 <| .take 4 <| .take 5 <| .take 6 <| .only 3 <| .only 7 <| .take 8 <| .take 9 <| .done) (fun W => Ext w9 W) mixed (by kernel_rfl) (by kernel_rfl) rfl (fun _ _ d _ _ h => by cases d <;> exact h) ((Ext.refl w9).drew) ?_
      repeat (first | (refine plan_take (v := ?_) rfl rfl (fun W hW => ?_) ?_; rotate_left; (focus (have e1 := cell_ext hW c0; have e2 := cell_ext hW c1; go_simp; first | exact rfl | (split <;> first | exact rfl | (exfalso; omega)) | done)); simp only [Act.put, List.setIfInBounds_toArray, List.set_cons_zero, List.set_cons_succ]) | (refine plan_skip rfl rfl ?_; simp only [Act.put, List.setIfInBounds_toArray, List.set_cons_zero, List.set_cons_succ]))
      refine plan_walk rfl ?_; intro K hK
      go_wp2_with (first | (go_at_call 45; refine (R.out.q1 _ B7.out).mono ?_; rintro e wa ⟨rfl, hE8⟩))
      refine hK _ _ ((Ext.refl w9).drew.trans hE8) ?_
      replace B7 := Lib.hid (B7.out.next hE8)
      refine plan_walk rfl ?_; intro K hK
      go_wp2_with (first | (go_at_call 45; refine (R.out.q2 _ B7.out).mono ?_; rintro e wb ⟨rfl, hE7⟩))
      refine hK _ _ (((Ext.refl w9).drew.trans hE8).trans hE7) ?_
      repeat (first | (refine plan_take (v := ?_) rfl rfl (fun W hW => ?_) ?_; rotate_left; (focus (skip; go_simp; first | exact rfl | (split <;> first | exact rfl | (exfalso; omega)) | done)); simp only [Act.put, List.setIfInBounds_toArray, List.set_cons_zero, List.set_cons_succ]) | (refine plan_skip rfl rfl ?_; simp only [Act.put, List.setIfInBounds_toArray, List.set_cons_zero, List.set_cons_succ]))
      refine plan_done ?_
      replace B := Lib.hid (B7.out.next hE7)
      clear B7 c0 c1 hE7 hE8
      have c0 := B.out.c0
      have c1 := B.out.c1
      go_wp2_with fail
      have B7 := Lib.hid (B.out.next (Ext.refl wb).drew)
      refine wp_region_plan (.take 0 <| .take 1 <| .take 2 <| .take 4 <| .take 5 <| .take 6 <| .only 3 <| .only 7 <| .take 8 <| .take 9 <| .done) (fun W => Ext wb W) mixed (by kernel_rfl) (by kernel_rfl) rfl (fun _ _ d _ _ h => by cases d <;> exact h) ((Ext.refl wb).drew) ?_
      repeat (first | (refine plan_take (v := ?_) rfl rfl (fun W hW => ?_) ?_; rotate_left; (focus (have e1 := cell_ext hW c0; have e2 := cell_ext hW c1; go_simp; first | exact rfl | (split <;> first | exact rfl | (exfalso; omega)) | done)); simp only [Act.put, List.setIfInBounds_toArray, List.set_cons_zero, List.set_cons_succ]) | (refine plan_skip rfl rfl ?_; simp only [Act.put, List.setIfInBounds_toArray, List.set_cons_zero, List.set_cons_succ]))
      refine plan_walk rfl ?_; intro K hK
      go_wp2_with (first | (go_at_call 45; refine (R.out.q3 _ B7.out).mono ?_; rintro e wc ⟨rfl, hE8⟩))
      refine hK _ _ ((Ext.refl wb).drew.trans hE8) ?_
      replace B7 := Lib.hid (B7.out.next hE8)
      refine plan_walk rfl ?_; intro K hK
      go_wp2_with (first | (go_at_call 45; refine (R.out.q4 _ B7.out).mono ?_; rintro e wd ⟨rfl, hE7⟩))
      refine hK _ _ (((Ext.refl wb).drew.trans hE8).trans hE7) ?_
      repeat (first | (refine plan_take (v := ?_) rfl rfl (fun W hW => ?_) ?_; rotate_left; (focus (skip; go_simp; first | exact rfl | (split <;> first | exact rfl | (exfalso; omega)) | done)); simp only [Act.put, List.setIfInBounds_toArray, List.set_cons_zero, List.set_cons_succ]) | (refine plan_skip rfl rfl ?_; simp only [Act.put, List.setIfInBounds_toArray, List.set_cons_zero, List.set_cons_succ]))
      refine plan_done ?_
      replace B := Lib.hid (B7.out.next hE7)
      clear B7 c0 c1 hE7 hE8
      have c0 := B.out.c0
      have c1 := B.out.c1
      go_wp2_with (first | (go_at_call 23; refine (R.out.rk _ B.out).mono ?_; rintro e w9 ⟨rfl, hE9⟩; replace B := Lib.hid (B.out.next hE9); (try clear c0 c1); have c0 := B.out.c0; have c1 := B.out.c1; clear hE9))
      go_ret
      exact ⟨rfl, B.out.ext⟩

end Go.Proofs.YtiehfpkcaoeieaaGreatDoor
