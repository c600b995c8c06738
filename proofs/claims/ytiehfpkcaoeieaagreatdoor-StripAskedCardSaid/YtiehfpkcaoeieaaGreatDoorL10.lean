/- StripAsked answers true. No condition. -/
import Derived.Test.YtiehfpkcaoeieaaGreatDoorAsk
set_option linter.unusedVariables false
set_option linter.unusedSimpArgs false
namespace Go.Proofs.YtiehfpkcaoeieaaGreatDoor
open Go.RowKit Go.My Go.StripM

set_option maxRecDepth 100000 in
set_option maxHeartbeats 4000000 in
theorem law10b {n : Nat} {ss : List (List Nat)} {oa : Option Addr} {cap a d : Nat} {w : World} (g : Good n ss) (h : RowsAt w oa (upp ss)) (hl : (upp ss).length ≤ 9223372036854775807)
    (hcap : ss.length ≤ cap) (hcm : cap ≤ maxLen) (hoa : oa = none → cap = 0) (hs : shortB (upp ss) = true) (h6 : ss.length < 6) (ha : a < n) (hd : d < n) (had : a < d) (m : Int) (hm : w.cell? ⟨1, 0, none⟩ = some (.int .i64 m)) :
    Calls Tryz.prog 10 #[.agg #[.int .i64 n, .slice oa ss.length cap], .int .i64 a, .int .i64 d] w fun e w' => e = .returned (.bool true) ∧ Ext w w' := by
  have hn := board_small g.isB
  have hr : (shortB (upp ss) && boardB n (upp ss)) = true := by rw [hs, g.isB]; rfl
  have hia : ∀ x, x < n → inB (x : Int) 0 ((n : Int) - 1) = true := fun x hx => by simp only [inB, Bool.and_eq_true, decide_eq_true_eq]; omega
  have r29 := fun (W : World) (hW : Bx n ss oa cap w W) => right_any n (upp ss) oa cap W hW.rows hl
  simp only [upp_length, hr] at r29
  have r35 : ∀ W (v : Value) (x : Nat), x < n → Calls Tryz.prog 35 #[.agg #[.int .i64 n, v], .int .i64 x] W fun e w' => e = .returned (.bool true) ∧ Ext W w' := fun W v x hx => by
    have := rName_any n x v W hn.1 hn.2
    rw [hia x hx] at this
    exact this
  have rk := fun (W : World) (hW : Bx n ss oa cap w W) => known_any W m (cell_ext hW.ext hm)
  cases hc : cyc n ss
  · have hc0 : ¬ cnt n ss = 0 := fun e => by rw [cnt_zero g.valid, hc] at e; cases e
    obtain ⟨⟨x1, x2, hx1, hx2, hnx⟩, hbest⟩ := next_facts (n := n) (ss := ss) (by omega)
    have h2 := cnt_two g.valid (Nat.lt_trans hx1 hx2) hx2 (Nat.ne_of_lt hx1)
    have hM := cnt_two g.valid ha hd (Nat.ne_of_lt had)
    have hb := hbest a d had hd
    rw [hnx] at hb
    simp only [trip] at hb
    have hq : ∀ p q, p < n → q < n → p ≠ q → ∀ W, Bx n ss oa cap w W → Calls Tryz.prog 45 #[.agg #[.int .i64 n, .slice oa ss.length cap], .int .i64 p, .int .i64 q] W fun e w' => e = .returned (.int .i64 (cnt n (ss ++ [[p, q]]) : Nat)) ∧ Ext W w' := fun p q hp hq hne W hW =>
      counted_r n ss oa cap p q W hW.rows g h6 hoa hcap hcm hp hq hne
    refine ask_main (x1 := x1) (x2 := x2) (x3 := max (cnt n (ss ++ [[x1, x2]])) (cnt n ss - cnt n (ss ++ [[x1, x2]]))) (C := cnt n ss) (X1 := cnt n (ss ++ [[x1, x2]])) (X2 := cnt n (ss ++ [[x2, x1]])) (M1 := cnt n (ss ++ [[a, d]])) (M2 := cnt n (ss ++ [[d, a]])) (mm := max (cnt n (ss ++ [[a, d]])) (cnt n (ss ++ [[d, a]]))) h
      { r29 := r29, r35 := r35, rk := rk
        r43 := fun W hW => by have := next_any n ss oa cap W hW.rows g hoa hcap hc0 (by omega); rw [hnx] at this; exact this
        r25 := fun W hW => scount_any n ss oa cap W hW.rows g
        q1 := hq x1 x2 (by omega) hx2 (by omega), q2 := hq x2 x1 hx2 (by omega) (by omega), q3 := hq a d ha hd (by omega), q4 := hq d a hd ha (by omega) }
      h6 ha hd had hx1 hx2 (by omega) (cnt_720 g.le g.valid) h2 (by omega) rfl (by omega) hM (fun he => hb.2 (by omega))
  · have hc0 : cnt n ss = 0 := (cnt_zero g.valid).2 hc
    have B := Lib.hid (Bx.start (n := n) (cap := cap) h)
    have R29 := Lib.hid r29
    have Ra := Lib.hid (fun W v => r35 W v a ha)
    have Rd := Lib.hid (fun W v => r35 W v d hd)
    have Rk := Lib.hid rk
    have R43 := Lib.hid (fun (W : World) (hW : Bx n ss oa cap w W) => next_none n ss oa cap W hW.rows g hc0)
    have R25 := Lib.hid (fun (W : World) (hW : Bx n ss oa cap w W) => scount_any n ss oa cap W hW.rows g)
    simp only [hc0] at R25
    have T35 := Lib.hid trivial
    have i5 : ¬ (6 : Int) ≤ (ss.length : Int) := by omega
    have i7 : ¬ (d : Int) ≤ (a : Int) := by omega
    have j7 : ¬ d ≤ a := by omega
    clear h hl hs hm g hc hoa hc0 hcap hcm r29 r35 rk hr hia hn
    go_enter Tryz.func10, Tryz.ntmps10
    go_wp2_with (first | (go_at_call 29; refine (R29.out _ B.out).mono ?_; rintro e w9 ⟨rfl, hE9⟩; replace B := Lib.hid (B.out.next hE9); (try clear c0 c1); have c0 := B.out.c0; have c1 := B.out.c1; clear hE9) | (go_at_call 35; have t0 := T35; clear t0 T35; refine (Ra.out _ _).mono ?_; rintro e w9 ⟨rfl, hE9⟩; replace B := Lib.hid (B.out.next hE9); (try clear c0 c1); have c0 := B.out.c0; have c1 := B.out.c1; clear hE9) | (go_at_call 35; refine (Rd.out _ _).mono ?_; rintro e w9 ⟨rfl, hE9⟩; replace B := Lib.hid (B.out.next hE9); (try clear c0 c1); have c0 := B.out.c0; have c1 := B.out.c1; clear hE9) | (go_at_call 43; refine (R43.out _ B.out).mono ?_; rintro e w9 ⟨rfl, hE9⟩; replace B := Lib.hid (B.out.next hE9); (try clear c0 c1); have c0 := B.out.c0; have c1 := B.out.c1; clear hE9) | (go_at_call 25; refine (R25.out _ B.out).mono ?_; rintro e w9 ⟨rfl, hE9⟩; replace B := Lib.hid (B.out.next hE9); (try clear c0 c1); have c0 := B.out.c0; have c1 := B.out.c1; clear hE9) | (go_at_call 23; refine (Rk.out _ B.out).mono ?_; rintro e w9 ⟨rfl, hE9⟩; replace B := Lib.hid (B.out.next hE9); (try clear c0 c1); have c0 := B.out.c0; have c1 := B.out.c1; clear hE9))
    go_ret
    exact ⟨rfl, B.out.ext⟩

set_option maxRecDepth 100000 in
set_option maxHeartbeats 4000000 in
theorem law10 {n : Int} {ls : List (List Int)} {oa : Option Addr} {cap : Nat} {x y : Int} {w : World} (h : BArg w ls oa cap) (hx1 : -9223372036854775808 ≤ x) (hx2 : x ≤ 9223372036854775807) (hy1 : -9223372036854775808 ≤ y) (hy2 : y ≤ 9223372036854775807)
    (m : Int) (hm : w.cell? ⟨1, 0, none⟩ = some (.int .i64 m)) :
    Calls Tryz.prog 10 #[.agg #[.int .i64 n, .slice oa ls.length cap], .int .i64 x, .int .i64 y] w fun e w' => e = .returned (.bool true) ∧ Ext w w' := by
  have hl := h.small
  have Hm := Lib.hid hm
  have B := Lib.hid (BxI.start (n := n) (cap := cap) h.rows)
  cases hr : shortB ls && boardB n ls
  · clear h hm
    go_enter Tryz.func10, Tryz.ntmps10
    go_wp2_with (first | (go_at_call 29; refine (B.out.right hl).mono ?_; rw [hr]; rintro e w9 ⟨rfl, hE9⟩; replace B := Lib.hid (B.out.next hE9); (try clear c0 c1); have c0 := B.out.c0; have c1 := B.out.c1; clear hE9) | (go_at_call 23; refine (B.out.known Hm.out).mono ?_; rintro e w9 ⟨rfl, hE9⟩; replace B := Lib.hid (B.out.next hE9); (try clear c0 c1); have c0 := B.out.c0; have c1 := B.out.c1; clear hE9))
    go_ret
    exact ⟨rfl, B.out.ext⟩
  · by_cases hlen : (6 : Int) ≤ (ls.length : Int)
    · have hlenN : 6 ≤ ls.length := by omega
      clear h hm
      go_enter Tryz.func10, Tryz.ntmps10
      go_wp2_with (first | (go_at_call 29; refine (B.out.right hl).mono ?_; rw [hr]; rintro e w9 ⟨rfl, hE9⟩; replace B := Lib.hid (B.out.next hE9); (try clear c0 c1); have c0 := B.out.c0; have c1 := B.out.c1; clear hE9) | (go_at_call 23; refine (B.out.known Hm.out).mono ?_; rintro e w9 ⟨rfl, hE9⟩; replace B := Lib.hid (B.out.next hE9); (try clear c0 c1); have c0 := B.out.c0; have c1 := B.out.c1; clear hE9))
      go_ret
      exact ⟨rfl, B.out.ext⟩
    · have hr2 := hr
      rw [Bool.and_eq_true] at hr2
      have hn := board_small hr2.2
      have hlenN : ¬ 6 ≤ ls.length := by omega
      have R35 := Lib.hid (fun (W : World) (z : Int) (v : Value) => rName_any n z v W hn.1 hn.2)
      cases hx : inB x 0 (n - 1)
      · clear h hm hn hr2
        go_enter Tryz.func10, Tryz.ntmps10
        go_wp2_with (first | (go_at_call 29; refine (B.out.right hl).mono ?_; rw [hr]; rintro e w9 ⟨rfl, hE9⟩; replace B := Lib.hid (B.out.next hE9); (try clear c0 c1); have c0 := B.out.c0; have c1 := B.out.c1; clear hE9) | (go_at_call 35; refine (R35.out _ x _).mono ?_; rw [hx]; rintro e w9 ⟨rfl, hE9⟩; replace B := Lib.hid (B.out.next hE9); (try clear c0 c1); have c0 := B.out.c0; have c1 := B.out.c1; clear hE9) | (go_at_call 23; refine (B.out.known Hm.out).mono ?_; rintro e w9 ⟨rfl, hE9⟩; replace B := Lib.hid (B.out.next hE9); (try clear c0 c1); have c0 := B.out.c0; have c1 := B.out.c1; clear hE9))
        go_ret
        exact ⟨rfl, B.out.ext⟩
      · have T35 := Lib.hid trivial
        cases hy : inB y 0 (n - 1)
        · clear h hm hn hr2
          go_enter Tryz.func10, Tryz.ntmps10
          go_wp2_with (first | (go_at_call 29; refine (B.out.right hl).mono ?_; rw [hr]; rintro e w9 ⟨rfl, hE9⟩; replace B := Lib.hid (B.out.next hE9); (try clear c0 c1); have c0 := B.out.c0; have c1 := B.out.c1; clear hE9) | (go_at_call 35; have t0 := T35; clear t0 T35; refine (R35.out _ x _).mono ?_; rw [hx]; rintro e w9 ⟨rfl, hE9⟩; replace B := Lib.hid (B.out.next hE9); (try clear c0 c1); have c0 := B.out.c0; have c1 := B.out.c1; clear hE9) | (go_at_call 35; refine (R35.out _ y _).mono ?_; rw [hy]; rintro e w9 ⟨rfl, hE9⟩; replace B := Lib.hid (B.out.next hE9); (try clear c0 c1); have c0 := B.out.c0; have c1 := B.out.c1; clear hE9) | (go_at_call 23; refine (B.out.known Hm.out).mono ?_; rintro e w9 ⟨rfl, hE9⟩; replace B := Lib.hid (B.out.next hE9); (try clear c0 c1); have c0 := B.out.c0; have c1 := B.out.c1; clear hE9))
          go_ret
          exact ⟨rfl, B.out.ext⟩
        · by_cases hxy : y ≤ x
          · clear h hm hn hr2
            go_enter Tryz.func10, Tryz.ntmps10
            go_wp2_with (first | (go_at_call 29; refine (B.out.right hl).mono ?_; rw [hr]; rintro e w9 ⟨rfl, hE9⟩; replace B := Lib.hid (B.out.next hE9); (try clear c0 c1); have c0 := B.out.c0; have c1 := B.out.c1; clear hE9) | (go_at_call 35; have t0 := T35; clear t0 T35; refine (R35.out _ x _).mono ?_; rw [hx]; rintro e w9 ⟨rfl, hE9⟩; replace B := Lib.hid (B.out.next hE9); (try clear c0 c1); have c0 := B.out.c0; have c1 := B.out.c1; clear hE9) | (go_at_call 35; refine (R35.out _ y _).mono ?_; rw [hy]; rintro e w9 ⟨rfl, hE9⟩; replace B := Lib.hid (B.out.next hE9); (try clear c0 c1); have c0 := B.out.c0; have c1 := B.out.c1; clear hE9) | (go_at_call 23; refine (B.out.known Hm.out).mono ?_; rintro e w9 ⟨rfl, hE9⟩; replace B := Lib.hid (B.out.next hE9); (try clear c0 c1); have c0 := B.out.c0; have c1 := B.out.c1; clear hE9))
            go_ret
            exact ⟨rfl, B.out.ext⟩
          · obtain ⟨n, ss, rfl, rfl, g⟩ := board_lift hr2.2
            obtain ⟨a, rfl, ha⟩ := name_lift hx
            obtain ⟨d, rfl, hd⟩ := name_lift hy
            have hcap := h.le
            rw [upp_length] at hcap hlen
            rw [upp_length]
            exact law10b g h.rows hl hcap h.max h.none hr2.1 (by omega) ha hd (by omega) m hm

end Go.Proofs.YtiehfpkcaoeieaaGreatDoor
