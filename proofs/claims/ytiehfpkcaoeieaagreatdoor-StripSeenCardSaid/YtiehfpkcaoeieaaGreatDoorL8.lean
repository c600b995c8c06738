/- StripSeen answers true. No condition. -/
import Derived.Test.YtiehfpkcaoeieaaGreatDoorSeen
set_option linter.unusedVariables false
set_option linter.unusedSimpArgs false
namespace Go.Proofs.YtiehfpkcaoeieaaGreatDoor
open Go.RowKit Go.My Go.StripM

theorem word_cases (x c : Nat) (h0 : c ≠ 0) : (wordI x c = 1 ∧ x = 0) ∨ (wordI x c = 2 ∧ x ≠ 0 ∧ x ≠ c) ∨ (wordI x c = 3 ∧ x = c) := by
  unfold wordI
  by_cases h1 : x = 0
  · rw [if_pos h1]; exact .inl ⟨rfl, h1⟩
  · rw [if_neg h1]
    by_cases h2 : x = c
    · rw [if_pos h2]; exact .inr (.inr ⟨rfl, h2⟩)
    · rw [if_neg h2]; exact .inr (.inl ⟨rfl, h1, h2⟩)

theorem two_of : ∀ {s : List Nat}, s.length = 2 → ∃ p q, s = [p, q]
  | [p, q], _ => ⟨p, q, rfl⟩

set_option maxRecDepth 100000 in
set_option maxHeartbeats 2000000 in
theorem law8b {n : Nat} {ss : List (List Nat)} {s : List Nat} {oa : Option Addr} {cap : Nat} {ob : Option Addr} {cb : Nat} {w : World} (g : Good n ss) (gs : GoodSpot n s) (h : RowsAt w oa (upp ss)) (hsv : IsInts w (.slice ob s.length cb) (up s)) (hl : (upp ss).length ≤ 9223372036854775807)
    (h6 : ss.length < 6) (hcap : ss.length ≤ cap) (hcm : cap ≤ maxLen) (hoa : oa = none → cap = 0) (hs : shortB (upp ss) = true) (m : Int) (hm : w.cell? ⟨1, 0, none⟩ = some (.int .i64 m)) :
    Calls Tryz.prog 8 #[.agg #[.int .i64 n, .slice oa ss.length cap], .slice ob s.length cb] w fun e w' => e = .returned (.bool true) ∧ Ext w w' := by
  have hn := board_small g.isB
  have hr : (shortB (upp ss) && boardB n (upp ss)) = true := by rw [hs, g.isB]; rfl
  have hs5 := gs.len
  obtain ⟨oi, ci, hei, hcb, hcbm, hobn, hint⟩ := id hsv
  obtain ⟨rfl, rfl⟩ : ob = oi ∧ cb = ci := by injection hei; exact ⟨by assumption, by assumption⟩
  rw [up_length] at hcb
  have r29 := fun (W : World) (hW : Bx n ss oa cap w W) => right_any n (upp ss) oa cap W hW.rows hl
  simp only [upp_length, hr] at r29
  have r41 := fun (W : World) (hW : Bx n ss oa cap w W) (v : Value) => rSpot_any n v (up s) ob cb W hn.1 hn.2 (hint.ext hW.ext) (by rw [up_length]; omega) (by rw [up_length]; exact hcb)
  simp only [up_length, gs.isS] at r41
  have rk := fun (W : World) (hW : Bx n ss oa cap w W) => known_any W m (cell_ext hW.ext hm)
  have g2 := g.snoc h6 gs
  have rx : ∀ W (o2 : Option Addr) (c2 : Nat), RowsAt W o2 (upp (ss ++ [s])) → Calls Tryz.prog 25 #[.agg #[.int .i64 n, .slice o2 (ss.length + 1) c2]] W fun e w' => e = .returned (.tuple #[.int .i64 (cnt n (ss ++ [s]) : Nat), .int .i64 0]) ∧ Ext W w' := fun W o2 c2 hr2 => by
    have := scount_any n (ss ++ [s]) o2 c2 W hr2 g2
    rw [show (ss ++ [s]).length = ss.length + 1 by simp] at this
    exact this
  have r25 := fun (W : World) (hW : Bx n ss oa cap w W) => scount_any n ss oa cap W hW.rows g
  have hXC := cnt_with_le g gs.ok
  cases hc : cyc n ss
  · have hc0 : ¬ cnt n ss = 0 := fun e => by rw [cnt_zero g.valid, hc] at e; cases e
    have r40 := fun (W : World) (hW : Bx n ss oa cap w W) => adds_any n ss oa cap s ob cb W hW.rows g hoa hcap (hint.ext hW.ext) gs hcb hcbm hobn hc0
    by_cases h2 : s.length = 2
    · obtain ⟨p, q, hpq⟩ := two_of h2
      have hok := gs.ok
      rw [hpq] at hok
      have hp : p < n := hok.2 p (by simp)
      have hq : q < n := hok.2 q (by simp)
      have hne : p ≠ q := by have := hok.1; simp at this; exact this
      refine seen_two h hsv h6 hcap hcm hoa hs5 ⟨r29, r41, r40, r25, rx, rk⟩ (Nat.pos_of_ne_zero hc0) hXC (cnt_720 g.le g.valid) (word_cases _ _ hc0) hpq fun W hW => ?_
      have := before_any n ss oa cap p q W hW.rows g hoa hcap hp hq hne hc0
      rw [← hpq] at this
      exact this
    · exact seen_some h hsv h6 hcap hcm hoa hs5 ⟨r29, r41, r40, r25, rx, rk⟩ (Nat.pos_of_ne_zero hc0) hXC (cnt_720 g.le g.valid) (word_cases _ _ hc0) h2
  · have hc0 : cnt n ss = 0 := (cnt_zero g.valid).2 hc
    have hx0 : cnt n (ss ++ [s]) = 0 := by omega
    have r40 := fun (W : World) (hW : Bx n ss oa cap w W) => adds_none n ss oa cap s ob cb W hW.rows g (hint.ext hW.ext) gs hcb hc0
    simp only [hc0] at r25
    simp only [hx0] at rx
    exact seen_none h hsv h6 hcap hcm hoa hs5 ⟨r29, r41, r40, r25, rx, rk⟩

set_option maxRecDepth 100000 in
set_option maxHeartbeats 4000000 in
theorem law8 {n : Int} {ls : List (List Int)} {oa : Option Addr} {cap : Nat} {o : List Int} {ob : Option Addr} {cb : Nat} {w : World} (h : BArg w ls oa cap) (ho : LArg w o ob cb) (m : Int) (hm : w.cell? ⟨1, 0, none⟩ = some (.int .i64 m)) :
    Calls Tryz.prog 8 #[.agg #[.int .i64 n, .slice oa ls.length cap], .slice ob o.length cb] w fun e w' => e = .returned (.bool true) ∧ Ext w w' := by
  have hl := h.small
  have hlo := ho.small
  have hcb := ho.le
  have Hm := Lib.hid hm
  have Ho := Lib.hid ho
  have B := Lib.hid (BxI.start (n := n) (cap := cap) h.rows)
  cases hr : shortB ls && boardB n ls
  · clear h ho hm hlo hcb
    go_enter Tryz.func8, Tryz.ntmps8
    go_wp2_with (first | (go_at_call 29; refine (B.out.right hl).mono ?_; rw [hr]; rintro e w9 ⟨rfl, hE9⟩; replace B := Lib.hid (B.out.next hE9); (try clear c0 c1); have c0 := B.out.c0; have c1 := B.out.c1; clear hE9) | (go_at_call 23; refine (B.out.known Hm.out).mono ?_; rintro e w9 ⟨rfl, hE9⟩; replace B := Lib.hid (B.out.next hE9); (try clear c0 c1); have c0 := B.out.c0; have c1 := B.out.c1; clear hE9))
    go_ret
    exact ⟨rfl, B.out.ext⟩
  · by_cases hlen : (7 : Int) < (o.length : Int)
    · have hlenN : 7 < o.length := by omega
      clear h ho hm hlo hcb
      go_enter Tryz.func8, Tryz.ntmps8
      go_wp2_with (first | (go_at_call 29; refine (B.out.right hl).mono ?_; rw [hr]; rintro e w9 ⟨rfl, hE9⟩; replace B := Lib.hid (B.out.next hE9); (try clear c0 c1); have c0 := B.out.c0; have c1 := B.out.c1; clear hE9) | (go_at_call 23; refine (B.out.known Hm.out).mono ?_; rintro e w9 ⟨rfl, hE9⟩; replace B := Lib.hid (B.out.next hE9); (try clear c0 c1); have c0 := B.out.c0; have c1 := B.out.c1; clear hE9))
      go_ret
      exact ⟨rfl, B.out.ext⟩
    · have hr2 := hr
      rw [Bool.and_eq_true] at hr2
      have hn := board_small hr2.2
      have R41 := Lib.hid (fun (W : World) (hW : BxI n ls oa cap w W) (v : Value) => rSpot_any n v o ob cb W hn.1 hn.2 (Ho.out.ints.ext hW.ext) hlo hcb)
      have hlenN : ¬ 7 < o.length := by omega
      cases hsp : spotB n o
      · simp only [hsp] at R41
        clear h ho hm hlo hcb hn hr2
        go_enter Tryz.func8, Tryz.ntmps8
        go_wp2_with (first | (go_at_call 29; refine (B.out.right hl).mono ?_; rw [hr]; rintro e w9 ⟨rfl, hE9⟩; replace B := Lib.hid (B.out.next hE9); (try clear c0 c1); have c0 := B.out.c0; have c1 := B.out.c1; clear hE9) | (go_at_call 41; refine (R41.out _ B.out _).mono ?_; rintro e w9 ⟨rfl, hE9⟩; replace B := Lib.hid (B.out.next hE9); (try clear c0 c1); have c0 := B.out.c0; have c1 := B.out.c1; clear hE9) | (go_at_call 23; refine (B.out.known Hm.out).mono ?_; rintro e w9 ⟨rfl, hE9⟩; replace B := Lib.hid (B.out.next hE9); (try clear c0 c1); have c0 := B.out.c0; have c1 := B.out.c1; clear hE9))
        go_ret
        exact ⟨rfl, B.out.ext⟩
      · by_cases h6 : (6 : Int) ≤ (ls.length : Int)
        · have h6N : 6 ≤ ls.length := by omega
          simp only [hsp] at R41
          clear h ho hm hlo hcb hn hr2
          go_enter Tryz.func8, Tryz.ntmps8
          go_wp2_with (first | (go_at_call 29; refine (B.out.right hl).mono ?_; rw [hr]; rintro e w9 ⟨rfl, hE9⟩; replace B := Lib.hid (B.out.next hE9); (try clear c0 c1); have c0 := B.out.c0; have c1 := B.out.c1; clear hE9) | (go_at_call 41; refine (R41.out _ B.out _).mono ?_; rintro e w9 ⟨rfl, hE9⟩; replace B := Lib.hid (B.out.next hE9); (try clear c0 c1); have c0 := B.out.c0; have c1 := B.out.c1; clear hE9) | (go_at_call 23; refine (B.out.known Hm.out).mono ?_; rintro e w9 ⟨rfl, hE9⟩; replace B := Lib.hid (B.out.next hE9); (try clear c0 c1); have c0 := B.out.c0; have c1 := B.out.c1; clear hE9))
          go_ret
          exact ⟨rfl, B.out.ext⟩
        · obtain ⟨n, ss, rfl, rfl, g⟩ := board_lift hr2.2
          obtain ⟨s, rfl, gs⟩ := spot_lift hsp
          have hcap := h.le
          rw [upp_length] at hcap h6
          have hsv : IsInts w (.slice ob s.length cb) (up s) := ⟨ob, cb, by rw [up_length], ho.le, ho.max, ho.none, ho.ints⟩
          rw [upp_length, up_length]
          exact law8b g gs h.rows hsv hl (by omega) hcap h.max h.none hr2.1 m Hm.out

end Go.Proofs.YtiehfpkcaoeieaaGreatDoor
