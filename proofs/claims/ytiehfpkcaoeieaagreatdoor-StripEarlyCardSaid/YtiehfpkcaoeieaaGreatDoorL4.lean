/- The walk of StripEarly: it answers true. No condition. -/
import Derived.Test.YtiehfpkcaoeieaaGreatDoorAgree
set_option linter.unusedVariables false
set_option linter.unusedSimpArgs false
namespace Go.Proofs.YtiehfpkcaoeieaaGreatDoor
open Go.RowKit Go.My Go.StripM

set_option maxRecDepth 100000 in
set_option maxHeartbeats 4000000 in
/-- The walk of a board and an order as defined. -/
theorem law4b {n : Nat} {ss : List (List Nat)} {oa : Option Addr} {cap : Nat} {p : List Nat} {ob : Option Addr} {cb : Nat} {w : World} (g : Good n ss) (hp : isOrd n p) (h : RowsAt w oa (upp ss)) (ho : IntsAt w ob (up p)) (hl : (upp ss).length ≤ 9223372036854775807) (hpl : p.length ≤ cb) (hpl2 : p.length ≤ 1000)
    (hlen : ¬ (8 : Int) < (p.length : Int)) (hr : (shortB (upp ss) && boardB n (upp ss)) = true) (m : Int) (hm : w.cell? ⟨1, 0, none⟩ = some (.int .i64 m)) (B : Hid (Bx n ss oa cap w (w.alloc (.cells #[.int .i64 n, .slice oa ss.length cap] 24)))) :
    Calls Tryz.prog 4 #[.agg #[.int .i64 n, .slice oa ss.length cap], .slice ob p.length cb] w fun e w' => e = .returned (.bool true) ∧ Ext w w' := by
  have hn := board_small g.isB
  have R29 := Lib.hid (fun (W : World) (hW : Bx n ss oa cap w W) => right_any n (upp ss) oa cap W hW.rows hl)
  have R30 := Lib.hid (fun (W : World) (hW : Bx n ss oa cap w W) (v : Value) => rOrder_any n v (up p) ob cb W hn.1 hn.2 (ho.ext hW.ext) (by rw [up_length]; omega) (by rw [up_length]; exact hpl))
  have R31 := Lib.hid (fun (W : World) (hW : Bx n ss oa cap w W) => agrees2_any n ss oa cap p ob cb W hW.rows g (ho.ext hW.ext) hpl hp)
  have Rk := Lib.hid (fun (W : World) (hW : Bx n ss oa cap w W) => known_any W m (cell_ext hW.ext hm))
  have Q25 := Lib.hid (fun (W : World) (hW : Bx n ss oa cap w W) => scount_any n ss oa cap W hW.rows g)
  simp only [upp_length, hr] at R29
  simp only [up_length, order_of hp] at R30
  have T30 := Lib.hid trivial
  have T31 := Lib.hid trivial
  cases hc : cyc n ss
  · obtain ⟨f, hf, hfa⟩ := first_some g.valid hc
    have hff := first_facts hf
    have hfl2 : f.length ≤ 1000 := by rw [hff.1.1]; have := g.le; omega
    have Q24 := Lib.hid (fun (W : World) (hW : Bx n ss oa cap w W) => first_any n ss oa cap W hW.rows g hc f hf)
    have F30 := Lib.hid (fun (W : World) (v : Value) (of : Option Addr) (cf : Nat) (hi : IntsAt W of (up f)) (hle : f.length ≤ cf) => rOrder_any n v (up f) of cf W hn.1 hn.2 hi (by rw [up_length]; omega) (by rw [up_length]; exact hle))
    have F31 := Lib.hid (fun (W : World) (hW : Bx n ss oa cap w W) (of : Option Addr) (cf : Nat) (hi : IntsAt W of (up f)) (hle : f.length ≤ cf) => agrees2_any n ss oa cap f of cf W hW.rows g hi hle hff.1)
    have F32 := Lib.hid (fun (W : World) (hW : Bx n ss oa cap w W) (of : Option Addr) (cf : Nat) (hi : IntsAt W of (up f)) => tbefore_any p f ob of cb cf W (ho.ext hW.ext) hi hpl2 hfl2)
    have F28 := Lib.hid (fun (W : World) (hW : Bx n ss oa cap w W) (of : Option Addr) (cf : Nat) (hi : IntsAt W of (up f)) => tsame_up p f ob of cb cf W (ho.ext hW.ext) hi hpl2 hfl2)
    simp only [up_length, order_of hff.1] at F30
    simp only [hff.2] at F31
    have hc0 : 0 < cnt n ss := Nat.pos_of_ne_zero fun e => by rw [cnt_zero g.valid, hc] at e; cases e
    have hc7 := cnt_720 g.le g.valid
    cases hk : okOrd ss p
    · simp only [hk] at R31
      clear hr hl hpl hpl2 h ho hm hf hfa hff hfl2 hp g hn hc hk F32 F28
      generalize cnt n ss = c at *
      go_enter Tryz.func4, Tryz.ntmps4
      go_wp2_with (first | (go_at_call 29; refine (R29.out _ B.out).mono ?_; rintro e w9 ⟨rfl, hE9⟩; replace B := Lib.hid (B.out.next hE9); (try clear c0 c1); have c0 := B.out.c0; have c1 := B.out.c1; clear hE9) | (go_at_call 30; have t0 := T30; clear t0 T30; refine (R30.out _ B.out _).mono ?_; rintro e w9 ⟨rfl, hE9⟩; replace B := Lib.hid (B.out.next hE9); (try clear c0 c1); have c0 := B.out.c0; have c1 := B.out.c1; clear hE9) | (go_at_call 24; refine (Q24.out _ B.out).mono ?_; rintro e w9 ⟨⟨v, rfl, hi⟩, hE9⟩; replace B := Lib.hid (B.out.next hE9); (try clear c0 c1); have c0 := B.out.c0; have c1 := B.out.c1; obtain ⟨of, cf, rfl, hfl, hfm, hfn, hi⟩ := isInts_up hi; have Hf := Lib.hid hi; clear hi; clear hE9) | (go_at_call 25; refine (Q25.out _ B.out).mono ?_; rintro e w9 ⟨rfl, hE9⟩; replace B := Lib.hid (B.out.next hE9); (try clear c0 c1); have c0 := B.out.c0; have c1 := B.out.c1; replace Hf := Lib.hid (Hf.out.ext hE9); clear hE9) | (go_at_call 31; have t0 := T31; clear t0 T31; refine (R31.out _ B.out).mono ?_; rintro e w9 ⟨rfl, hE9⟩; replace B := Lib.hid (B.out.next hE9); (try clear c0 c1); have c0 := B.out.c0; have c1 := B.out.c1; replace Hf := Lib.hid (Hf.out.ext hE9); clear hE9) | (go_at_call 30; refine (F30.out _ _ of cf Hf.out hfl).mono ?_; rintro e w9 ⟨rfl, hE9⟩; replace B := Lib.hid (B.out.next hE9); (try clear c0 c1); have c0 := B.out.c0; have c1 := B.out.c1; replace Hf := Lib.hid (Hf.out.ext hE9); clear hE9) | (go_at_call 31; refine (F31.out _ B.out of cf Hf.out hfl).mono ?_; rintro e w9 ⟨rfl, hE9⟩; replace B := Lib.hid (B.out.next hE9); (try clear c0 c1); have c0 := B.out.c0; have c1 := B.out.c1; replace Hf := Lib.hid (Hf.out.ext hE9); clear hE9) | (go_at_call 23; refine (Rk.out _ B.out).mono ?_; rintro e w9 ⟨rfl, hE9⟩; replace B := Lib.hid (B.out.next hE9); (try clear c0 c1); have c0 := B.out.c0; have c1 := B.out.c1; clear hE9))
      go_ret
      exact ⟨rfl, B.out.ext⟩
    · obtain ⟨hlx, hone⟩ := rival g.valid hf hp hk
      simp only [hk] at R31
      simp only [hlx] at F32
      by_cases hpf : p = f
      · simp only [decide_eq_true hpf] at F28
        clear hr hl hpl hpl2 h ho hm hf hfa hff hfl2 hp g hn hc hk hlx hone hpf
        generalize cnt n ss = c at *
        go_enter Tryz.func4, Tryz.ntmps4
        go_wp2_with (first | (go_at_call 29; refine (R29.out _ B.out).mono ?_; rintro e w9 ⟨rfl, hE9⟩; replace B := Lib.hid (B.out.next hE9); (try clear c0 c1); have c0 := B.out.c0; have c1 := B.out.c1; clear hE9) | (go_at_call 30; have t0 := T30; clear t0 T30; refine (R30.out _ B.out _).mono ?_; rintro e w9 ⟨rfl, hE9⟩; replace B := Lib.hid (B.out.next hE9); (try clear c0 c1); have c0 := B.out.c0; have c1 := B.out.c1; clear hE9) | (go_at_call 24; refine (Q24.out _ B.out).mono ?_; rintro e w9 ⟨⟨v, rfl, hi⟩, hE9⟩; replace B := Lib.hid (B.out.next hE9); (try clear c0 c1); have c0 := B.out.c0; have c1 := B.out.c1; obtain ⟨of, cf, rfl, hfl, hfm, hfn, hi⟩ := isInts_up hi; have Hf := Lib.hid hi; clear hi; clear hE9) | (go_at_call 25; refine (Q25.out _ B.out).mono ?_; rintro e w9 ⟨rfl, hE9⟩; replace B := Lib.hid (B.out.next hE9); (try clear c0 c1); have c0 := B.out.c0; have c1 := B.out.c1; replace Hf := Lib.hid (Hf.out.ext hE9); clear hE9) | (go_at_call 31; have t0 := T31; clear t0 T31; refine (R31.out _ B.out).mono ?_; rintro e w9 ⟨rfl, hE9⟩; replace B := Lib.hid (B.out.next hE9); (try clear c0 c1); have c0 := B.out.c0; have c1 := B.out.c1; replace Hf := Lib.hid (Hf.out.ext hE9); clear hE9) | (go_at_call 30; refine (F30.out _ _ of cf Hf.out hfl).mono ?_; rintro e w9 ⟨rfl, hE9⟩; replace B := Lib.hid (B.out.next hE9); (try clear c0 c1); have c0 := B.out.c0; have c1 := B.out.c1; replace Hf := Lib.hid (Hf.out.ext hE9); clear hE9) | (go_at_call 31; refine (F31.out _ B.out of cf Hf.out hfl).mono ?_; rintro e w9 ⟨rfl, hE9⟩; replace B := Lib.hid (B.out.next hE9); (try clear c0 c1); have c0 := B.out.c0; have c1 := B.out.c1; replace Hf := Lib.hid (Hf.out.ext hE9); clear hE9) | (go_at_call 23; refine (Rk.out _ B.out).mono ?_; rintro e w9 ⟨rfl, hE9⟩; replace B := Lib.hid (B.out.next hE9); (try clear c0 c1); have c0 := B.out.c0; have c1 := B.out.c1; clear hE9) | (go_at_call 32; refine (F32.out _ B.out of cf Hf.out).mono ?_; rintro e w9 ⟨rfl, hE9⟩; replace B := Lib.hid (B.out.next hE9); (try clear c0 c1); have c0 := B.out.c0; have c1 := B.out.c1; replace Hf := Lib.hid (Hf.out.ext hE9); clear hE9) | (go_at_call 28; refine (F28.out _ B.out of cf Hf.out).mono ?_; rintro e w9 ⟨rfl, hE9⟩; replace B := Lib.hid (B.out.next hE9); (try clear c0 c1); have c0 := B.out.c0; have c1 := B.out.c1; replace Hf := Lib.hid (Hf.out.ext hE9); clear hE9))
        go_ret
        exact ⟨rfl, B.out.ext⟩
      · have h1 := hone.resolve_left hpf
        simp only [decide_eq_false hpf] at F28
        clear hr hl hpl hpl2 h ho hm hf hfa hff hfl2 hp g hn hc hk hlx hone hpf
        generalize cnt n ss = c at *
        go_enter Tryz.func4, Tryz.ntmps4
        go_wp2_with (first | (go_at_call 29; refine (R29.out _ B.out).mono ?_; rintro e w9 ⟨rfl, hE9⟩; replace B := Lib.hid (B.out.next hE9); (try clear c0 c1); have c0 := B.out.c0; have c1 := B.out.c1; clear hE9) | (go_at_call 30; have t0 := T30; clear t0 T30; refine (R30.out _ B.out _).mono ?_; rintro e w9 ⟨rfl, hE9⟩; replace B := Lib.hid (B.out.next hE9); (try clear c0 c1); have c0 := B.out.c0; have c1 := B.out.c1; clear hE9) | (go_at_call 24; refine (Q24.out _ B.out).mono ?_; rintro e w9 ⟨⟨v, rfl, hi⟩, hE9⟩; replace B := Lib.hid (B.out.next hE9); (try clear c0 c1); have c0 := B.out.c0; have c1 := B.out.c1; obtain ⟨of, cf, rfl, hfl, hfm, hfn, hi⟩ := isInts_up hi; have Hf := Lib.hid hi; clear hi; clear hE9) | (go_at_call 25; refine (Q25.out _ B.out).mono ?_; rintro e w9 ⟨rfl, hE9⟩; replace B := Lib.hid (B.out.next hE9); (try clear c0 c1); have c0 := B.out.c0; have c1 := B.out.c1; replace Hf := Lib.hid (Hf.out.ext hE9); clear hE9) | (go_at_call 31; have t0 := T31; clear t0 T31; refine (R31.out _ B.out).mono ?_; rintro e w9 ⟨rfl, hE9⟩; replace B := Lib.hid (B.out.next hE9); (try clear c0 c1); have c0 := B.out.c0; have c1 := B.out.c1; replace Hf := Lib.hid (Hf.out.ext hE9); clear hE9) | (go_at_call 30; refine (F30.out _ _ of cf Hf.out hfl).mono ?_; rintro e w9 ⟨rfl, hE9⟩; replace B := Lib.hid (B.out.next hE9); (try clear c0 c1); have c0 := B.out.c0; have c1 := B.out.c1; replace Hf := Lib.hid (Hf.out.ext hE9); clear hE9) | (go_at_call 31; refine (F31.out _ B.out of cf Hf.out hfl).mono ?_; rintro e w9 ⟨rfl, hE9⟩; replace B := Lib.hid (B.out.next hE9); (try clear c0 c1); have c0 := B.out.c0; have c1 := B.out.c1; replace Hf := Lib.hid (Hf.out.ext hE9); clear hE9) | (go_at_call 23; refine (Rk.out _ B.out).mono ?_; rintro e w9 ⟨rfl, hE9⟩; replace B := Lib.hid (B.out.next hE9); (try clear c0 c1); have c0 := B.out.c0; have c1 := B.out.c1; clear hE9) | (go_at_call 32; refine (F32.out _ B.out of cf Hf.out).mono ?_; rintro e w9 ⟨rfl, hE9⟩; replace B := Lib.hid (B.out.next hE9); (try clear c0 c1); have c0 := B.out.c0; have c1 := B.out.c1; replace Hf := Lib.hid (Hf.out.ext hE9); clear hE9) | (go_at_call 28; refine (F28.out _ B.out of cf Hf.out).mono ?_; rintro e w9 ⟨rfl, hE9⟩; replace B := Lib.hid (B.out.next hE9); (try clear c0 c1); have c0 := B.out.c0; have c1 := B.out.c1; replace Hf := Lib.hid (Hf.out.ext hE9); clear hE9))
        go_ret
        exact ⟨rfl, B.out.ext⟩
  · have Q24 := Lib.hid (fun (W : World) (hW : Bx n ss oa cap w W) => first_none n ss oa cap W hW.rows g hc)
    have hc0 : cnt n ss = 0 := (cnt_zero g.valid).2 hc
    simp only [hc0] at Q25
    have hk : okOrd ss p = false := by
      cases hk : okOrd ss p
      · rfl
      · have hm := mem_all.2 ⟨hp, hk⟩
        rw [all_cyc g.valid hc] at hm
        cases hm
    simp only [hk] at R31
    clear hr hl hpl hpl2 h ho hm hp g hn hc hk hc0
    go_enter Tryz.func4, Tryz.ntmps4
    go_wp2_with (first | (go_at_call 29; refine (R29.out _ B.out).mono ?_; rintro e w9 ⟨rfl, hE9⟩; replace B := Lib.hid (B.out.next hE9); (try clear c0 c1); have c0 := B.out.c0; have c1 := B.out.c1; clear hE9) | (go_at_call 30; have t0 := T30; clear t0 T30; refine (R30.out _ B.out _).mono ?_; rintro e w9 ⟨rfl, hE9⟩; replace B := Lib.hid (B.out.next hE9); (try clear c0 c1); have c0 := B.out.c0; have c1 := B.out.c1; clear hE9) | (go_at_call 24; refine (Q24.out _ B.out).mono ?_; rintro e w9 ⟨rfl, hE9⟩; replace B := Lib.hid (B.out.next hE9); (try clear c0 c1); have c0 := B.out.c0; have c1 := B.out.c1; clear hE9) | (go_at_call 25; refine (Q25.out _ B.out).mono ?_; rintro e w9 ⟨rfl, hE9⟩; replace B := Lib.hid (B.out.next hE9); (try clear c0 c1); have c0 := B.out.c0; have c1 := B.out.c1; clear hE9) | (go_at_call 31; have t0 := T31; clear t0 T31; refine (R31.out _ B.out).mono ?_; rintro e w9 ⟨rfl, hE9⟩; replace B := Lib.hid (B.out.next hE9); (try clear c0 c1); have c0 := B.out.c0; have c1 := B.out.c1; clear hE9) | (go_at_call 23; refine (Rk.out _ B.out).mono ?_; rintro e w9 ⟨rfl, hE9⟩; replace B := Lib.hid (B.out.next hE9); (try clear c0 c1); have c0 := B.out.c0; have c1 := B.out.c1; clear hE9))
    go_ret
    exact ⟨rfl, B.out.ext⟩

set_option maxRecDepth 100000 in
set_option maxHeartbeats 2000000 in
theorem law4 {n : Int} {ls : List (List Int)} {oa : Option Addr} {cap : Nat} {o : List Int} {ob : Option Addr} {cb : Nat} {w : World} (h : BArg w ls oa cap) (ho : LArg w o ob cb) (m : Int) (hm : w.cell? ⟨1, 0, none⟩ = some (.int .i64 m)) :
    Calls Tryz.prog 4 #[.agg #[.int .i64 n, .slice oa ls.length cap], .slice ob o.length cb] w fun e w' => e = .returned (.bool true) ∧ Ext w w' := by
  have hl := h.small
  have hlo := ho.small
  have hcb := ho.le
  have Hm := Lib.hid hm
  have Ho := Lib.hid ho.ints
  have Hr := Lib.hid h.rows
  cases hr : shortB ls && boardB n ls
  · have B := Lib.hid (BxI.start (n := n) (cap := cap) h.rows)
    clear h ho hm hlo hcb
    go_enter Tryz.func4, Tryz.ntmps4
    go_wp2_with (first | (go_at_call 29; refine (B.out.right hl).mono ?_; rw [hr]; rintro e w9 ⟨rfl, hE9⟩; replace B := Lib.hid (B.out.next hE9); (try clear c0 c1); have c0 := B.out.c0; have c1 := B.out.c1; clear hE9) | (go_at_call 23; refine (B.out.known Hm.out).mono ?_; rintro e w9 ⟨rfl, hE9⟩; replace B := Lib.hid (B.out.next hE9); (try clear c0 c1); have c0 := B.out.c0; have c1 := B.out.c1; clear hE9))
    go_ret
    exact ⟨rfl, B.out.ext⟩
  · by_cases hlen : (8 : Int) < (o.length : Int)
    · have B := Lib.hid (BxI.start (n := n) (cap := cap) h.rows)
      clear h ho hm hlo hcb
      go_enter Tryz.func4, Tryz.ntmps4
      go_wp2_with (first | (go_at_call 29; refine (B.out.right hl).mono ?_; rw [hr]; rintro e w9 ⟨rfl, hE9⟩; replace B := Lib.hid (B.out.next hE9); (try clear c0 c1); have c0 := B.out.c0; have c1 := B.out.c1; clear hE9) | (go_at_call 23; refine (B.out.known Hm.out).mono ?_; rintro e w9 ⟨rfl, hE9⟩; replace B := Lib.hid (B.out.next hE9); (try clear c0 c1); have c0 := B.out.c0; have c1 := B.out.c1; clear hE9))
      go_ret
      exact ⟨rfl, B.out.ext⟩
    · have hb : boardB n ls = true := by rw [Bool.and_eq_true] at hr; exact hr.2
      cases hob : orderB n o
      · have B := Lib.hid (BxI.start (n := n) (cap := cap) h.rows)
        have hn := board_small hb
        clear h ho hm
        go_enter Tryz.func4, Tryz.ntmps4
        go_wp2_with (first | (go_at_call 29; refine (B.out.right hl).mono ?_; rw [hr]; rintro e w9 ⟨rfl, hE9⟩; replace B := Lib.hid (B.out.next hE9); (try clear c0 c1); have c0 := B.out.c0; have c1 := B.out.c1; clear hE9) | (go_at_call 30; refine (rOrder_any n (.slice oa ls.length cap) o ob cb _ hn.1 hn.2 (Ho.out.ext B.out.ext) hlo hcb).mono ?_; rw [hob]; rintro e w9 ⟨rfl, hE9⟩; replace B := Lib.hid (B.out.next hE9); (try clear c0 c1); have c0 := B.out.c0; have c1 := B.out.c1; clear hE9) | (go_at_call 23; refine (B.out.known Hm.out).mono ?_; rintro e w9 ⟨rfl, hE9⟩; replace B := Lib.hid (B.out.next hE9); (try clear c0 c1); have c0 := B.out.c0; have c1 := B.out.c1; clear hE9))
        go_ret
        exact ⟨rfl, B.out.ext⟩
      · obtain ⟨n, ss, rfl, rfl, g⟩ := board_lift hb
        obtain ⟨p, rfl, hp⟩ := order_lift hob
        have B := Lib.hid (Bx.start (n := n) (cap := cap) h.rows)
        have hn := board_small hb
        clear h ho hm hb
        rw [upp_length, up_length]
        have hpl : p.length ≤ cb := by rw [up_length] at hcb; exact hcb
        have hpl2 : p.length ≤ 1000 := by rw [hp.1]; have := g.le; omega
        rw [up_length] at hlen
        exact law4b g hp Hr.out Ho.out hl hpl hpl2 hlen hr m Hm.out B

end Go.Proofs.YtiehfpkcaoeieaaGreatDoor
