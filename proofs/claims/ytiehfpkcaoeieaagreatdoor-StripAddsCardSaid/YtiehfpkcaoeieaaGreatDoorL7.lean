/- The walk of StripAdds: it answers true. No condition. -/
import Derived.Test.YtiehfpkcaoeieaaGreatDoorRefAdd
set_option linter.unusedVariables false
set_option linter.unusedSimpArgs false
namespace Go.Proofs.YtiehfpkcaoeieaaGreatDoor
open Go.RowKit Go.My Go.StripM

set_option maxRecDepth 100000 in
set_option maxHeartbeats 4000000 in
theorem law7b {n : Nat} {ss : List (List Nat)} {oa : Option Addr} {cap : Nat} {s : List Nat} {ob : Option Addr} {cb : Nat} {w : World} (g : Good n ss) (gl : GoodSpot n s) (h : RowsAt w oa (upp ss)) (ho : IntsAt w ob (up s)) (hl : (upp ss).length ≤ 9223372036854775807)
    (hcap : ss.length ≤ cap) (hoa : oa = none → cap = 0) (hcb : s.length ≤ cb) (hcm : cb ≤ maxLen) (hob : ob = none → cb = 0) (hs : shortB (upp ss) = true) (m : Int) (hm : w.cell? ⟨1, 0, none⟩ = some (.int .i64 m)) :
    Calls Tryz.prog 7 #[.agg #[.int .i64 n, .slice oa ss.length cap], .slice ob s.length cb] w fun e w' => e = .returned (.bool true) ∧ Ext w w' := by
  have B := Lib.hid (Bx.start (n := n) (cap := cap) h)
  have hn := board_small g.isB
  have hsl := gl.len
  have R22 := Lib.hid (fun (W : World) (hW : Bx n ss oa cap w W) => short_any n (upp ss) oa cap W hW.rows hl)
  have R26 := Lib.hid (fun (W : World) (hW : Bx n ss oa cap w W) => rBoard_any n (upp ss) oa cap W hW.rows hl)
  have R41 := Lib.hid (fun (W : World) (hW : Bx n ss oa cap w W) (v : Value) => rSpot_any n v (up s) ob cb W hn.1 hn.2 (ho.ext hW.ext) (by rw [up_length]; omega) (by rw [up_length]; exact hcb))
  have Rk := Lib.hid (fun (W : World) (hW : Bx n ss oa cap w W) => known_any W m (cell_ext hW.ext hm))
  have R36 := Lib.hid (fun (W : World) (hW : Bx n ss oa cap w W) => can_good n ss oa cap W hW.rows g)
  have R42 := Lib.hid (fun (W : World) (hW : Bx n ss oa cap w W) => adds_r n ss oa cap s ob cb W hW.rows g (ho.ext hW.ext) gl hcb)
  simp only [upp_length, hs] at R22
  simp only [upp_length, g.isB] at R26
  simp only [up_length, gl.isS] at R41
  cases hc : cyc n ss
  · have hc0 : ¬ cnt n ss = 0 := fun e => by rw [cnt_zero g.valid, hc] at e; cases e
    have R40 := Lib.hid (fun (W : World) (hW : Bx n ss oa cap w W) => adds_any n ss oa cap s ob cb W hW.rows g hoa hcap (ho.ext hW.ext) gl hcb hcm hob hc0)
    simp only [hc] at R36
    clear h ho hl hs hm g gl hc hoa hob hc0 hn
    generalize wordI (cnt n (ss ++ [s])) (cnt n ss) = X at *
    go_enter Tryz.func7, Tryz.ntmps7
    go_wp2_with (first | (go_at_call 22; refine (R22.out _ B.out).mono ?_; rintro e w9 ⟨rfl, hE9⟩; replace B := Lib.hid (B.out.next hE9); (try clear c0 c1); have c0 := B.out.c0; have c1 := B.out.c1; clear hE9) | (go_at_call 40; refine (R40.out _ B.out).mono ?_; rintro e w9 ⟨rfl, hE9⟩; replace B := Lib.hid (B.out.next hE9); (try clear c0 c1); have c0 := B.out.c0; have c1 := B.out.c1; clear hE9) | (go_at_call 26; refine (R26.out _ B.out).mono ?_; rintro e w9 ⟨rfl, hE9⟩; replace B := Lib.hid (B.out.next hE9); (try clear c0 c1); have c0 := B.out.c0; have c1 := B.out.c1; clear hE9) | (go_at_call 41; refine (R41.out _ B.out _).mono ?_; rintro e w9 ⟨rfl, hE9⟩; replace B := Lib.hid (B.out.next hE9); (try clear c0 c1); have c0 := B.out.c0; have c1 := B.out.c1; clear hE9) | (go_at_call 36; refine (R36.out _ B.out).mono ?_; rintro e w9 ⟨rfl, hE9⟩; replace B := Lib.hid (B.out.next hE9); (try clear c0 c1); have c0 := B.out.c0; have c1 := B.out.c1; clear hE9) | (go_at_call 42; refine (R42.out _ B.out).mono ?_; rintro e w9 ⟨rfl, hE9⟩; replace B := Lib.hid (B.out.next hE9); (try clear c0 c1); have c0 := B.out.c0; have c1 := B.out.c1; clear hE9) | (go_at_call 23; refine (Rk.out _ B.out).mono ?_; rintro e w9 ⟨rfl, hE9⟩; replace B := Lib.hid (B.out.next hE9); (try clear c0 c1); have c0 := B.out.c0; have c1 := B.out.c1; clear hE9))
    go_ret
    exact ⟨rfl, B.out.ext⟩
  · have hc0 : cnt n ss = 0 := (cnt_zero g.valid).2 hc
    have R40 := Lib.hid (fun (W : World) (hW : Bx n ss oa cap w W) => adds_none n ss oa cap s ob cb W hW.rows g (ho.ext hW.ext) gl hcb hc0)
    simp only [hc] at R36
    clear h ho hl hs hm g gl hc hoa hob hc0 hn R42
    go_enter Tryz.func7, Tryz.ntmps7
    go_wp2_with (first | (go_at_call 22; refine (R22.out _ B.out).mono ?_; rintro e w9 ⟨rfl, hE9⟩; replace B := Lib.hid (B.out.next hE9); (try clear c0 c1); have c0 := B.out.c0; have c1 := B.out.c1; clear hE9) | (go_at_call 40; refine (R40.out _ B.out).mono ?_; rintro e w9 ⟨rfl, hE9⟩; replace B := Lib.hid (B.out.next hE9); (try clear c0 c1); have c0 := B.out.c0; have c1 := B.out.c1; clear hE9) | (go_at_call 26; refine (R26.out _ B.out).mono ?_; rintro e w9 ⟨rfl, hE9⟩; replace B := Lib.hid (B.out.next hE9); (try clear c0 c1); have c0 := B.out.c0; have c1 := B.out.c1; clear hE9) | (go_at_call 41; refine (R41.out _ B.out _).mono ?_; rintro e w9 ⟨rfl, hE9⟩; replace B := Lib.hid (B.out.next hE9); (try clear c0 c1); have c0 := B.out.c0; have c1 := B.out.c1; clear hE9) | (go_at_call 36; refine (R36.out _ B.out).mono ?_; rintro e w9 ⟨rfl, hE9⟩; replace B := Lib.hid (B.out.next hE9); (try clear c0 c1); have c0 := B.out.c0; have c1 := B.out.c1; clear hE9) | (go_at_call 23; refine (Rk.out _ B.out).mono ?_; rintro e w9 ⟨rfl, hE9⟩; replace B := Lib.hid (B.out.next hE9); (try clear c0 c1); have c0 := B.out.c0; have c1 := B.out.c1; clear hE9))
    go_ret
    exact ⟨rfl, B.out.ext⟩

set_option maxRecDepth 100000 in
set_option maxHeartbeats 4000000 in
theorem law7 {n : Int} {ls : List (List Int)} {oa : Option Addr} {cap : Nat} {o : List Int} {ob : Option Addr} {cb : Nat} {w : World} (h : BArg w ls oa cap) (ho : LArg w o ob cb) (m : Int) (hm : w.cell? ⟨1, 0, none⟩ = some (.int .i64 m)) :
    Calls Tryz.prog 7 #[.agg #[.int .i64 n, .slice oa ls.length cap], .slice ob o.length cb] w fun e w' => e = .returned (.bool true) ∧ Ext w w' := by
  have hl := h.small
  have hlo := ho.small
  have hcb := ho.le
  have Hm := Lib.hid hm
  have Ho := Lib.hid ho.ints
  have B := Lib.hid (BxI.start (n := n) (cap := cap) h.rows)
  cases hs : shortB ls
  · clear h ho hm hlo hcb
    go_enter Tryz.func7, Tryz.ntmps7
    go_wp2_with (first | (go_at_call 22; refine (B.out.short hl).mono ?_; rw [hs]; rintro e w9 ⟨rfl, hE9⟩; replace B := Lib.hid (B.out.next hE9); (try clear c0 c1); have c0 := B.out.c0; have c1 := B.out.c1; clear hE9) | (go_at_call 23; refine (B.out.known Hm.out).mono ?_; rintro e w9 ⟨rfl, hE9⟩; replace B := Lib.hid (B.out.next hE9); (try clear c0 c1); have c0 := B.out.c0; have c1 := B.out.c1; clear hE9))
    go_ret
    exact ⟨rfl, B.out.ext⟩
  · by_cases hlen : (7 : Int) < (o.length : Int)
    · clear h ho hm hlo hcb
      go_enter Tryz.func7, Tryz.ntmps7
      go_wp2_with (first | (go_at_call 22; refine (B.out.short hl).mono ?_; rw [hs]; rintro e w9 ⟨rfl, hE9⟩; replace B := Lib.hid (B.out.next hE9); (try clear c0 c1); have c0 := B.out.c0; have c1 := B.out.c1; clear hE9) | (go_at_call 23; refine (B.out.known Hm.out).mono ?_; rintro e w9 ⟨rfl, hE9⟩; replace B := Lib.hid (B.out.next hE9); (try clear c0 c1); have c0 := B.out.c0; have c1 := B.out.c1; clear hE9))
      go_ret
      exact ⟨rfl, B.out.ext⟩
    · cases hb : boardB n ls
      · have R40 := Lib.hid (fun (W : World) (hW : BxI n ls oa cap w W) => adds_bad n ls oa cap o ob cb W hW.rows hl (Ho.out.ext hW.ext) hlo hcb (by rw [hb]; rfl))
        clear h ho hm hlo hcb
        go_enter Tryz.func7, Tryz.ntmps7
        go_wp2_with (first | (go_at_call 22; refine (B.out.short hl).mono ?_; rw [hs]; rintro e w9 ⟨rfl, hE9⟩; replace B := Lib.hid (B.out.next hE9); (try clear c0 c1); have c0 := B.out.c0; have c1 := B.out.c1; clear hE9) | (go_at_call 40; refine (R40.out _ B.out).mono ?_; rintro e w9 ⟨rfl, hE9⟩; replace B := Lib.hid (B.out.next hE9); (try clear c0 c1); have c0 := B.out.c0; have c1 := B.out.c1; clear hE9) | (go_at_call 26; refine (B.out.rboard hl).mono ?_; rw [hb]; rintro e w9 ⟨rfl, hE9⟩; replace B := Lib.hid (B.out.next hE9); (try clear c0 c1); have c0 := B.out.c0; have c1 := B.out.c1; clear hE9) | (go_at_call 23; refine (B.out.known Hm.out).mono ?_; rintro e w9 ⟨rfl, hE9⟩; replace B := Lib.hid (B.out.next hE9); (try clear c0 c1); have c0 := B.out.c0; have c1 := B.out.c1; clear hE9))
        go_ret
        exact ⟨rfl, B.out.ext⟩
      · have hn := board_small hb
        have R41 := Lib.hid (fun (W : World) (hW : BxI n ls oa cap w W) (v : Value) => rSpot_any n v o ob cb W hn.1 hn.2 (Ho.out.ext hW.ext) hlo hcb)
        cases hsp : spotB n o
        · have R40 := Lib.hid (fun (W : World) (hW : BxI n ls oa cap w W) => adds_bad n ls oa cap o ob cb W hW.rows hl (Ho.out.ext hW.ext) hlo hcb (by rw [hsp]; simp))
          simp only [hsp] at R41
          clear h ho hm hlo hcb hn
          go_enter Tryz.func7, Tryz.ntmps7
          go_wp2_with (first | (go_at_call 22; refine (B.out.short hl).mono ?_; rw [hs]; rintro e w9 ⟨rfl, hE9⟩; replace B := Lib.hid (B.out.next hE9); (try clear c0 c1); have c0 := B.out.c0; have c1 := B.out.c1; clear hE9) | (go_at_call 40; refine (R40.out _ B.out).mono ?_; rintro e w9 ⟨rfl, hE9⟩; replace B := Lib.hid (B.out.next hE9); (try clear c0 c1); have c0 := B.out.c0; have c1 := B.out.c1; clear hE9) | (go_at_call 26; refine (B.out.rboard hl).mono ?_; rw [hb]; rintro e w9 ⟨rfl, hE9⟩; replace B := Lib.hid (B.out.next hE9); (try clear c0 c1); have c0 := B.out.c0; have c1 := B.out.c1; clear hE9) | (go_at_call 41; refine (R41.out _ B.out _).mono ?_; rintro e w9 ⟨rfl, hE9⟩; replace B := Lib.hid (B.out.next hE9); (try clear c0 c1); have c0 := B.out.c0; have c1 := B.out.c1; clear hE9) | (go_at_call 23; refine (B.out.known Hm.out).mono ?_; rintro e w9 ⟨rfl, hE9⟩; replace B := Lib.hid (B.out.next hE9); (try clear c0 c1); have c0 := B.out.c0; have c1 := B.out.c1; clear hE9))
          go_ret
          exact ⟨rfl, B.out.ext⟩
        · obtain ⟨n, ss, rfl, rfl, g⟩ := board_lift hb
          obtain ⟨s, rfl, gl⟩ := spot_lift hsp
          have hcap := h.le
          rw [up_length] at hcb
          rw [upp_length] at hcap
          rw [upp_length, up_length]
          exact law7b g gl h.rows Ho.out hl hcap h.none hcb ho.max ho.none hs m Hm.out

end Go.Proofs.YtiehfpkcaoeieaaGreatDoor
