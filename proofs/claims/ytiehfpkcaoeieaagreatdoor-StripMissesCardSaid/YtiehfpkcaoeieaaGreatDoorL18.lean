/- The walk of StripMisses: it answers true. No condition. -/
import Derived.Test.YtiehfpkcaoeieaaGreatDoorM14
set_option linter.unusedVariables false
set_option linter.unusedSimpArgs false
namespace Go.Proofs.YtiehfpkcaoeieaaGreatDoor
open Go.RowKit Go.My Go.StripM

theorem missesTo_small (o : List Int) (ls : List (List Int)) : (missesTo o ls ls.length).length ≤ ls.length := by
  unfold missesTo
  rw [List.length_map]
  exact Nat.le_trans (List.length_filter_le _ _) (by simp)

set_option maxRecDepth 100000 in
set_option maxHeartbeats 2000000 in
theorem law18w (n : Int) (ls : List (List Int)) (oa : Option Addr) (cap : Nat) (o : List Int) (ob : Option Addr) (cb : Nat) (w : World) (h : RowsAt w oa ls) (hl : ls.length ≤ 9223372036854775807) (ho : IntsAt w ob o) (hlo : o.length ≤ 9223372036854775807) (hcb : o.length ≤ cb)
    (m : Int) (hm : w.cell? ⟨1, 0, none⟩ = some (.int .i64 m)) :
    Calls Tryz.prog 18 #[.agg #[.int .i64 n, .slice oa ls.length cap], .slice ob o.length cb] w fun e w' => e = .returned (.bool true) ∧ Ext w w' := by
  have bx := Lib.hid (BxI.start (n := n) (cap := cap) h)
  have Hm := Lib.hid hm
  have Ho := Lib.hid ho
  clear h hm ho
  cases hs : shortB ls
  · clear hlo hcb
    go_enter Tryz.func18, Tryz.ntmps18
    go_wp2_with (first | (go_at_call 22; refine (bx.out.short hl).mono ?_; rw [hs]; rintro e w1 ⟨rfl, hE1⟩; have b1 := bx.out.next hE1; have B1 := Lib.hid b1; clear b1) | (go_at_call 23; refine (B1.out.known Hm.out).mono ?_; rintro e w2 ⟨rfl, hE2⟩; have b2 := B1.out.next hE2; have B2 := Lib.hid b2; clear b2))
    go_ret
    exact ⟨rfl, B2.out.ext⟩
  · by_cases hlen : (8 : Int) < (o.length : Int)
    · go_enter Tryz.func18, Tryz.ntmps18
      go_wp2_with (first | (go_at_call 22; refine (bx.out.short hl).mono ?_; rw [hs]; rintro e w1 ⟨rfl, hE1⟩; have b1 := bx.out.next hE1; have B1 := Lib.hid b1; clear b1) | (go_at_call 23; refine (B1.out.known Hm.out).mono ?_; rintro e w2 ⟨rfl, hE2⟩; have b2 := B1.out.next hE2; have B2 := Lib.hid b2; clear b2))
      go_ret
      exact ⟨rfl, B2.out.ext⟩
    · cases hb : boardB n ls
      · have Q := Lib.hid (fun (W : World) (hW : BxI n ls oa cap w W) => misses_bad n ls oa cap o ob cb W hW.rows hl (Ho.out.ext hW.ext) hlo hcb (by rw [hb]; rfl))
        go_enter Tryz.func18, Tryz.ntmps18
        go_wp2_with (first | (go_at_call 22; refine (bx.out.short hl).mono ?_; rw [hs]; rintro e w1 ⟨rfl, hE1⟩; have b1 := bx.out.next hE1; have c0 := b1.c0; have c1 := b1.c1; have B1 := Lib.hid b1; clear b1) | (go_at_call 63; refine (B1.out.check hl).mono ?_; rw [hb]; rintro e w2 ⟨rfl, hE2⟩; have b2 := B1.out.next hE2; clear c0 c1; have c0 := b2.c0; have c1 := b2.c1; have B2 := Lib.hid b2; clear b2) | (go_at_call 57; refine (Q.out _ B2.out).mono ?_; rintro e w3 ⟨rfl, hE3⟩; have B3 := Lib.hid (B2.out.next hE3); clear hE3 c0 c1; have c0 := B3.out.c0; have c1 := B3.out.c1) | (go_at_call 26; refine (B3.out.rboard hl).mono ?_; rw [hb]; rintro e w4 ⟨rfl, hE4⟩; have b4 := B3.out.next hE4; clear c0 c1; have B4 := Lib.hid b4; clear b4) | (go_at_call 23; refine (B4.out.known Hm.out).mono ?_; rintro e w5 ⟨rfl, hE5⟩; have b5 := B4.out.next hE5; have B5 := Lib.hid b5; clear b5))
        go_ret
        exact ⟨rfl, B5.out.ext⟩
      · have hn := board_small hb
        have hl6 : ls.length ≤ 1000 := by simp [boardB] at hb; omega
        cases hob : orderB n o
        · have Q := Lib.hid (fun (W : World) (hW : BxI n ls oa cap w W) => misses_bad n ls oa cap o ob cb W hW.rows hl (Ho.out.ext hW.ext) hlo hcb (by rw [hob]; simp))
          have R := Lib.hid (fun (W : World) (hW : BxI n ls oa cap w W) => rOrder_any n (.slice oa ls.length cap) o ob cb W hn.1 hn.2 (Ho.out.ext hW.ext) hlo hcb)
          go_enter Tryz.func18, Tryz.ntmps18
          go_wp2_with (first | (go_at_call 22; refine (bx.out.short hl).mono ?_; rw [hs]; rintro e w1 ⟨rfl, hE1⟩; have b1 := bx.out.next hE1; have c0 := b1.c0; have c1 := b1.c1; have B1 := Lib.hid b1; clear b1) | (go_at_call 63; refine (B1.out.check hl).mono ?_; rw [hb]; rintro e w2 ⟨rfl, hE2⟩; have b2 := B1.out.next hE2; clear c0 c1; have c0 := b2.c0; have c1 := b2.c1; have B2 := Lib.hid b2; clear b2) | (go_at_call 57; refine (Q.out _ B2.out).mono ?_; rintro e w3 ⟨rfl, hE3⟩; have B3 := Lib.hid (B2.out.next hE3); clear hE3 c0 c1; have c0 := B3.out.c0; have c1 := B3.out.c1) | (go_at_call 26; refine (B3.out.rboard hl).mono ?_; rw [hb]; rintro e w4 ⟨rfl, hE4⟩; have b4 := B3.out.next hE4; clear c0 c1; have c0 := b4.c0; have c1 := b4.c1; have B4 := Lib.hid b4; clear b4) | (go_at_call 30; refine (R.out _ B4.out).mono ?_; rw [hob]; rintro e w5 ⟨rfl, hE5⟩; have B5 := Lib.hid (B4.out.next hE5); clear hE5 c0 c1) | (go_at_call 23; refine (B5.out.known Hm.out).mono ?_; rintro e w6 ⟨rfl, hE6⟩; have b6 := B5.out.next hE6; have B6 := Lib.hid b6; clear b6))
          go_ret
          exact ⟨rfl, B6.out.ext⟩
        · have Q := Lib.hid (fun (W : World) (hW : BxI n ls oa cap w W) => misses_ok n ls oa cap o ob cb W hW.rows hl6 (Ho.out.ext hW.ext) hlo hcb hb hob)
          have R := Lib.hid (fun (W : World) (hW : BxI n ls oa cap w W) => rOrder_any n (.slice oa ls.length cap) o ob cb W hn.1 hn.2 (Ho.out.ext hW.ext) hlo hcb)
          have S := Lib.hid (fun (W : World) (hW : BxI n ls oa cap w W) => rMisses_any n ls oa cap o ob cb W hW.rows (by omega) (Ho.out.ext hW.ext) hlo)
          have hmt := missesTo_small o ls
          generalize missesTo o ls ls.length = M at *
          go_enter Tryz.func18, Tryz.ntmps18
          go_wp2_with (first | (go_at_call 22; refine (bx.out.short hl).mono ?_; rw [hs]; rintro e w1 ⟨rfl, hE1⟩; have b1 := bx.out.next hE1; have c0 := b1.c0; have c1 := b1.c1; have B1 := Lib.hid b1; clear b1) | (go_at_call 63; refine (B1.out.check hl).mono ?_; rw [hb]; rintro e w2 ⟨rfl, hE2⟩; have b2 := B1.out.next hE2; clear c0 c1; have c0 := b2.c0; have c1 := b2.c1; have B2 := Lib.hid b2; clear b2) | (go_at_call 57; refine (Q.out _ B2.out).mono ?_; rintro e w3 ⟨v, rfl, hi, hE3⟩; obtain ⟨om, cm, rfl, _, _, _, hi⟩ := hi; have Hi := Lib.hid hi; clear hi; have B3 := Lib.hid (B2.out.next hE3); clear hE3 c0 c1; have c0 := B3.out.c0; have c1 := B3.out.c1) | (go_at_call 26; refine (B3.out.rboard hl).mono ?_; rw [hb]; rintro e w4 ⟨rfl, hE4⟩; have b4 := B3.out.next hE4; clear c0 c1; have c0 := b4.c0; have c1 := b4.c1; have B4 := Lib.hid b4; clear b4) | (go_at_call 30; refine (R.out _ B4.out).mono ?_; rw [hob]; rintro e w5 ⟨rfl, hE5⟩; have B5 := Lib.hid (B4.out.next hE5); clear c0 c1; have c0 := B5.out.c0; have c1 := B5.out.c1) | (go_at_call 64; refine (S.out _ B5.out).mono ?_; rintro e w6 ⟨v, rfl, hi2, hE6⟩; obtain ⟨on, cn, rfl, _, _, _, hi2⟩ := hi2; have Hi2 := Lib.hid hi2; clear hi2; have B6 := Lib.hid (B5.out.next hE6); clear c0 c1) | (go_at_call 28; refine (tsame_any M M om on cm cn w6 (((Hi.out.ext hE4).ext hE5).ext hE6) Hi2.out (by omega) (by omega)).mono ?_; rw [decide_eq_true rfl]; rintro e w7 ⟨rfl, hE7⟩; have B7 := Lib.hid (B6.out.next hE7)) | (go_at_call 23; refine (B7.out.known Hm.out).mono ?_; rintro e w8 ⟨rfl, hE8⟩; have b8 := B7.out.next hE8; have B8 := Lib.hid b8; clear b8))
          go_ret
          exact ⟨rfl, B8.out.ext⟩

theorem law18 {n : Int} {ls : List (List Int)} {oa : Option Addr} {cap : Nat} {o : List Int} {ob : Option Addr} {cb : Nat} {w : World} (h : BArg w ls oa cap) (ho : LArg w o ob cb) (m : Int) (hm : w.cell? ⟨1, 0, none⟩ = some (.int .i64 m)) :
    Calls Tryz.prog 18 #[.agg #[.int .i64 n, .slice oa ls.length cap], .slice ob o.length cb] w fun e w' => e = .returned (.bool true) ∧ Ext w w' :=
  law18w n ls oa cap o ob cb w h.rows h.small ho.ints ho.small ho.le m hm

end Go.Proofs.YtiehfpkcaoeieaaGreatDoor
