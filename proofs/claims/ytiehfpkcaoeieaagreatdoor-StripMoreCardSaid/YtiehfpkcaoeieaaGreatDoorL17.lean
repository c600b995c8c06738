/- StripMore answers true. No condition. -/
import Derived.Test.YtiehfpkcaoeieaaGreatDoorL17A
set_option linter.unusedVariables false
set_option linter.unusedSimpArgs false
namespace Go.Proofs.YtiehfpkcaoeieaaGreatDoor
open Go.RowKit Go.My Go.StripM

set_option maxRecDepth 100000 in
set_option maxHeartbeats 4000000 in
theorem law17 {n : Int} {ls : List (List Int)} {oa : Option Addr} {cap : Nat} {x : Int} {o : List Int} {ob : Option Addr} {cb : Nat} {w : World} (h : BArg w ls oa cap) (hx1 : -9223372036854775808 ≤ x) (hx2 : x ≤ 9223372036854775807) (ho : LArg w o ob cb) (m : Int) (hm : w.cell? ⟨1, 0, none⟩ = some (.int .i64 m)) :
    Calls Tryz.prog 17 #[.agg #[.int .i64 n, .slice oa ls.length cap], .int .i64 x, .slice ob o.length cb] w fun e w' => e = .returned (.bool true) ∧ Ext w w' := by
  have hl := h.small
  have hlo := ho.small
  have hcb := ho.le
  have Hm := Lib.hid hm
  have Ho := Lib.hid ho.ints
  have Hr := Lib.hid h.rows
  have B := Lib.hid (BxI.start (n := n) (cap := cap) h.rows)
  cases hr : shortB ls && boardB n ls
  · clear h ho hm hlo hcb
    go_enter Tryz.func17, Tryz.ntmps17
    go_wp2_with (first | (go_at_call 29; refine (B.out.right hl).mono ?_; rw [hr]; rintro e w9 ⟨rfl, hE9⟩; replace B := Lib.hid (B.out.next hE9); (try clear c0 c1); have c0 := B.out.c0; have c1 := B.out.c1; clear hE9) | (go_at_call 23; refine (B.out.known Hm.out).mono ?_; rintro e w9 ⟨rfl, hE9⟩; replace B := Lib.hid (B.out.next hE9); (try clear c0 c1); have c0 := B.out.c0; have c1 := B.out.c1; clear hE9))
    go_ret
    exact ⟨rfl, B.out.ext⟩
  · by_cases h0 : x < 0
    · clear h ho hm hlo hcb
      go_enter Tryz.func17, Tryz.ntmps17
      go_wp2_with (first | (go_at_call 29; refine (B.out.right hl).mono ?_; rw [hr]; rintro e w9 ⟨rfl, hE9⟩; replace B := Lib.hid (B.out.next hE9); (try clear c0 c1); have c0 := B.out.c0; have c1 := B.out.c1; clear hE9) | (go_at_call 23; refine (B.out.known Hm.out).mono ?_; rintro e w9 ⟨rfl, hE9⟩; replace B := Lib.hid (B.out.next hE9); (try clear c0 c1); have c0 := B.out.c0; have c1 := B.out.c1; clear hE9))
      go_ret
      exact ⟨rfl, B.out.ext⟩
    · by_cases h1 : (ls.length : Int) ≤ x
      · clear h ho hm hlo hcb
        go_enter Tryz.func17, Tryz.ntmps17
        go_wp2_with (first | (go_at_call 29; refine (B.out.right hl).mono ?_; rw [hr]; rintro e w9 ⟨rfl, hE9⟩; replace B := Lib.hid (B.out.next hE9); (try clear c0 c1); have c0 := B.out.c0; have c1 := B.out.c1; clear hE9) | (go_at_call 23; refine (B.out.known Hm.out).mono ?_; rintro e w9 ⟨rfl, hE9⟩; replace B := Lib.hid (B.out.next hE9); (try clear c0 c1); have c0 := B.out.c0; have c1 := B.out.c1; clear hE9))
        go_ret
        exact ⟨rfl, B.out.ext⟩
      · by_cases hlen : (8 : Int) < (o.length : Int)
        · clear h ho hm hlo hcb
          go_enter Tryz.func17, Tryz.ntmps17
          go_wp2_with (first | (go_at_call 29; refine (B.out.right hl).mono ?_; rw [hr]; rintro e w9 ⟨rfl, hE9⟩; replace B := Lib.hid (B.out.next hE9); (try clear c0 c1); have c0 := B.out.c0; have c1 := B.out.c1; clear hE9) | (go_at_call 23; refine (B.out.known Hm.out).mono ?_; rintro e w9 ⟨rfl, hE9⟩; replace B := Lib.hid (B.out.next hE9); (try clear c0 c1); have c0 := B.out.c0; have c1 := B.out.c1; clear hE9))
          go_ret
          exact ⟨rfl, B.out.ext⟩
        · have hb : boardB n ls = true := by rw [Bool.and_eq_true] at hr; exact hr.2
          cases hob : orderB n o
          · have hn := board_small hb
            clear h ho hm
            go_enter Tryz.func17, Tryz.ntmps17
            go_wp2_with (first | (go_at_call 29; refine (B.out.right hl).mono ?_; rw [hr]; rintro e w9 ⟨rfl, hE9⟩; replace B := Lib.hid (B.out.next hE9); (try clear c0 c1); have c0 := B.out.c0; have c1 := B.out.c1; clear hE9) | (go_at_call 30; refine (rOrder_any n (.slice oa ls.length cap) o ob cb _ hn.1 hn.2 (Ho.out.ext B.out.ext) hlo hcb).mono ?_; rw [hob]; rintro e w9 ⟨rfl, hE9⟩; replace B := Lib.hid (B.out.next hE9); (try clear c0 c1); have c0 := B.out.c0; have c1 := B.out.c1; clear hE9) | (go_at_call 23; refine (B.out.known Hm.out).mono ?_; rintro e w9 ⟨rfl, hE9⟩; replace B := Lib.hid (B.out.next hE9); (try clear c0 c1); have c0 := B.out.c0; have c1 := B.out.c1; clear hE9))
            go_ret
            exact ⟨rfl, B.out.ext⟩
          · obtain ⟨n, ss, rfl, rfl, g⟩ := board_lift hb
            obtain ⟨p, rfl, hp⟩ := order_lift hob
            obtain ⟨y, rfl⟩ : ∃ y : Nat, x = y := ⟨x.toNat, by omega⟩
            have hcap := h.le
            have hcm := h.max
            have hoa := h.none
            rw [upp_length] at hcap h1
            clear h ho hm hb B
            rw [upp_length, up_length]
            have hpl : p.length ≤ cb := by rw [up_length] at hcb; exact hcb
            have hpl2 : p.length ≤ 1000 := by rw [hp.1]; have := g.le; omega
            rw [up_length] at hlen
            exact law17a g hp (by omega) Hr.out Ho.out hl hpl hpl2 hcap hcm hoa hlen hr m Hm.out

end Go.Proofs.YtiehfpkcaoeieaaGreatDoor
