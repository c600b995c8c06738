/- StripOwned answers true. No condition. -/
import Derived.Test.YtiehfpkcaoeieaaGreatDoorL16A
import Derived.Test.YtiehfpkcaoeieaaGreatDoorL16B
import Derived.Test.YtiehfpkcaoeieaaGreatDoorL16C
set_option linter.unusedVariables false
set_option linter.unusedSimpArgs false
namespace Go.Proofs.YtiehfpkcaoeieaaGreatDoor
open Go.RowKit Go.My Go.StripM

set_option maxRecDepth 100000 in
set_option maxHeartbeats 4000000 in
theorem law16 {n : Int} {ls : List (List Int)} {oa : Option Addr} {cap : Nat} {zs : List Int} {ob : Option Addr} {cb : Nat} {x y : Int} {w : World} (h : BArg w ls oa cap) (ho : LArg w zs ob cb) (hx1 : -9223372036854775808 ≤ x) (hx2 : x ≤ 9223372036854775807) (hy1 : -9223372036854775808 ≤ y) (hy2 : y ≤ 9223372036854775807)
    (m : Int) (hm : w.cell? ⟨1, 0, none⟩ = some (.int .i64 m)) :
    Calls Tryz.prog 16 #[.agg #[.int .i64 n, .slice oa ls.length cap], .slice ob zs.length cb, .int .i64 x, .int .i64 y] w fun e w' => e = .returned (.bool true) ∧ Ext w w' := by
  have hl := h.small
  have hlo := ho.small
  have Hm := Lib.hid hm
  have Hz := Lib.hid ho.ints
  have Hr := Lib.hid h.rows
  have B := Lib.hid (BxI.start (n := n) (cap := cap) h.rows)
  have T35 := Lib.hid trivial
  cases hr : shortB ls && boardB n ls
  · have R35 := T35; have R35y := T35
    clear h ho hm
    go_enter Tryz.func16, Tryz.ntmps16
    go_wp2_with (first | (go_at_call 29; refine (B.out.right hl).mono ?_; rw [hr]; rintro e w9 ⟨rfl, hE9⟩; replace B := Lib.hid (B.out.next hE9); (try clear c0 c1); have c0 := B.out.c0; have c1 := B.out.c1; clear hE9) | (go_at_call 23; refine (B.out.known Hm.out).mono ?_; rintro e w9 ⟨rfl, hE9⟩; replace B := Lib.hid (B.out.next hE9); (try clear c0 c1); have c0 := B.out.c0; have c1 := B.out.c1; clear hE9))
    go_ret
    exact ⟨rfl, B.out.ext⟩
  · have hb : boardB n ls = true := by rw [Bool.and_eq_true] at hr; exact hr.2
    have hn := board_small hb
    have R35 := Lib.hid (fun (W : World) (v : Value) => rName_any n x v W hn.1 hn.2)
    have R35y := Lib.hid (fun (W : World) (v : Value) => rName_any n y v W hn.1 hn.2)
    have hzc := ho.le
    have hzm := ho.max
    by_cases hlen : (8 : Int) < (zs.length : Int)
    · clear h ho hm hb
      go_enter Tryz.func16, Tryz.ntmps16; go_wp2_with (first | (go_at_call 29; refine (B.out.right hl).mono ?_; rw [hr]; rintro e w9 ⟨rfl, hE9⟩; replace B := Lib.hid (B.out.next hE9); (try clear c0 c1); have c0 := B.out.c0; have c1 := B.out.c1; clear hE9) | (go_at_call 35; have t0 := T35; clear t0 T35; refine (R35.out _ _).mono ?_; rintro e w9 ⟨rfl, hE9⟩; replace B := Lib.hid (B.out.next hE9); (try clear c0 c1); have c0 := B.out.c0; have c1 := B.out.c1; clear hE9) | (go_at_call 35; refine (R35y.out _ _).mono ?_; rintro e w9 ⟨rfl, hE9⟩; replace B := Lib.hid (B.out.next hE9); (try clear c0 c1); have c0 := B.out.c0; have c1 := B.out.c1; clear hE9) | (go_at_call 23; refine (B.out.known Hm.out).mono ?_; rintro e w9 ⟨rfl, hE9⟩; replace B := Lib.hid (B.out.next hE9); (try clear c0 c1); have c0 := B.out.c0; have c1 := B.out.c1; clear hE9)); go_ret; exact ⟨rfl, B.out.ext⟩
    · by_cases hq : (zs.length : Int) = n
      · cases hx : inB x 0 (n - 1)
        · rw [hx] at R35
          subst hq
          clear h ho hm hb
          go_enter Tryz.func16, Tryz.ntmps16; go_wp2_with (first | (go_at_call 29; refine (B.out.right hl).mono ?_; rw [hr]; rintro e w9 ⟨rfl, hE9⟩; replace B := Lib.hid (B.out.next hE9); (try clear c0 c1); have c0 := B.out.c0; have c1 := B.out.c1; clear hE9) | (go_at_call 35; have t0 := T35; clear t0 T35; refine (R35.out _ _).mono ?_; rintro e w9 ⟨rfl, hE9⟩; replace B := Lib.hid (B.out.next hE9); (try clear c0 c1); have c0 := B.out.c0; have c1 := B.out.c1; clear hE9) | (go_at_call 35; refine (R35y.out _ _).mono ?_; rintro e w9 ⟨rfl, hE9⟩; replace B := Lib.hid (B.out.next hE9); (try clear c0 c1); have c0 := B.out.c0; have c1 := B.out.c1; clear hE9) | (go_at_call 23; refine (B.out.known Hm.out).mono ?_; rintro e w9 ⟨rfl, hE9⟩; replace B := Lib.hid (B.out.next hE9); (try clear c0 c1); have c0 := B.out.c0; have c1 := B.out.c1; clear hE9)); go_ret; exact ⟨rfl, B.out.ext⟩
        · rw [hx] at R35
          cases hy : inB y 0 (n - 1)
          · rw [hy] at R35y
            subst hq
            clear h ho hm hb
            go_enter Tryz.func16, Tryz.ntmps16; go_wp2_with (first | (go_at_call 29; refine (B.out.right hl).mono ?_; rw [hr]; rintro e w9 ⟨rfl, hE9⟩; replace B := Lib.hid (B.out.next hE9); (try clear c0 c1); have c0 := B.out.c0; have c1 := B.out.c1; clear hE9) | (go_at_call 35; have t0 := T35; clear t0 T35; refine (R35.out _ _).mono ?_; rintro e w9 ⟨rfl, hE9⟩; replace B := Lib.hid (B.out.next hE9); (try clear c0 c1); have c0 := B.out.c0; have c1 := B.out.c1; clear hE9) | (go_at_call 35; refine (R35y.out _ _).mono ?_; rintro e w9 ⟨rfl, hE9⟩; replace B := Lib.hid (B.out.next hE9); (try clear c0 c1); have c0 := B.out.c0; have c1 := B.out.c1; clear hE9) | (go_at_call 23; refine (B.out.known Hm.out).mono ?_; rintro e w9 ⟨rfl, hE9⟩; replace B := Lib.hid (B.out.next hE9); (try clear c0 c1); have c0 := B.out.c0; have c1 := B.out.c1; clear hE9)); go_ret; exact ⟨rfl, B.out.ext⟩
          · rw [hy] at R35y
            by_cases hxy : x = y
            · subst hxy
              subst hq
              clear h ho hm hb
              go_enter Tryz.func16, Tryz.ntmps16; go_wp2_with (first | (go_at_call 29; refine (B.out.right hl).mono ?_; rw [hr]; rintro e w9 ⟨rfl, hE9⟩; replace B := Lib.hid (B.out.next hE9); (try clear c0 c1); have c0 := B.out.c0; have c1 := B.out.c1; clear hE9) | (go_at_call 35; have t0 := T35; clear t0 T35; refine (R35.out _ _).mono ?_; rintro e w9 ⟨rfl, hE9⟩; replace B := Lib.hid (B.out.next hE9); (try clear c0 c1); have c0 := B.out.c0; have c1 := B.out.c1; clear hE9) | (go_at_call 35; refine (R35y.out _ _).mono ?_; rintro e w9 ⟨rfl, hE9⟩; replace B := Lib.hid (B.out.next hE9); (try clear c0 c1); have c0 := B.out.c0; have c1 := B.out.c1; clear hE9) | (go_at_call 23; refine (B.out.known Hm.out).mono ?_; rintro e w9 ⟨rfl, hE9⟩; replace B := Lib.hid (B.out.next hE9); (try clear c0 c1); have c0 := B.out.c0; have c1 := B.out.c1; clear hE9)); go_ret; exact ⟨rfl, B.out.ext⟩
            · obtain ⟨n, ss, rfl, rfl, g⟩ := board_lift hb
              obtain ⟨a, rfl, ha⟩ := name_lift hx
              obtain ⟨b, rfl, hb⟩ := name_lift hy
              have hne : a ≠ b := fun e => hxy (by rw [e])
              have hzn : zs.length = n := by omega
              have hcap := h.le
              have hoa := h.none
              rw [upp_length] at hcap
              clear h ho hm B R35 R35y hq
              rw [upp_length, hzn]
              rw [hzn] at hzc
              cases hc : cyc n ss
              · cases hSM : sameOf n ss a b
                · exact law16B g Hr.out Hz.out hzn hzc hzm hl ha hb hne hcap hoa hr hc hSM m Hm.out
                · exact law16C g Hr.out Hz.out hzn hzc hzm hl ha hb hne hcap hoa hr hc hSM m Hm.out
              · exact law16A g Hr.out Hz.out hzn hzc hzm hl ha hb hne hcap hoa hr hc m Hm.out
      · have hq1 : ((zs.length : Int) == n) = false := by simpa using hq
        have hq2 : ((zs.length : Int) != n) = true := by simpa using hq
        clear h ho hm hb hq
        go_enter Tryz.func16, Tryz.ntmps16; go_wp2_with (first | (go_at_call 29; refine (B.out.right hl).mono ?_; rw [hr]; rintro e w9 ⟨rfl, hE9⟩; replace B := Lib.hid (B.out.next hE9); (try clear c0 c1); have c0 := B.out.c0; have c1 := B.out.c1; clear hE9) | (go_at_call 35; have t0 := T35; clear t0 T35; refine (R35.out _ _).mono ?_; rintro e w9 ⟨rfl, hE9⟩; replace B := Lib.hid (B.out.next hE9); (try clear c0 c1); have c0 := B.out.c0; have c1 := B.out.c1; clear hE9) | (go_at_call 35; refine (R35y.out _ _).mono ?_; rintro e w9 ⟨rfl, hE9⟩; replace B := Lib.hid (B.out.next hE9); (try clear c0 c1); have c0 := B.out.c0; have c1 := B.out.c1; clear hE9) | (go_at_call 23; refine (B.out.known Hm.out).mono ?_; rintro e w9 ⟨rfl, hE9⟩; replace B := Lib.hid (B.out.next hE9); (try clear c0 c1); have c0 := B.out.c0; have c1 := B.out.c1; clear hE9)); go_ret; exact ⟨rfl, B.out.ext⟩

end Go.Proofs.YtiehfpkcaoeieaaGreatDoor
