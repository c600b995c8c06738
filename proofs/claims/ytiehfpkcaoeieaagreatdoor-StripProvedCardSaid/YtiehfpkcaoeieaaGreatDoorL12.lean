/- The walk of StripProved: it answers true. No condition. -/
import Derived.Test.YtiehfpkcaoeieaaGreatDoorL12B
import Derived.Test.YtiehfpkcaoeieaaGreatDoorL12C
import Derived.Test.YtiehfpkcaoeieaaGreatDoorL12D
set_option linter.unusedVariables false
set_option linter.unusedSimpArgs false
namespace Go.Proofs.YtiehfpkcaoeieaaGreatDoor
open Go.RowKit Go.My Go.StripM

set_option maxRecDepth 100000 in
set_option maxHeartbeats 4000000 in
theorem law12r {n : Nat} {ss : List (List Nat)} {oa : Option Addr} {cap : Nat} {o : List Int} {ob : Option Addr} {cb : Nat} {w : World} (g : Good n ss) (h : RowsAt w oa (upp ss)) (ho : IntsAt w ob o) (hlo : o.length ≤ 9223372036854775807) (hl : (upp ss).length ≤ 9223372036854775807)
    (hlen : ¬ (8 : Int) < (o.length : Int)) (hr : (shortB (upp ss) && boardB n (upp ss)) = true) (hob : risB ss.length o = false) (m : Int) (hm : w.cell? ⟨1, 0, none⟩ = some (.int .i64 m)) :
    Calls Tryz.prog 12 #[.agg #[.int .i64 n, .slice oa ss.length cap], .slice ob o.length cb] w fun e w' => e = .returned (.bool true) ∧ Ext w w' := by
  have hss := g.len
  have B := Lib.hid (Bx.start (n := n) (cap := cap) h)
  have Ho := Lib.hid ho
  have R29 := Lib.hid (fun (W : World) (hW : Bx n ss oa cap w W) => right_any n (upp ss) oa cap W hW.rows hl)
  have R48 := Lib.hid (fun W (hi : IntsAt W ob o) => rising_any (n : Int) ss.length oa cap o ob cb W (by omega) hi hlo)
  have Rk := Lib.hid (fun (W : World) (hW : Bx n ss oa cap w W) => known_any W m (cell_ext hW.ext hm))
  rw [hob] at R48
  simp only [upp_length, hr] at R29
  clear h ho hm hl hr hob
  go_enter Tryz.func12, Tryz.ntmps12
  go_wp2_with (first | (go_at_call 29; refine (R29.out _ B.out).mono ?_; rintro e w9 ⟨rfl, hE9⟩; replace B := Lib.hid (B.out.next hE9); (try clear c0 c1); have c0 := B.out.c0; have c1 := B.out.c1; clear hE9) | (go_at_call 48; refine (R48.out _ (Ho.out.ext B.out.ext)).mono ?_; rintro e w9 ⟨rfl, hE9⟩; replace B := Lib.hid (B.out.next hE9); (try clear c0 c1); have c0 := B.out.c0; have c1 := B.out.c1; clear hE9) | (go_at_call 23; refine (Rk.out _ B.out).mono ?_; rintro e w9 ⟨rfl, hE9⟩; replace B := Lib.hid (B.out.next hE9); (try clear c0 c1); have c0 := B.out.c0; have c1 := B.out.c1; clear hE9))
  go_ret
  exact ⟨rfl, B.out.ext⟩

set_option maxRecDepth 100000 in
set_option maxHeartbeats 4000000 in
theorem law12 {n : Int} {ls : List (List Int)} {oa : Option Addr} {cap : Nat} {o : List Int} {ob : Option Addr} {cb : Nat} {w : World} (h : BArg w ls oa cap) (ho : LArg w o ob cb) (m : Int) (hm : w.cell? ⟨1, 0, none⟩ = some (.int .i64 m)) :
    Calls Tryz.prog 12 #[.agg #[.int .i64 n, .slice oa ls.length cap], .slice ob o.length cb] w fun e w' => e = .returned (.bool true) ∧ Ext w w' := by
  have hl := h.small
  have hlo := ho.small
  have hcb := ho.le
  have Hm := Lib.hid hm
  have Ho := Lib.hid ho.ints
  have Hr := Lib.hid h.rows
  cases hr : shortB ls && boardB n ls
  · have B := Lib.hid (BxI.start (n := n) (cap := cap) h.rows)
    clear h ho hm hlo hcb
    go_enter Tryz.func12, Tryz.ntmps12
    go_wp2_with (first | (go_at_call 29; refine (B.out.right hl).mono ?_; rw [hr]; rintro e w9 ⟨rfl, hE9⟩; replace B := Lib.hid (B.out.next hE9); (try clear c0 c1); have c0 := B.out.c0; have c1 := B.out.c1; clear hE9) | (go_at_call 23; refine (B.out.known Hm.out).mono ?_; rintro e w9 ⟨rfl, hE9⟩; replace B := Lib.hid (B.out.next hE9); (try clear c0 c1); have c0 := B.out.c0; have c1 := B.out.c1; clear hE9))
    go_ret
    exact ⟨rfl, B.out.ext⟩
  · by_cases hlen : (8 : Int) < (o.length : Int)
    · have B := Lib.hid (BxI.start (n := n) (cap := cap) h.rows)
      clear h ho hm hlo hcb
      go_enter Tryz.func12, Tryz.ntmps12
      go_wp2_with (first | (go_at_call 29; refine (B.out.right hl).mono ?_; rw [hr]; rintro e w9 ⟨rfl, hE9⟩; replace B := Lib.hid (B.out.next hE9); (try clear c0 c1); have c0 := B.out.c0; have c1 := B.out.c1; clear hE9) | (go_at_call 23; refine (B.out.known Hm.out).mono ?_; rintro e w9 ⟨rfl, hE9⟩; replace B := Lib.hid (B.out.next hE9); (try clear c0 c1); have c0 := B.out.c0; have c1 := B.out.c1; clear hE9))
      go_ret
      exact ⟨rfl, B.out.ext⟩
    · have hb : boardB n ls = true := by rw [Bool.and_eq_true] at hr; exact hr.2
      obtain ⟨n, ss, rfl, rfl, g⟩ := board_lift hb
      have hss := g.len
      cases hob : risB ss.length o
      · have hm' := Hm.out
        clear h ho hm hb
        rw [upp_length]
        exact law12r g Hr.out Ho.out hlo hl hlen hr hob m hm'
      · obtain ⟨o, rfl, o1, o2⟩ := ris_up hob
        have hcap := h.le
        have hcm := h.max
        rw [upp_length] at hcap
        clear h ho hm hb
        rw [upp_length, up_length]
        rw [up_length] at hcb
        have o2' := fun i hi => (o2 i hi).1
        cases hC : clashOf n ss with
        | none => exact law12n g o1 o2' Hr.out Ho.out hl hcb hcap hcm hr hC m Hm.out
        | some l =>
          cases hx : cyc n (onlyN ss o)
          · exact law12s0 g o1 o2' Hr.out Ho.out hl hcb hcap hcm hr l hC hx m Hm.out
          · by_cases hq : o.length = l.length
            · exact law12s1 g o1 o2' Hr.out Ho.out hl hcb hcap hcm hr l hC hx hq m Hm.out
            · exact law12s2 g o1 o2' Hr.out Ho.out hl hcb hcap hcm hr l hC hx hq m Hm.out

end Go.Proofs.YtiehfpkcaoeieaaGreatDoor
