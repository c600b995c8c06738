/- The walk of StripClashes: it answers true. No condition. -/
import Derived.Test.YtiehfpkcaoeieaaGreatDoorRefClash
set_option linter.unusedVariables false
set_option linter.unusedSimpArgs false
namespace Go.Proofs.YtiehfpkcaoeieaaGreatDoor
open Go.RowKit Go.My Go.StripM

set_option maxRecDepth 100000 in
set_option maxHeartbeats 4000000 in
theorem law11b {n : Nat} {ss : List (List Nat)} {oa : Option Addr} {cap : Nat} {w : World} (g : Good n ss) (h : RowsAt w oa (upp ss)) (hl : (upp ss).length ≤ 9223372036854775807)
    (hcap : ss.length ≤ cap) (hcm : cap ≤ maxLen) (hs : shortB (upp ss) = true) (m : Int) (hm : w.cell? ⟨1, 0, none⟩ = some (.int .i64 m)) :
    Calls Tryz.prog 11 #[.agg #[.int .i64 n, .slice oa ss.length cap]] w fun e w' => e = .returned (.bool true) ∧ Ext w w' := by
  have B := Lib.hid (Bx.start (n := n) (cap := cap) h)
  have R22 := Lib.hid (fun (W : World) (hW : Bx n ss oa cap w W) => short_any n (upp ss) oa cap W hW.rows hl)
  have R26 := Lib.hid (fun (W : World) (hW : Bx n ss oa cap w W) => rBoard_any n (upp ss) oa cap W hW.rows hl)
  have Rk := Lib.hid (fun (W : World) (hW : Bx n ss oa cap w W) => known_any W m (cell_ext hW.ext hm))
  have R46 := Lib.hid (fun (W : World) (hW : Bx n ss oa cap w W) => clash_any n ss oa cap W hW.rows g hcap hcm)
  have R47 := Lib.hid (fun (W : World) (hW : Bx n ss oa cap w W) => clash_r n ss oa cap W hW.rows g)
  simp only [upp_length, hs] at R22
  simp only [upp_length, g.isB] at R26
  have hlen : ∀ l, clashOf n ss = some l → l.length ≤ 1000 := fun l he => by
    have := List.mem_of_find?_eq_some (show (listsOf ss.length).find? _ = some l from he)
    have := (lists_lt g.len this).2
    omega
  cases hco : clashOf n ss with
  | none =>
    simp only [hco] at R46 R47
    clear h hl hs hm g hcap hcm hlen hco
    go_enter Tryz.func11, Tryz.ntmps11
    go_wp2_with (first | (go_at_call 22; refine (R22.out _ B.out).mono ?_; rintro e w9 ⟨rfl, hE9⟩; replace B := Lib.hid (B.out.next hE9); (try clear c0 c1); have c0 := B.out.c0; have c1 := B.out.c1; clear hE9) | (go_at_call 46; refine (R46.out _ B.out).mono ?_; rintro e w9 ⟨hpost, hE9⟩; replace B := Lib.hid (B.out.next hE9); (try clear c0 c1); have c0 := B.out.c0; have c1 := B.out.c1; obtain rfl : e = .returned (.tuple #[.slice none 0 0, .int .i64 5]) := hpost; clear hE9) | (go_at_call 26; refine (R26.out _ B.out).mono ?_; rintro e w9 ⟨rfl, hE9⟩; replace B := Lib.hid (B.out.next hE9); (try clear c0 c1); have c0 := B.out.c0; have c1 := B.out.c1; clear hE9) | (go_at_call 47; refine (R47.out _ B.out).mono ?_; rintro e w9 ⟨hpost, hE9⟩; replace B := Lib.hid (B.out.next hE9); (try clear c0 c1); have c0 := B.out.c0; have c1 := B.out.c1; obtain rfl : e = .returned (.tuple #[.slice none 0 0, .bool false]) := hpost; clear hE9) | (go_at_call 23; refine (Rk.out _ B.out).mono ?_; rintro e w9 ⟨rfl, hE9⟩; replace B := Lib.hid (B.out.next hE9); (try clear c0 c1); have c0 := B.out.c0; have c1 := B.out.c1; clear hE9))
    go_ret
    exact ⟨rfl, B.out.ext⟩
  | some l =>
    have hl2 := hlen l hco
    have R28 := Lib.hid (fun (W : World) (of og : Option Addr) (cf cg : Nat) (h1 : IntsAt W of (up l)) (h2 : IntsAt W og (up l)) => tsame_up l l of og cf cg W h1 h2 hl2 hl2)
    simp only [decide_eq_true rfl] at R28
    simp only [hco] at R46 R47
    clear h hl hs hm g hcap hcm hlen hco
    go_enter Tryz.func11, Tryz.ntmps11
    go_wp2_with (first | (go_at_call 22; refine (R22.out _ B.out).mono ?_; rintro e w9 ⟨rfl, hE9⟩; replace B := Lib.hid (B.out.next hE9); (try clear c0 c1); have c0 := B.out.c0; have c1 := B.out.c1; clear hE9) | (go_at_call 46; refine (R46.out _ B.out).mono ?_; rintro e w9 ⟨hpost, hE9⟩; replace B := Lib.hid (B.out.next hE9); (try clear c0 c1); have c0 := B.out.c0; have c1 := B.out.c1; obtain ⟨v, rfl, hi⟩ := hpost; obtain ⟨of, cf, rfl, hfl, hfm, hfn, hi⟩ := isInts_up hi; have Hf := Lib.hid hi; clear hi; clear hE9) | (go_at_call 26; refine (R26.out _ B.out).mono ?_; rintro e w9 ⟨rfl, hE9⟩; replace B := Lib.hid (B.out.next hE9); (try clear c0 c1); have c0 := B.out.c0; have c1 := B.out.c1; replace Hf := Lib.hid (Hf.out.ext hE9); clear hE9) | (go_at_call 47; refine (R47.out _ B.out).mono ?_; rintro e w9 ⟨hpost, hE9⟩; replace B := Lib.hid (B.out.next hE9); (try clear c0 c1); have c0 := B.out.c0; have c1 := B.out.c1; replace Hf := Lib.hid (Hf.out.ext hE9); obtain ⟨og, cg, rfl, hig⟩ := hpost; have Hg := Lib.hid hig; clear hig; clear hE9) | (go_at_call 28; refine (R28.out _ of og cf cg Hf.out Hg.out).mono ?_; rintro e w9 ⟨rfl, hE9⟩; replace B := Lib.hid (B.out.next hE9); (try clear c0 c1); have c0 := B.out.c0; have c1 := B.out.c1; clear hE9) | (go_at_call 23; refine (Rk.out _ B.out).mono ?_; rintro e w9 ⟨rfl, hE9⟩; replace B := Lib.hid (B.out.next hE9); (try clear c0 c1); have c0 := B.out.c0; have c1 := B.out.c1; clear hE9))
    go_ret
    exact ⟨rfl, B.out.ext⟩

set_option maxRecDepth 100000 in
set_option maxHeartbeats 4000000 in
theorem law11 {n : Int} {ls : List (List Int)} {oa : Option Addr} {cap : Nat} {w : World} (h : BArg w ls oa cap) (m : Int) (hm : w.cell? ⟨1, 0, none⟩ = some (.int .i64 m)) :
    Calls Tryz.prog 11 #[.agg #[.int .i64 n, .slice oa ls.length cap]] w fun e w' => e = .returned (.bool true) ∧ Ext w w' := by
  have hl := h.small
  have Hm := Lib.hid hm
  have B := Lib.hid (BxI.start (n := n) (cap := cap) h.rows)
  cases hs : shortB ls
  · clear h hm
    go_enter Tryz.func11, Tryz.ntmps11
    go_wp2_with (first | (go_at_call 22; refine (B.out.short hl).mono ?_; rw [hs]; rintro e w9 ⟨rfl, hE9⟩; replace B := Lib.hid (B.out.next hE9); (try clear c0 c1); have c0 := B.out.c0; have c1 := B.out.c1; clear hE9) | (go_at_call 23; refine (B.out.known Hm.out).mono ?_; rintro e w9 ⟨rfl, hE9⟩; replace B := Lib.hid (B.out.next hE9); (try clear c0 c1); have c0 := B.out.c0; have c1 := B.out.c1; clear hE9))
    go_ret
    exact ⟨rfl, B.out.ext⟩
  · cases hb : boardB n ls
    · have R46 := Lib.hid (fun (W : World) (hW : BxI n ls oa cap w W) => clash_bad n ls oa cap W hW.rows hl hb)
      clear h hm
      go_enter Tryz.func11, Tryz.ntmps11
      go_wp2_with (first | (go_at_call 22; refine (B.out.short hl).mono ?_; rw [hs]; rintro e w9 ⟨rfl, hE9⟩; replace B := Lib.hid (B.out.next hE9); (try clear c0 c1); have c0 := B.out.c0; have c1 := B.out.c1; clear hE9) | (go_at_call 46; refine (R46.out _ B.out).mono ?_; rintro e w9 ⟨rfl, hE9⟩; replace B := Lib.hid (B.out.next hE9); (try clear c0 c1); have c0 := B.out.c0; have c1 := B.out.c1; clear hE9) | (go_at_call 26; refine (B.out.rboard hl).mono ?_; rw [hb]; rintro e w9 ⟨rfl, hE9⟩; replace B := Lib.hid (B.out.next hE9); (try clear c0 c1); have c0 := B.out.c0; have c1 := B.out.c1; clear hE9) | (go_at_call 23; refine (B.out.known Hm.out).mono ?_; rintro e w9 ⟨rfl, hE9⟩; replace B := Lib.hid (B.out.next hE9); (try clear c0 c1); have c0 := B.out.c0; have c1 := B.out.c1; clear hE9))
      go_ret
      exact ⟨rfl, B.out.ext⟩
    · obtain ⟨n, ss, rfl, rfl, g⟩ := board_lift hb
      have hcap := h.le
      rw [upp_length] at hcap
      rw [upp_length]
      exact law11b g h.rows hl hcap h.max hs m hm

end Go.Proofs.YtiehfpkcaoeieaaGreatDoor
