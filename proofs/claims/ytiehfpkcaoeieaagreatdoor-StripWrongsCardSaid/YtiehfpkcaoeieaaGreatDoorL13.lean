/- The walk of StripWrongs: it answers true. No condition. -/
import Derived.Test.YtiehfpkcaoeieaaGreatDoorRefWr2
set_option linter.unusedVariables false
set_option linter.unusedSimpArgs false
namespace Go.Proofs.YtiehfpkcaoeieaaGreatDoor
open Go.RowKit Go.My Go.StripM

set_option maxRecDepth 100000 in
set_option maxHeartbeats 4000000 in
theorem law13b {n : Nat} {ss : List (List Nat)} {oa : Option Addr} {cap : Nat} {w : World} (g : Good n ss) (h : RowsAt w oa (upp ss)) (hl : (upp ss).length ≤ 9223372036854775807)
    (hcap : ss.length ≤ cap) (hcm : cap ≤ maxLen) (hs : shortB (upp ss) = true) (m : Int) (hm : w.cell? ⟨1, 0, none⟩ = some (.int .i64 m)) :
    Calls Tryz.prog 13 #[.agg #[.int .i64 n, .slice oa ss.length cap]] w fun e w' => e = .returned (.bool true) ∧ Ext w w' := by
  have B := Lib.hid (Bx.start (n := n) (cap := cap) h)
  have R22 := Lib.hid (fun (W : World) (hW : Bx n ss oa cap w W) => short_any n (upp ss) oa cap W hW.rows hl)
  have R26 := Lib.hid (fun (W : World) (hW : Bx n ss oa cap w W) => rBoard_any n (upp ss) oa cap W hW.rows hl)
  have Rk := Lib.hid (fun (W : World) (hW : Bx n ss oa cap w W) => known_any W m (cell_ext hW.ext hm))
  have hpos : 0 < (wrongsOf n ss).length := List.length_pos_iff.2 (wrongs_ne g.len)
  obtain ⟨f, hf⟩ : ∃ f, f = (wrongsOf n ss)[0] := ⟨_, rfl⟩
  have hf0 : (wrongsOf n ss)[0]? = some f := by rw [hf]; simp [hpos]
  have R49 := Lib.hid (fun (W : World) (hW : Bx n ss oa cap w W) => wrong_any n ss oa cap W hW.rows g hcap hcm hpos)
  rw [← hf] at R49
  have R53 := Lib.hid (fun (W : World) (hW : Bx n ss oa cap w W) => blame_any n ss oa cap W hW.rows g hcap hcm)
  have R54 := Lib.hid (fun (W : World) (hW : Bx n ss oa cap w W) => wrongs_r n ss oa cap W hW.rows g)
  have R56 := Lib.hid (fun (W : World) (hW : Bx n ss oa cap w W) => blame_r n ss oa cap W hW.rows g)
  have hfl : f.length ≤ 1000 := by
    have hmem := List.mem_of_getElem? hf0
    rw [wrongs_least g.len] at hmem
    have : ∀ (gs : List (List (List Nat))), (∀ x ∈ gs, ∀ l ∈ x, l.length ≤ 6) → ∀ l ∈ least (fun l => !cyc n (onlyN ss (othN ss.length l))) gs, l.length ≤ 6 := by
      intro gs
      induction gs with
      | nil => intro _ l hl; simp [least] at hl
      | cons x gs ih =>
        intro hx l hl
        rw [least] at hl
        split at hl
        · exact ih (fun y hy => hx y (List.mem_cons_of_mem _ hy)) l hl
        · exact hx x List.mem_cons_self l (List.mem_filter.1 hl).1
    have := this _ (fun x hx l hl => by
      obtain ⟨d, hd, rfl⟩ := List.mem_map.1 hx
      exact (lists_lt g.len (chs_lists g.len (by have := List.mem_range.1 hd; omega) hl)).2) f hmem
    omega
  have R28 := Lib.hid (fun (W : World) (of og : Option Addr) (cf cg : Nat) (h1 : IntsAt W of (up f)) (h2 : IntsAt W og (up f)) => tsame_up f f of og cf cg W h1 h2 hfl hfl)
  simp only [decide_eq_true rfl] at R28
  have hbl : (blameTo (wrongsOf n ss) ss.length).length ≤ 9223372036854775807 := by have := g.len; simp [blameTo]; omega
  simp only [upp_length, hs] at R22
  simp only [upp_length, g.isB] at R26
  have HF0 := Lib.hid hf0
  clear h hl hs hm g hcap hcm hf hf0 hfl
  generalize blameTo (wrongsOf n ss) ss.length = BL at *
  have R55 := Lib.hid (fun (W : World) (of og : Option Addr) (cf cg : Nat) (h1 : IntsAt W of BL) (h2 : IntsAt W og BL) => swords_any BL BL of og cf cg W h1 h2 hbl hbl)
  simp only [decide_eq_true rfl] at R55
  generalize wrongsOf n ss = R at *
  go_enter Tryz.func13, Tryz.ntmps13
  go_wp2_with (first | (go_at_call 22; refine (R22.out _ B.out).mono ?_; rintro e w9 ⟨rfl, hE9⟩; replace B := Lib.hid (B.out.next hE9); (try clear c0 c1); have c0 := B.out.c0; have c1 := B.out.c1; clear hE9) | (go_at_call 49; refine (R49.out _ B.out).mono ?_; rintro e w9 ⟨⟨v, rfl, hi⟩, hE9⟩; replace B := Lib.hid (B.out.next hE9); (try clear c0 c1); have c0 := B.out.c0; have c1 := B.out.c1; obtain ⟨of, cf, rfl, hfl, hfm, hfn, hi⟩ := isInts_up hi; have Hf := Lib.hid hi; clear hi; clear hE9) | (go_at_call 53; refine (R53.out _ B.out).mono ?_; rintro e w9 ⟨⟨v, rfl, hi⟩, hE9⟩; replace B := Lib.hid (B.out.next hE9); (try clear c0 c1); have c0 := B.out.c0; have c1 := B.out.c1; replace Hf := Lib.hid (Hf.out.ext hE9); obtain ⟨ox, cx, rfl, hxl, hxm, hxn, hi⟩ := hi; have Hx := Lib.hid hi; clear hi; clear hE9) | (go_at_call 26; refine (R26.out _ B.out).mono ?_; rintro e w9 ⟨rfl, hE9⟩; replace B := Lib.hid (B.out.next hE9); (try clear c0 c1); have c0 := B.out.c0; have c1 := B.out.c1; replace Hf := Lib.hid (Hf.out.ext hE9); replace Hx := Lib.hid (Hx.out.ext hE9); clear hE9) | (go_at_call 54; refine (R54.out _ B.out).mono ?_; rintro e w9 ⟨⟨ol, cl, rfl, hro, hRl⟩, hE9⟩; replace B := Lib.hid (B.out.next hE9); (try clear c0 c1); have c0 := B.out.c0; have c1 := B.out.c1; replace Hf := Lib.hid (Hf.out.ext hE9); replace Hx := Lib.hid (Hx.out.ext hE9); obtain ⟨b, off, og, cg, hol, _, hcg, _, _, _, hig⟩ := rows_get hro HF0.out; subst hol; rw [Nat.add_zero] at hcg; have Hg := Lib.hid hig; clear hro hig; clear hE9) | (go_at_call 28; refine (R28.out _ of og cf cg Hf.out Hg.out).mono ?_; rintro e w9 ⟨rfl, hE9⟩; replace B := Lib.hid (B.out.next hE9); (try clear c0 c1); have c0 := B.out.c0; have c1 := B.out.c1; replace Hx := Lib.hid (Hx.out.ext hE9); clear hE9) | (go_at_call 56; refine (R56.out _ B.out).mono ?_; rintro e w9 ⟨⟨v, rfl, hi⟩, hE9⟩; replace B := Lib.hid (B.out.next hE9); (try clear c0 c1); have c0 := B.out.c0; have c1 := B.out.c1; replace Hx := Lib.hid (Hx.out.ext hE9); obtain ⟨oy, cy, rfl, hyl, hym, hyn, hi⟩ := hi; have Hy := Lib.hid hi; clear hi; clear hE9) | (go_at_call 55; refine (R55.out _ ox oy cx cy Hx.out Hy.out).mono ?_; rintro e w9 ⟨rfl, hE9⟩; replace B := Lib.hid (B.out.next hE9); (try clear c0 c1); have c0 := B.out.c0; have c1 := B.out.c1; clear hE9) | (go_at_call 23; refine (Rk.out _ B.out).mono ?_; rintro e w9 ⟨rfl, hE9⟩; replace B := Lib.hid (B.out.next hE9); (try clear c0 c1); have c0 := B.out.c0; have c1 := B.out.c1; clear hE9))
  go_ret
  exact ⟨rfl, B.out.ext⟩

set_option maxRecDepth 100000 in
set_option maxHeartbeats 4000000 in
theorem law13 {n : Int} {ls : List (List Int)} {oa : Option Addr} {cap : Nat} {w : World} (h : BArg w ls oa cap) (m : Int) (hm : w.cell? ⟨1, 0, none⟩ = some (.int .i64 m)) :
    Calls Tryz.prog 13 #[.agg #[.int .i64 n, .slice oa ls.length cap]] w fun e w' => e = .returned (.bool true) ∧ Ext w w' := by
  have hl := h.small
  have Hm := Lib.hid hm
  have B := Lib.hid (BxI.start (n := n) (cap := cap) h.rows)
  cases hs : shortB ls
  · clear h hm
    go_enter Tryz.func13, Tryz.ntmps13
    go_wp2_with (first | (go_at_call 22; refine (B.out.short hl).mono ?_; rw [hs]; rintro e w9 ⟨rfl, hE9⟩; replace B := Lib.hid (B.out.next hE9); (try clear c0 c1); have c0 := B.out.c0; have c1 := B.out.c1; clear hE9) | (go_at_call 23; refine (B.out.known Hm.out).mono ?_; rintro e w9 ⟨rfl, hE9⟩; replace B := Lib.hid (B.out.next hE9); (try clear c0 c1); have c0 := B.out.c0; have c1 := B.out.c1; clear hE9))
    go_ret
    exact ⟨rfl, B.out.ext⟩
  · cases hb : boardB n ls
    · have R49 := Lib.hid (fun (W : World) (hW : BxI n ls oa cap w W) => wrong_bad n ls oa cap W hW.rows hl hb)
      have R53 := Lib.hid (fun (W : World) (hW : BxI n ls oa cap w W) => blame_bad n ls oa cap W hW.rows hl hb)
      clear h hm
      go_enter Tryz.func13, Tryz.ntmps13
      go_wp2_with (first | (go_at_call 22; refine (B.out.short hl).mono ?_; rw [hs]; rintro e w9 ⟨rfl, hE9⟩; replace B := Lib.hid (B.out.next hE9); (try clear c0 c1); have c0 := B.out.c0; have c1 := B.out.c1; clear hE9) | (go_at_call 49; refine (R49.out _ B.out).mono ?_; rintro e w9 ⟨rfl, hE9⟩; replace B := Lib.hid (B.out.next hE9); (try clear c0 c1); have c0 := B.out.c0; have c1 := B.out.c1; clear hE9) | (go_at_call 53; refine (R53.out _ B.out).mono ?_; rintro e w9 ⟨rfl, hE9⟩; replace B := Lib.hid (B.out.next hE9); (try clear c0 c1); have c0 := B.out.c0; have c1 := B.out.c1; clear hE9) | (go_at_call 26; refine (B.out.rboard hl).mono ?_; rw [hb]; rintro e w9 ⟨rfl, hE9⟩; replace B := Lib.hid (B.out.next hE9); (try clear c0 c1); have c0 := B.out.c0; have c1 := B.out.c1; clear hE9) | (go_at_call 23; refine (B.out.known Hm.out).mono ?_; rintro e w9 ⟨rfl, hE9⟩; replace B := Lib.hid (B.out.next hE9); (try clear c0 c1); have c0 := B.out.c0; have c1 := B.out.c1; clear hE9))
      go_ret
      exact ⟨rfl, B.out.ext⟩
    · obtain ⟨n, ss, rfl, rfl, g⟩ := board_lift hb
      have hcap := h.le
      rw [upp_length] at hcap
      rw [upp_length]
      exact law13b g h.rows hl hcap h.max hs m hm

end Go.Proofs.YtiehfpkcaoeieaaGreatDoor
