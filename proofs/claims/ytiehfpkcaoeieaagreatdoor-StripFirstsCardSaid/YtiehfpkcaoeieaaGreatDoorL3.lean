/- The walk of StripFirsts: it answers true. No condition. -/
import Derived.Test.YtiehfpkcaoeieaaGreatDoorRefAll
set_option linter.unusedVariables false
set_option linter.unusedSimpArgs false
namespace Go.Proofs.YtiehfpkcaoeieaaGreatDoor
open Go.RowKit Go.My Go.StripM

theorem all_up (n : Nat) (ss : List (List Nat)) (oa : Option Addr) (cap : Nat) (w : World) (h : RowsAt w oa (upp ss)) (g : Good n ss) :
    Calls Tryz.prog 27 #[.agg #[.int .i64 n, .slice oa ss.length cap]] w fun e w' => (∃ ol cl, e = .returned (.slice ol (cnt n ss) cl) ∧ cnt n ss ≤ cl ∧ RowsAt w' ol (upp (all n ss))) ∧ Ext w w' :=
  (all_r n ss oa cap w h g).mono fun e w' ⟨v, h1, ⟨ol, cl, h2, h3, _, _, h6⟩, h7⟩ => by
    rw [upp_length, ← cnt_all g.valid] at h2 h3
    exact ⟨⟨ol, cl, by rw [h1, h2], h3, h6⟩, h7⟩

set_option maxRecDepth 100000 in
set_option maxHeartbeats 4000000 in
theorem law3b {n : Nat} {ss : List (List Nat)} {oa : Option Addr} {cap : Nat} {w : World} (g : Good n ss) (h : RowsAt w oa (upp ss)) (hl : (upp ss).length ≤ 9223372036854775807)
    (hs : shortB (upp ss) = true) (m : Int) (hm : w.cell? ⟨1, 0, none⟩ = some (.int .i64 m)) :
    Calls Tryz.prog 3 #[.agg #[.int .i64 n, .slice oa ss.length cap]] w fun e w' => e = .returned (.bool true) ∧ Ext w w' := by
  have B := Lib.hid (Bx.start (n := n) (cap := cap) h)
  have R22 := Lib.hid (fun (W : World) (hW : Bx n ss oa cap w W) => short_any n (upp ss) oa cap W hW.rows hl)
  have R26 := Lib.hid (fun (W : World) (hW : Bx n ss oa cap w W) => rBoard_any n (upp ss) oa cap W hW.rows hl)
  have Rk := Lib.hid (fun (W : World) (hW : Bx n ss oa cap w W) => known_any W m (cell_ext hW.ext hm))
  have R25 := Lib.hid (fun (W : World) (hW : Bx n ss oa cap w W) => scount_any n ss oa cap W hW.rows g)
  have R27 := Lib.hid (fun (W : World) (hW : Bx n ss oa cap w W) => all_up n ss oa cap W hW.rows g)
  simp only [upp_length, hs] at R22
  simp only [upp_length, g.isB] at R26
  have hc7 := cnt_720 g.le g.valid
  cases hc : cyc n ss
  · obtain ⟨f, hf, hfa⟩ := first_some g.valid hc
    have hff := first_facts hf
    have hfl2 : f.length ≤ 1000 := by rw [hff.1.1]; have := g.le; omega
    have hc0 : 0 < cnt n ss := Nat.pos_of_ne_zero fun e => by rw [cnt_zero g.valid, hc] at e; cases e
    have R24 := Lib.hid (fun (W : World) (hW : Bx n ss oa cap w W) => first_any n ss oa cap W hW.rows g hc f hf)
    have hf0 : (all n ss)[0]? = some f := by rw [← List.head?_eq_getElem?]; exact hf
    have HF0 := Lib.hid hf0
    have R28 := Lib.hid (fun (W : World) (of og : Option Addr) (cf cg : Nat) (h1 : IntsAt W of (up f)) (h2 : IntsAt W og (up f)) => tsame_up f f of og cf cg W h1 h2 hfl2 hfl2)
    simp only [decide_eq_true rfl] at R28
    clear h hl hs hm g hc hf hfa hff hfl2 hf0
    generalize cnt n ss = c at *
    go_enter Tryz.func3, Tryz.ntmps3
    go_wp2_with (first | (go_at_call 22; refine (R22.out _ B.out).mono ?_; rintro e w9 ⟨rfl, hE9⟩; replace B := Lib.hid (B.out.next hE9); (try clear c0 c1); have c0 := B.out.c0; have c1 := B.out.c1; clear hE9) | (go_at_call 24; refine (R24.out _ B.out).mono ?_; rintro e w9 ⟨⟨v, rfl, hi⟩, hE9⟩; replace B := Lib.hid (B.out.next hE9); (try clear c0 c1); have c0 := B.out.c0; have c1 := B.out.c1; obtain ⟨of, cf, rfl, hfl, hfm, hfn, hi⟩ := isInts_up hi; have Hf := Lib.hid hi; clear hi; clear hE9) | (go_at_call 25; refine (R25.out _ B.out).mono ?_; rintro e w9 ⟨rfl, hE9⟩; replace B := Lib.hid (B.out.next hE9); (try clear c0 c1); have c0 := B.out.c0; have c1 := B.out.c1; replace Hf := Lib.hid (Hf.out.ext hE9); clear hE9) | (go_at_call 26; refine (R26.out _ B.out).mono ?_; rintro e w9 ⟨rfl, hE9⟩; replace B := Lib.hid (B.out.next hE9); (try clear c0 c1); have c0 := B.out.c0; have c1 := B.out.c1; replace Hf := Lib.hid (Hf.out.ext hE9); clear hE9) | (go_at_call 27; refine (R27.out _ B.out).mono ?_; rintro e w9 ⟨⟨ol, cl, rfl, hcl, hro⟩, hE9⟩; replace B := Lib.hid (B.out.next hE9); (try clear c0 c1); have c0 := B.out.c0; have c1 := B.out.c1; replace Hf := Lib.hid (Hf.out.ext hE9); obtain ⟨b, off, og, cg, hol, _, hcg, _, _, _, hig⟩ := rows_get hro HF0.out; subst hol; rw [Nat.add_zero] at hcg; have Hg := Lib.hid hig; clear hro hig; clear hE9) | (go_at_call 28; refine (R28.out _ of og cf cg Hf.out Hg.out).mono ?_; rintro e w9 ⟨rfl, hE9⟩; replace B := Lib.hid (B.out.next hE9); (try clear c0 c1); have c0 := B.out.c0; have c1 := B.out.c1; clear hE9) | (go_at_call 23; refine (Rk.out _ B.out).mono ?_; rintro e w9 ⟨rfl, hE9⟩; replace B := Lib.hid (B.out.next hE9); (try clear c0 c1); have c0 := B.out.c0; have c1 := B.out.c1; clear hE9))
    go_ret
    exact ⟨rfl, B.out.ext⟩
  · have R24 := Lib.hid (fun (W : World) (hW : Bx n ss oa cap w W) => first_none n ss oa cap W hW.rows g hc)
    have hc0 : cnt n ss = 0 := (cnt_zero g.valid).2 hc
    simp only [hc0] at R25 R27
    clear h hl hs hm g hc hc0 hc7
    go_enter Tryz.func3, Tryz.ntmps3
    go_wp2_with (first | (go_at_call 22; refine (R22.out _ B.out).mono ?_; rintro e w9 ⟨rfl, hE9⟩; replace B := Lib.hid (B.out.next hE9); (try clear c0 c1); have c0 := B.out.c0; have c1 := B.out.c1; clear hE9) | (go_at_call 24; refine (R24.out _ B.out).mono ?_; rintro e w9 ⟨rfl, hE9⟩; replace B := Lib.hid (B.out.next hE9); (try clear c0 c1); have c0 := B.out.c0; have c1 := B.out.c1; clear hE9) | (go_at_call 25; refine (R25.out _ B.out).mono ?_; rintro e w9 ⟨rfl, hE9⟩; replace B := Lib.hid (B.out.next hE9); (try clear c0 c1); have c0 := B.out.c0; have c1 := B.out.c1; clear hE9) | (go_at_call 26; refine (R26.out _ B.out).mono ?_; rintro e w9 ⟨rfl, hE9⟩; replace B := Lib.hid (B.out.next hE9); (try clear c0 c1); have c0 := B.out.c0; have c1 := B.out.c1; clear hE9) | (go_at_call 27; refine (R27.out _ B.out).mono ?_; rintro e w9 ⟨⟨ol, cl, rfl, hcl, hro⟩, hE9⟩; replace B := Lib.hid (B.out.next hE9); (try clear c0 c1); have c0 := B.out.c0; have c1 := B.out.c1; clear hro; clear hE9) | (go_at_call 23; refine (Rk.out _ B.out).mono ?_; rintro e w9 ⟨rfl, hE9⟩; replace B := Lib.hid (B.out.next hE9); (try clear c0 c1); have c0 := B.out.c0; have c1 := B.out.c1; clear hE9))
    go_ret
    exact ⟨rfl, B.out.ext⟩

set_option maxRecDepth 100000 in
set_option maxHeartbeats 4000000 in
theorem law3 {n : Int} {ls : List (List Int)} {oa : Option Addr} {cap : Nat} {w : World} (h : BArg w ls oa cap) (m : Int) (hm : w.cell? ⟨1, 0, none⟩ = some (.int .i64 m)) :
    Calls Tryz.prog 3 #[.agg #[.int .i64 n, .slice oa ls.length cap]] w fun e w' => e = .returned (.bool true) ∧ Ext w w' := by
  have hl := h.small
  have Hm := Lib.hid hm
  have B := Lib.hid (BxI.start (n := n) (cap := cap) h.rows)
  cases hs : shortB ls
  · clear h hm
    go_enter Tryz.func3, Tryz.ntmps3
    go_wp2_with (first | (go_at_call 22; refine (B.out.short hl).mono ?_; rw [hs]; rintro e w9 ⟨rfl, hE9⟩; replace B := Lib.hid (B.out.next hE9); (try clear c0 c1); have c0 := B.out.c0; have c1 := B.out.c1; clear hE9) | (go_at_call 23; refine (B.out.known Hm.out).mono ?_; rintro e w9 ⟨rfl, hE9⟩; replace B := Lib.hid (B.out.next hE9); (try clear c0 c1); have c0 := B.out.c0; have c1 := B.out.c1; clear hE9))
    go_ret
    exact ⟨rfl, B.out.ext⟩
  · cases hb : boardB n ls
    · have R24 := Lib.hid (fun (W : World) (hW : BxI n ls oa cap w W) => first_bad n ls oa cap W hW.rows hl hb)
      have R25 := Lib.hid (fun (W : World) (hW : BxI n ls oa cap w W) => scount_bad n ls oa cap W hW.rows hl hb)
      clear h hm
      go_enter Tryz.func3, Tryz.ntmps3
      go_wp2_with (first | (go_at_call 22; refine (B.out.short hl).mono ?_; rw [hs]; rintro e w9 ⟨rfl, hE9⟩; replace B := Lib.hid (B.out.next hE9); (try clear c0 c1); have c0 := B.out.c0; have c1 := B.out.c1; clear hE9) | (go_at_call 24; refine (R24.out _ B.out).mono ?_; rintro e w9 ⟨rfl, hE9⟩; replace B := Lib.hid (B.out.next hE9); (try clear c0 c1); have c0 := B.out.c0; have c1 := B.out.c1; clear hE9) | (go_at_call 25; refine (R25.out _ B.out).mono ?_; rintro e w9 ⟨rfl, hE9⟩; replace B := Lib.hid (B.out.next hE9); (try clear c0 c1); have c0 := B.out.c0; have c1 := B.out.c1; clear hE9) | (go_at_call 26; refine (B.out.rboard hl).mono ?_; rw [hb]; rintro e w9 ⟨rfl, hE9⟩; replace B := Lib.hid (B.out.next hE9); (try clear c0 c1); have c0 := B.out.c0; have c1 := B.out.c1; clear hE9) | (go_at_call 23; refine (B.out.known Hm.out).mono ?_; rintro e w9 ⟨rfl, hE9⟩; replace B := Lib.hid (B.out.next hE9); (try clear c0 c1); have c0 := B.out.c0; have c1 := B.out.c1; clear hE9))
      go_ret
      exact ⟨rfl, B.out.ext⟩
    · obtain ⟨n, ss, rfl, rfl, g⟩ := board_lift hb
      rw [upp_length]
      exact law3b g h.rows hl hs m hm

end Go.Proofs.YtiehfpkcaoeieaaGreatDoor
