/- The walk of StripPrints: it answers true. No condition. -/
import Derived.Test.YtiehfpkcaoeieaaGreatDoorSameB
import Derived.Test.YtiehfpkcaoeieaaGreatDoorLenT
set_option linter.unusedVariables false
set_option linter.unusedSimpArgs false
namespace Go.Proofs.YtiehfpkcaoeieaaGreatDoor
open Go.RowKit Go.My Go.StripM

set_option maxRecDepth 100000 in
set_option maxHeartbeats 4000000 in
theorem law19b {n : Nat} {ss : List (List Nat)} {oa : Option Addr} {cap : Nat} {w : World} (g : Good n ss) (h : RowsAt w oa (upp ss)) (hl : (upp ss).length ≤ 9223372036854775807)
    (hs : shortB (upp ss) = true) (m : Int) (hm : w.cell? ⟨1, 0, none⟩ = some (.int .i64 m)) :
    Calls Tryz.prog 19 #[.agg #[.int .i64 n, .slice oa ss.length cap]] w fun e w' => e = .returned (.bool true) ∧ Ext w w' := by
  have B := Lib.hid (Bx.start (n := n) (cap := cap) h)
  have R22 := Lib.hid (fun (W : World) (hW : Bx n ss oa cap w W) => short_any n (upp ss) oa cap W hW.rows hl)
  have R26 := Lib.hid (fun (W : World) (hW : Bx n ss oa cap w W) => rBoard_any n (upp ss) oa cap W hW.rows hl)
  have Rk := Lib.hid (fun (W : World) (hW : Bx n ss oa cap w W) => known_any W m (cell_ext hW.ext hm))
  have R65 := Lib.hid (fun (W : World) (hW : Bx n ss oa cap w W) => print_any n ss oa cap W hW.rows g)
  have R67 := Lib.hid (fun (W : World) (hW : Bx n ss oa cap w W) => rprint_any n ss oa cap W hW.rows g.small)
  have R66 := Lib.hid (fun (W : World) (hW : Bx n ss oa cap w W) => read_ok (textB n ss) m W g.text_len (cell_ext hW.ext hm) n ss (parse_text g.sm) g.isB)
  have R68 := Lib.hid (fun (W : World) (hW : Bx n ss oa cap w W) (ox : Option Addr) (cx : Nat) (hx : RowsAt W ox (upp ss)) => sboards_same n (upp ss) ox oa cx cap W hx hW.rows hl)
  simp only [upp_length, hs] at R22
  simp only [upp_length, g.isB] at R26
  simp only [upp_length] at R68
  have htl := g.text_len
  generalize textB n ss = l at *
  clear h hl hs hm g
  go_enter Tryz.func19, Tryz.ntmps19
  go_wp2_with (first | (go_at_call 22; refine (R22.out _ B.out).mono ?_; rintro e w9 ⟨rfl, hE9⟩; replace B := Lib.hid (B.out.next hE9); (try clear c0 c1); have c0 := B.out.c0; have c1 := B.out.c1; clear hE9) | (go_at_call 65; refine (R65.out _ B.out).mono ?_; rintro e w9 ⟨rfl, hE9⟩; replace B := Lib.hid (B.out.next hE9); (try clear c0 c1); have c0 := B.out.c0; have c1 := B.out.c1; clear hE9) | (go_at_call 26; refine (R26.out _ B.out).mono ?_; rintro e w9 ⟨rfl, hE9⟩; replace B := Lib.hid (B.out.next hE9); (try clear c0 c1); have c0 := B.out.c0; have c1 := B.out.c1; clear hE9) | (go_at_call 66; refine (R66.out _ B.out).mono ?_; rintro e wr ⟨⟨v, rfl, hi⟩, hE9⟩; obtain ⟨ox, cx, rfl, _, _, _, hi⟩ := hi; rw [upp_length]; have Hx := Lib.hid hi; replace B := Lib.hid (B.out.next hE9); clear hE9 hi c0 c1; have c0 := B.out.c0; have c1 := B.out.c1; have hlt : w.heap.size < wr.heap.size := World.block_lt_of_cell? wr _ B.out.c0; have hne := World.new_ne wr _ B.out.c0) | (go_at_call 67; refine (R67.out _ (B.out.next ((Ext.refl _).alloc _))).mono ?_; rintro e w9 ⟨rfl, hE9⟩; have d0 : w9.cell? ⟨wr.heap.size, 0, none⟩ = some (.int .i64 n) := cell_ext hE9 (by go_simp); have d1 : w9.cell? ⟨wr.heap.size, 1, none⟩ = some (.slice ox ss.length cx) := cell_ext hE9 (by go_simp); have hE8 := ((Ext.refl wr).alloc _).trans hE9; replace B := Lib.hid (B.out.next hE8); replace Hx := Lib.hid (Hx.out.ext hE8); clear hE8 hE9 c0 c1; have c0 := B.out.c0; have c1 := B.out.c1) | (go_at_call 68; refine (R68.out _ B.out ox cx Hx.out).mono ?_; rintro e w9 ⟨rfl, hE9⟩; replace B := Lib.hid (B.out.next hE9); (try clear c0 c1); have c0 := B.out.c0; have c1 := B.out.c1; clear hE9) | (go_at_call 23; refine (Rk.out _ B.out).mono ?_; rintro e w9 ⟨rfl, hE9⟩; replace B := Lib.hid (B.out.next hE9); (try clear c0 c1); have c0 := B.out.c0; have c1 := B.out.c1; clear hE9))
  go_ret
  exact ⟨rfl, B.out.ext⟩

set_option maxRecDepth 100000 in
set_option maxHeartbeats 4000000 in
theorem law19 {n : Int} {ls : List (List Int)} {oa : Option Addr} {cap : Nat} {w : World} (h : BArg w ls oa cap) (m : Int) (hm : w.cell? ⟨1, 0, none⟩ = some (.int .i64 m)) :
    Calls Tryz.prog 19 #[.agg #[.int .i64 n, .slice oa ls.length cap]] w fun e w' => e = .returned (.bool true) ∧ Ext w w' := by
  have hl := h.small
  have Hm := Lib.hid hm
  have B := Lib.hid (BxI.start (n := n) (cap := cap) h.rows)
  cases hs : shortB ls
  · clear h hm
    go_enter Tryz.func19, Tryz.ntmps19
    go_wp2_with (first | (go_at_call 22; refine (B.out.short hl).mono ?_; rw [hs]; rintro e w9 ⟨rfl, hE9⟩; replace B := Lib.hid (B.out.next hE9); (try clear c0 c1); have c0 := B.out.c0; have c1 := B.out.c1; clear hE9) | (go_at_call 23; refine (B.out.known Hm.out).mono ?_; rintro e w9 ⟨rfl, hE9⟩; replace B := Lib.hid (B.out.next hE9); (try clear c0 c1); have c0 := B.out.c0; have c1 := B.out.c1; clear hE9))
    go_ret
    exact ⟨rfl, B.out.ext⟩
  · cases hb : boardB n ls
    · have R65 := Lib.hid (fun (W : World) (hW : BxI n ls oa cap w W) => print_bad n ls oa cap W hW.rows hl hb)
      clear h hm
      go_enter Tryz.func19, Tryz.ntmps19
      go_wp2_with (first | (go_at_call 22; refine (B.out.short hl).mono ?_; rw [hs]; rintro e w9 ⟨rfl, hE9⟩; replace B := Lib.hid (B.out.next hE9); (try clear c0 c1); have c0 := B.out.c0; have c1 := B.out.c1; clear hE9) | (go_at_call 65; refine (R65.out _ B.out).mono ?_; rintro e w9 ⟨rfl, hE9⟩; replace B := Lib.hid (B.out.next hE9); (try clear c0 c1); have c0 := B.out.c0; have c1 := B.out.c1; clear hE9) | (go_at_call 26; refine (B.out.rboard hl).mono ?_; rw [hb]; rintro e w9 ⟨rfl, hE9⟩; replace B := Lib.hid (B.out.next hE9); (try clear c0 c1); have c0 := B.out.c0; have c1 := B.out.c1; clear hE9) | (go_at_call 23; refine (B.out.known Hm.out).mono ?_; rintro e w9 ⟨rfl, hE9⟩; replace B := Lib.hid (B.out.next hE9); (try clear c0 c1); have c0 := B.out.c0; have c1 := B.out.c1; clear hE9))
      go_ret
      exact ⟨rfl, B.out.ext⟩
    · obtain ⟨n, ss, rfl, rfl, g⟩ := board_lift hb
      rw [upp_length]
      exact law19b g h.rows hl hs m hm

end Go.Proofs.YtiehfpkcaoeieaaGreatDoor
