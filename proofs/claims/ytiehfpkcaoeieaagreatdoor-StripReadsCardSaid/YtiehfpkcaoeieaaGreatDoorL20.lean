/- StripReads answers true. No condition. -/
import Derived.Test.YtiehfpkcaoeieaaGreatDoorRRead
import Derived.Test.YtiehfpkcaoeieaaGreatDoorM14
import Derived.Test.YtiehfpkcaoeieaaGreatDoorSameB
set_option linter.unusedVariables false
set_option linter.unusedSimpArgs false
namespace Go.Proofs.YtiehfpkcaoeieaaGreatDoor
open Go.RowKit Go.My Go.StripM

theorem isRows_up {w : World} {v : Value} {ss : List (List Nat)} (h : IsRows w v (upp ss)) : ∃ oa cap, v = .slice oa ss.length cap ∧ ss.length ≤ cap ∧ cap ≤ maxLen ∧ RowsAt w oa (upp ss) := by
  obtain ⟨oa, cap, h1, h2, h3, _, h5⟩ := h
  rw [upp_length] at h1 h2
  exact ⟨oa, cap, h1, h2, h3, h5⟩
theorem no_rows (w : World) : RowsAt w none [] := fun i l h => by simp at h

set_option maxRecDepth 100000 in
set_option maxHeartbeats 4000000 in
theorem law20 {l : List UInt8} {w : World} (hl : l.length ≤ 9223372036854775807) (m : Int) (hm : w.cell? ⟨1, 0, none⟩ = some (.int .i64 m)) :
    Calls Tryz.prog 20 #[.string (bs l)] w fun e w' => e = .returned (.bool true) ∧ Ext w w' := by
  have Hm := Lib.hid hm
  have Rk := Lib.hid (fun W (hE : Ext w W) => known_any W m (cell_ext hE hm))
  clear hm
  by_cases h230 : (230 : Int) < (l.length : Int)
  · have HE := Lib.hid (Ext.refl w)
    go_enter Tryz.func20, Tryz.ntmps20
    go_wp2_with (first | (go_at_call 23; refine (Rk.out _ HE.out).mono ?_; rintro e w9 ⟨rfl, hE9⟩; replace HE := Lib.hid (HE.out.trans hE9); clear hE9))
    go_ret
    exact ⟨rfl, HE.out⟩
  · have R69 := Lib.hid (fun W => rread_any l W (by omega))
    by_cases h130 : l.length ≤ 130
    · have h130I : ¬ (130 : Int) < (l.length : Int) := by omega
      cases hp : parse l with
      | none =>
        have R66 := Lib.hid (read_text l m w h130 Hm.out hp)
        have Hp := Lib.hid hp
        clear hp hl
        go_enter Tryz.func20, Tryz.ntmps20
        go_wp2_with (first | (go_at_call 66; refine R66.out.mono ?_; rintro e w1 ⟨rfl, hE1⟩; have HE1 := Lib.hid hE1; clear hE1) | (go_at_call 69; refine (R69.out _).mono ?_; rintro e w2 ⟨hrr, hE2⟩; obtain rfl := hrr.2 Hp.out; have HE := Lib.hid ((HE1.out.alloc _).trans hE2); have x0 := cell_ext (p := ⟨w1.heap.size, 0, none⟩) (v := .int .i64 0) hE2 (by go_simp); have x1 := cell_ext (p := ⟨w1.heap.size, 1, none⟩) (v := .slice none 0 0) hE2 (by go_simp); have hlt := World.block_lt_of_cell? _ _ x0; have hne := Nat.ne_of_lt hlt; simp only at hlt hne; clear hrr hE2) | (go_at_call 68; refine (sboards_same 0 [] none none 0 0 _ (no_rows _) (no_rows _) (by decide)).mono ?_; rintro e w8 ⟨rfl, hE9⟩; replace HE := Lib.hid ((HE.out.alloc _).trans hE9); clear hE9) | (go_at_call 23; refine (Rk.out _ HE.out).mono ?_; rintro e w9 ⟨rfl, hE9⟩; replace HE := Lib.hid (HE.out.trans hE9); clear hE9))
        go_ret
        exact ⟨rfl, HE.out⟩
      | some q =>
        obtain ⟨n, ss⟩ := q
        have htx := (parse_iff.1 hp).2
        subst htx
        have hss : ss.length ≤ 1000 := by
          have h1 := spl_text (parse_iff.1 hp).1
          have h2 := spl_len 10 (textB n ss)
          rw [h1, List.length_append, linesB_length] at h2
          simp at h2; omega
        have Hp := Lib.hid hp
        have HR := Lib.hid (fun e W (h : ReadR (textB n ss) e W) => h.1 n ss hp)
        cases hbd : boardB n (upp ss)
        · have R66 := Lib.hid (read_arg (textB n ss) m w h130 Hm.out n ss hp hbd)
          have R26 := Lib.hid (fun W o c (hr : RowsAt W o (upp ss)) => rBoard_any n (upp ss) o c W hr (by rw [upp_length]; omega))
          simp only [upp_length, hbd] at R26
          clear hp hl hbd Hp
          generalize textB n ss = l at *
          go_enter Tryz.func20, Tryz.ntmps20
          go_wp2_with (first | (go_at_call 66; refine R66.out.mono ?_; rintro e w1 ⟨rfl, hE1⟩; have HE1 := Lib.hid hE1; clear hE1) | (go_at_call 69; refine (R69.out _).mono ?_; rintro e w2 ⟨hrr, hE2⟩; obtain ⟨v5, rfl, hr5⟩ := HR.out _ _ hrr; obtain ⟨o5, c5, rfl, _, _, hr5⟩ := isRows_up hr5; have Hr5 := Lib.hid hr5; have HE := Lib.hid ((HE1.out.alloc _).trans hE2); have x0 := cell_ext (p := ⟨w1.heap.size, 0, none⟩) (v := .int .i64 0) hE2 (by go_simp); have x1 := cell_ext (p := ⟨w1.heap.size, 1, none⟩) (v := .slice none 0 0) hE2 (by go_simp); have hlt := World.block_lt_of_cell? _ _ x0; have hne := Nat.ne_of_lt hlt; simp only at hlt hne; clear hrr hE2 hr5) | (go_at_call 26; refine (R26.out _ o5 c5 (Hr5.out.ext ((Ext.refl w2).alloc _))).mono ?_; rintro e w3 ⟨rfl, hE3⟩; have z0 := cell_ext (p := ⟨w1.heap.size, 0, none⟩) (v := .int .i64 0) hE3 (by go_simp); have z1 := cell_ext (p := ⟨w1.heap.size, 1, none⟩) (v := .slice none 0 0) hE3 (by go_simp); replace HE := Lib.hid ((HE.out.alloc _).trans hE3); clear hE3 x0 x1) | (go_at_call 68; refine (sboards_same 0 [] none none 0 0 _ (no_rows _) (no_rows _) (by decide)).mono ?_; rintro e w8 ⟨rfl, hE9⟩; replace HE := Lib.hid (HE.out.trans hE9); clear hE9) | (go_at_call 23; refine (Rk.out _ HE.out).mono ?_; rintro e w9 ⟨rfl, hE9⟩; replace HE := Lib.hid (HE.out.trans hE9); clear hE9))
          go_ret
          exact ⟨rfl, HE.out⟩
        · have g : Good n ss := by
            obtain ⟨n', ss', e1, e2, g⟩ := board_lift hbd
            obtain rfl : n = n' := by omega
            obtain rfl : ss = ss' := by
              rw [upp, upp] at e2
              exact (List.map_inj_right fun x y h => up_inj h).1 e2
            exact g
          have R66 := Lib.hid (read_ok (textB n ss) m w h130 Hm.out n ss hp hbd)
          have R26 := Lib.hid (fun W o c (hr : RowsAt W o (upp ss)) => rBoard_any n (upp ss) o c W hr (by rw [upp_length]; omega))
          simp only [upp_length, hbd] at R26
          have R65 := Lib.hid (fun W o c (hr : RowsAt W o (upp ss)) => print_any n ss o c W hr g)
          have R68 := Lib.hid (fun W o c o' c' (hr : RowsAt W o (upp ss)) (hr' : RowsAt W o' (upp ss)) => sboards_same n (upp ss) o o' c c' W hr hr' (by rw [upp_length]; omega))
          simp only [upp_length] at R68
          clear hp hl hbd Hp g
          generalize textB n ss = l at *
          go_enter Tryz.func20, Tryz.ntmps20
          go_wp2_with (first | (go_at_call 66; refine R66.out.mono ?_; rintro e w1 ⟨⟨v3, rfl, hr3⟩, hE1⟩; obtain ⟨o3, c3, rfl, _, _, hr3⟩ := isRows_up hr3; have Hr3 := Lib.hid hr3; have HE1 := Lib.hid hE1; clear hE1 hr3) | (go_at_call 69; refine (R69.out _).mono ?_; rintro e w2 ⟨hrr, hE2⟩; obtain ⟨v5, rfl, hr5⟩ := HR.out _ _ hrr; obtain ⟨o5, c5, rfl, _, _, hr5⟩ := isRows_up hr5; have Hr5 := Lib.hid hr5; replace Hr3 := Lib.hid ((Hr3.out.ext ((Ext.refl w1).alloc _)).ext hE2); have HE := Lib.hid ((HE1.out.alloc _).trans hE2); have x0 := cell_ext (p := ⟨w1.heap.size, 0, none⟩) (v := .int .i64 n) hE2 (by go_simp); have x1 := cell_ext (p := ⟨w1.heap.size, 1, none⟩) (v := .slice o3 ss.length c3) hE2 (by go_simp); have hlt := World.block_lt_of_cell? _ _ x0; have hne := Nat.ne_of_lt hlt; simp only at hlt hne; clear hrr hE2 hr5) | (go_at_call 26; refine (R26.out _ o5 c5 (Hr5.out.ext ((Ext.refl w2).alloc _))).mono ?_; rintro e w3 ⟨rfl, hE3⟩; have z0 := cell_ext (p := ⟨w1.heap.size, 0, none⟩) (v := .int .i64 n) hE3 (by go_simp); have z1 := cell_ext (p := ⟨w1.heap.size, 1, none⟩) (v := .slice o3 ss.length c3) hE3 (by go_simp); have y0 := cell_ext (p := ⟨w2.heap.size, 0, none⟩) (v := .int .i64 n) hE3 (by go_simp); have y1 := cell_ext (p := ⟨w2.heap.size, 1, none⟩) (v := .slice o5 ss.length c5) hE3 (by go_simp); replace Hr3 := Lib.hid ((Hr3.out.ext ((Ext.refl w2).alloc _)).ext hE3); replace Hr5 := Lib.hid ((Hr5.out.ext ((Ext.refl w2).alloc _)).ext hE3); replace HE := Lib.hid ((HE.out.alloc _).trans hE3); clear hE3 x0 x1) | (go_at_call 65; refine (R65.out _ o3 c3 Hr3.out).mono ?_; rintro e w4 ⟨rfl, hE4⟩; replace z0 := cell_ext hE4 z0; replace z1 := cell_ext hE4 z1; replace y0 := cell_ext hE4 y0; replace y1 := cell_ext hE4 y1; replace Hr3 := Lib.hid (Hr3.out.ext hE4); replace Hr5 := Lib.hid (Hr5.out.ext hE4); replace HE := Lib.hid (HE.out.trans hE4); clear hE4) | (go_at_call 68; refine (R68.out _ o3 c3 o5 c5 Hr3.out Hr5.out).mono ?_; rintro e w8 ⟨rfl, hE9⟩; replace HE := Lib.hid (HE.out.trans hE9); clear hE9) | (go_at_call 23; refine (Rk.out _ HE.out).mono ?_; rintro e w9 ⟨rfl, hE9⟩; replace HE := Lib.hid (HE.out.trans hE9); clear hE9))
          go_ret
          exact ⟨rfl, HE.out⟩
    · have h130I : (130 : Int) < (l.length : Int) := by omega
      have R66 := Lib.hid (read_long l w h130 hl)
      have hrr : ∀ e W, ReadR l e W → ∃ (n : Nat) (o : Option Addr) (L c : Nat) (is : Bool), e = .returned (.tuple #[.agg #[.int .i64 n, .slice o L c], .bool is]) := fun e W h => by
        cases hp : parse l with
        | none => exact ⟨0, none, 0, 0, false, h.2 hp⟩
        | some q =>
          obtain ⟨v, h1, h2⟩ := h.1 q.1 q.2 hp
          obtain ⟨o, c, rfl, _⟩ := isRows_up h2
          exact ⟨_, _, _, _, _, h1⟩
      have Hrr := Lib.hid hrr
      clear hrr hl
      go_enter Tryz.func20, Tryz.ntmps20
      go_wp2_with (first | (go_at_call 66; refine R66.out.mono ?_; rintro e w1 ⟨rfl, hE1⟩; have HE1 := Lib.hid hE1; clear hE1) | (go_at_call 69; refine (R69.out _).mono ?_; rintro e w2 ⟨hrr, hE2⟩; obtain ⟨n5, o5, L5, c5, is5, rfl⟩ := Hrr.out _ _ hrr; have HE := Lib.hid ((HE1.out.alloc _).trans hE2); have x0 := cell_ext (p := ⟨w1.heap.size, 0, none⟩) (v := .int .i64 0) hE2 (by go_simp); have x1 := cell_ext (p := ⟨w1.heap.size, 1, none⟩) (v := .slice none 0 0) hE2 (by go_simp); have hlt := World.block_lt_of_cell? _ _ x0; have hne := Nat.ne_of_lt hlt; simp only at hlt hne; clear hrr hE2) | (go_at_call 68; refine (sboards_same 0 [] none none 0 0 _ (no_rows _) (no_rows _) (by decide)).mono ?_; rintro e w8 ⟨rfl, hE9⟩; replace HE := Lib.hid ((HE.out.alloc _).trans hE9); clear hE9) | (go_at_call 23; refine (Rk.out _ HE.out).mono ?_; rintro e w9 ⟨rfl, hE9⟩; replace HE := Lib.hid (HE.out.trans hE9); clear hE9))
      go_ret
      exact ⟨rfl, HE.out⟩

end Go.Proofs.YtiehfpkcaoeieaaGreatDoor
