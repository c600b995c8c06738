/- The walk of StripSpoilt: it answers true. No condition. -/
import Derived.Test.YtiehfpkcaoeieaaGreatDoorSpoil
import Derived.Test.YtiehfpkcaoeieaaGreatDoorLenT
set_option linter.unusedVariables false
set_option linter.unusedSimpArgs false
namespace Go.Proofs.YtiehfpkcaoeieaaGreatDoor
open Go.RowKit Go.My Go.StripM

set_option maxRecDepth 100000 in
set_option maxHeartbeats 4000000 in
theorem law21b {n : Nat} {ss : List (List Nat)} {oa : Option Addr} {cap : Nat} {x : Int} {d : Nat} {w : World} (g : Good n ss) (h : RowsAt w oa (upp ss)) (hl : (upp ss).length ≤ 9223372036854775807)
    (hx1 : -9223372036854775808 ≤ x) (hx2 : x ≤ 9223372036854775807) (hd : d < 10) (hr : (shortB (upp ss) && boardB n (upp ss)) = true) (m : Int) (hm : w.cell? ⟨1, 0, none⟩ = some (.int .i64 m)) :
    Calls Tryz.prog 21 #[.agg #[.int .i64 n, .slice oa ss.length cap], .int .i64 x, .int .i64 d] w fun e w' => e = .returned (.bool true) ∧ Ext w w' := by
  have B := Lib.hid (Bx.start (n := n) (cap := cap) h)
  have R29 := Lib.hid (fun (W : World) (hW : Bx n ss oa cap w W) => right_any n (upp ss) oa cap W hW.rows hl)
  have Rk := Lib.hid (fun (W : World) (hW : Bx n ss oa cap w W) => known_any W m (cell_ext hW.ext hm))
  have R65 := Lib.hid (fun (W : World) (hW : Bx n ss oa cap w W) => print_any n ss oa cap W hW.rows g)
  simp only [upp_length, hr] at R29
  have htl := g.text_len
  have hsp := @spoilt n ss g
  generalize textB n ss = l at *
  have d1 : ¬ ((d : Int) < 0) := by omega
  have d2 : ¬ ((9 : Int) < (d : Int)) := by omega
  by_cases hx0 : x < 0
  · clear h hl hm hr g hsp
    go_enter Tryz.func21, Tryz.ntmps21
    go_wp2_with (first | (go_at_call 29; refine (R29.out _ B.out).mono ?_; rintro e w9 ⟨rfl, hE9⟩; replace B := Lib.hid (B.out.next hE9); (try clear c0 c1); have c0 := B.out.c0; have c1 := B.out.c1; clear hE9) | (go_at_call 65; refine (R65.out _ B.out).mono ?_; rintro e w9 ⟨rfl, hE9⟩; replace B := Lib.hid (B.out.next hE9); (try clear c0 c1); have c0 := B.out.c0; have c1 := B.out.c1; clear hE9) | (go_at_call 23; refine (Rk.out _ B.out).mono ?_; rintro e w9 ⟨rfl, hE9⟩; replace B := Lib.hid (B.out.next hE9); (try clear c0 c1); have c0 := B.out.c0; have c1 := B.out.c1; clear hE9))
    go_ret
    exact ⟨rfl, B.out.ext⟩
  · obtain ⟨j, rfl⟩ : ∃ j : Nat, x = j := ⟨x.toNat, by omega⟩
    by_cases hj : j < l.length
    · have hjl : (j : Int) < (l.length : Int) := by omega
      obtain ⟨y, hy⟩ : ∃ y, y = l[j].toNat := ⟨_, rfl⟩
      have hidx : (bs l)[j]'(by simpa [ByteArray.size] using hj) = l[j] := rfl
      by_cases h48 : y < 48
      · clear h hl hm hr g hsp
        go_enter Tryz.func21, Tryz.ntmps21
        go_wp2_with (first | (go_at_call 29; refine (R29.out _ B.out).mono ?_; rintro e w9 ⟨rfl, hE9⟩; replace B := Lib.hid (B.out.next hE9); (try clear c0 c1); have c0 := B.out.c0; have c1 := B.out.c1; clear hE9) | (go_at_call 65; refine (R65.out _ B.out).mono ?_; rintro e w9 ⟨rfl, hE9⟩; replace B := Lib.hid (B.out.next hE9); (try clear c0 c1); have c0 := B.out.c0; have c1 := B.out.c1; clear hE9) | (go_at_call 23; refine (Rk.out _ B.out).mono ?_; rintro e w9 ⟨rfl, hE9⟩; replace B := Lib.hid (B.out.next hE9); (try clear c0 c1); have c0 := B.out.c0; have c1 := B.out.c1; clear hE9))
        go_ret
        exact ⟨rfl, B.out.ext⟩
      · by_cases h57 : 57 < y
        · clear h hl hm hr g hsp
          go_enter Tryz.func21, Tryz.ntmps21
          go_wp2_with (first | (go_at_call 29; refine (R29.out _ B.out).mono ?_; rintro e w9 ⟨rfl, hE9⟩; replace B := Lib.hid (B.out.next hE9); (try clear c0 c1); have c0 := B.out.c0; have c1 := B.out.c1; clear hE9) | (go_at_call 65; refine (R65.out _ B.out).mono ?_; rintro e w9 ⟨rfl, hE9⟩; replace B := Lib.hid (B.out.next hE9); (try clear c0 c1); have c0 := B.out.c0; have c1 := B.out.c1; clear hE9) | (go_at_call 23; refine (Rk.out _ B.out).mono ?_; rintro e w9 ⟨rfl, hE9⟩; replace B := Lib.hid (B.out.next hE9); (try clear c0 c1); have c0 := B.out.c0; have c1 := B.out.c1; clear hE9))
          go_ret
          exact ⟨rfl, B.out.ext⟩
        · have hy1 : (48 : Int) ≤ (l[j].toNat : Int) := by omega
          have hy2 : (l[j].toNat : Int) ≤ 57 := by omega
          have q1 : IntKind.u8.wrap ((l[j].toNat : Int) - 48) = (l[j].toNat : Int) - 48 := by rw [IntWalk.u8_in _ (by omega)]
          have q2 : IntKind.i64.wrap ((l[j].toNat : Int) - 48) = (l[j].toNat : Int) - 48 := by rw [IntWalk.i64_in _ (by omega)]
          by_cases hyd : y = 48 + d
          · have hz : (l[j].toNat : Int) - 48 = (d : Int) := by omega
            clear h hl hm hr g hsp
            go_enter Tryz.func21, Tryz.ntmps21
            go_wp2_with (first | (go_at_call 29; refine (R29.out _ B.out).mono ?_; rintro e w9 ⟨rfl, hE9⟩; replace B := Lib.hid (B.out.next hE9); (try clear c0 c1); have c0 := B.out.c0; have c1 := B.out.c1; clear hE9) | (go_at_call 65; refine (R65.out _ B.out).mono ?_; rintro e w9 ⟨rfl, hE9⟩; replace B := Lib.hid (B.out.next hE9); (try clear c0 c1); have c0 := B.out.c0; have c1 := B.out.c1; clear hE9) | (go_at_call 23; refine (Rk.out _ B.out).mono ?_; rintro e w9 ⟨rfl, hE9⟩; replace B := Lib.hid (B.out.next hE9); (try clear c0 c1); have c0 := B.out.c0; have c1 := B.out.c1; clear hE9))
            go_ret
            exact ⟨rfl, B.out.ext⟩
          · have hz : ¬ ((l[j].toNat : Int) - 48 = (d : Int)) := by omega
            have hzb : ((l[j].toNat : Int) - 48 == (d : Int)) = false := by simpa using hz
            have hzd : decide ((l[j].toNat : Int) - 48 = (d : Int)) = false := by simpa using hz
            obtain ⟨BW, C, k1, k2, k3, k4, k5⟩ := spoil_world l j d hj hd
            have hne : parse (l.set j (UInt8.ofNat (48 + d))) = none := by
              rw [List.set_eq_take_append_cons_drop, if_pos hj]
              refine hsp (x := y - 48) (by omega) hd (by omega) ?_
              have e1 : UInt8.ofNat (48 + (y - 48)) = l[j] := by rw [show 48 + (y - 48) = l[j].toNat by omega]; simp
              rw [e1, ← List.drop_eq_getElem_cons hj, List.take_append_drop]
            obtain ⟨lz, hlz⟩ : ∃ lz, lz = l.set j (UInt8.ofNat (48 + d)) := ⟨_, rfl⟩
            have hzl : lz.length ≤ 130 := by rw [hlz, List.length_set]; exact htl
            rw [← hlz] at k4 hne
            have R66 := Lib.hid (fun (W : World) (hW : Bx n ss oa cap w W) => read_text lz m W hzl (cell_ext hW.ext hm) hne)
            have R68 := Lib.hid (fun (W : World) => sboards_same 0 [] none none 0 0 W (fun i l h => by simp at h) (fun i l h => by simp at h) (by simp))
            have K5 := Lib.hid k5
            have q3 : IntKind.i64.wrap (48 + (d : Int)) = 48 + (d : Int) := by rw [IntWalk.i64_in _ (by omega)]
            have q4 : IntKind.u8.wrap (48 + (d : Int)) = 48 + (d : Int) := by rw [IntWalk.u8_in _ (by omega)]
            clear h hl hm hr g hsp hne k5 hlz hzl
            go_enter Tryz.func21, Tryz.ntmps21
            go_wp2_with (first | (go_at_call 29; refine (R29.out _ B.out).mono ?_; rintro e w9 ⟨rfl, hE9⟩; replace B := Lib.hid (B.out.next hE9); (try clear c0 c1); have c0 := B.out.c0; have c1 := B.out.c1; clear hE9) | (go_at_call 65; refine (R65.out _ B.out).mono ?_; rintro e w9 ⟨rfl, hE9⟩; replace B := Lib.hid (B.out.next hE9); (try clear c0 c1); have c0 := B.out.c0; have c1 := B.out.c1; clear hE9) | (go_at_call 66; replace B := Lib.hid (B.out.next (K5.out _)); refine (R66.out _ B.out).mono ?_; rintro e w9 ⟨rfl, hE9⟩; replace B := Lib.hid (B.out.next hE9); clear hE9 c0 c1) | (go_at_call 68; refine (R68.out _).mono ?_; rintro e w9 ⟨rfl, hE9⟩; replace B := Lib.hid (B.out.next ((Ext.alloc (Ext.refl _) _).trans hE9)); clear hE9) | (go_at_call 23; refine (Rk.out _ B.out).mono ?_; rintro e w9 ⟨rfl, hE9⟩; replace B := Lib.hid (B.out.next hE9); (try clear c0 c1); have c0 := B.out.c0; have c1 := B.out.c1; clear hE9))
            go_ret
            exact ⟨rfl, B.out.ext⟩
    · have hj' : (l.length : Int) ≤ (j : Int) := by omega
      clear h hl hm hr g hsp
      go_enter Tryz.func21, Tryz.ntmps21
      go_wp2_with (first | (go_at_call 29; refine (R29.out _ B.out).mono ?_; rintro e w9 ⟨rfl, hE9⟩; replace B := Lib.hid (B.out.next hE9); (try clear c0 c1); have c0 := B.out.c0; have c1 := B.out.c1; clear hE9) | (go_at_call 65; refine (R65.out _ B.out).mono ?_; rintro e w9 ⟨rfl, hE9⟩; replace B := Lib.hid (B.out.next hE9); (try clear c0 c1); have c0 := B.out.c0; have c1 := B.out.c1; clear hE9) | (go_at_call 23; refine (Rk.out _ B.out).mono ?_; rintro e w9 ⟨rfl, hE9⟩; replace B := Lib.hid (B.out.next hE9); (try clear c0 c1); have c0 := B.out.c0; have c1 := B.out.c1; clear hE9))
      go_ret
      exact ⟨rfl, B.out.ext⟩

set_option maxRecDepth 100000 in
set_option maxHeartbeats 4000000 in
theorem law21 {n : Int} {ls : List (List Int)} {oa : Option Addr} {cap : Nat} {x d : Int} {w : World} (h : BArg w ls oa cap) (hx1 : -9223372036854775808 ≤ x) (hx2 : x ≤ 9223372036854775807) (hd1 : -9223372036854775808 ≤ d) (hd2 : d ≤ 9223372036854775807)
    (m : Int) (hm : w.cell? ⟨1, 0, none⟩ = some (.int .i64 m)) :
    Calls Tryz.prog 21 #[.agg #[.int .i64 n, .slice oa ls.length cap], .int .i64 x, .int .i64 d] w fun e w' => e = .returned (.bool true) ∧ Ext w w' := by
  have hl := h.small
  have Hm := Lib.hid hm
  have B := Lib.hid (BxI.start (n := n) (cap := cap) h.rows)
  cases hr : shortB ls && boardB n ls
  · clear h hm
    go_enter Tryz.func21, Tryz.ntmps21
    go_wp2_with (first | (go_at_call 29; refine (B.out.right hl).mono ?_; rw [hr]; rintro e w9 ⟨rfl, hE9⟩; replace B := Lib.hid (B.out.next hE9); (try clear c0 c1); have c0 := B.out.c0; have c1 := B.out.c1; clear hE9) | (go_at_call 23; refine (B.out.known Hm.out).mono ?_; rintro e w9 ⟨rfl, hE9⟩; replace B := Lib.hid (B.out.next hE9); (try clear c0 c1); have c0 := B.out.c0; have c1 := B.out.c1; clear hE9))
    go_ret
    exact ⟨rfl, B.out.ext⟩
  · by_cases h0 : d < 0
    · clear h hm
      go_enter Tryz.func21, Tryz.ntmps21
      go_wp2_with (first | (go_at_call 29; refine (B.out.right hl).mono ?_; rw [hr]; rintro e w9 ⟨rfl, hE9⟩; replace B := Lib.hid (B.out.next hE9); (try clear c0 c1); have c0 := B.out.c0; have c1 := B.out.c1; clear hE9) | (go_at_call 23; refine (B.out.known Hm.out).mono ?_; rintro e w9 ⟨rfl, hE9⟩; replace B := Lib.hid (B.out.next hE9); (try clear c0 c1); have c0 := B.out.c0; have c1 := B.out.c1; clear hE9))
      go_ret
      exact ⟨rfl, B.out.ext⟩
    · by_cases h9 : 9 < d
      · clear h hm
        go_enter Tryz.func21, Tryz.ntmps21
        go_wp2_with (first | (go_at_call 29; refine (B.out.right hl).mono ?_; rw [hr]; rintro e w9 ⟨rfl, hE9⟩; replace B := Lib.hid (B.out.next hE9); (try clear c0 c1); have c0 := B.out.c0; have c1 := B.out.c1; clear hE9) | (go_at_call 23; refine (B.out.known Hm.out).mono ?_; rintro e w9 ⟨rfl, hE9⟩; replace B := Lib.hid (B.out.next hE9); (try clear c0 c1); have c0 := B.out.c0; have c1 := B.out.c1; clear hE9))
        go_ret
        exact ⟨rfl, B.out.ext⟩
      · have hb : boardB n ls = true := by rw [Bool.and_eq_true] at hr; exact hr.2
        obtain ⟨n, ss, rfl, rfl, g⟩ := board_lift hb
        obtain ⟨d, rfl⟩ : ∃ k : Nat, d = k := ⟨d.toNat, by omega⟩
        rw [upp_length]
        exact law21b g h.rows hl hx1 hx2 (by omega) hr m hm

end Go.Proofs.YtiehfpkcaoeieaaGreatDoor
