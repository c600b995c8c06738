/- The walk of StripOwned, case B. No condition. -/
import Derived.Test.YtiehfpkcaoeieaaGreatDoorMathR
set_option linter.unusedVariables false
set_option linter.unusedSimpArgs false
namespace Go.Proofs.YtiehfpkcaoeieaaGreatDoor
open Go.RowKit Go.My Go.StripM


set_option maxRecDepth 100000 in
set_option maxHeartbeats 8000000 in
theorem law16B {n : Nat} {ss : List (List Nat)} {oa : Option Addr} {cap a b : Nat} {zs : List Int} {ob : Option Addr} {cb : Nat} {w : World} (g : Good n ss) (h : RowsAt w oa (upp ss)) (hz : IntsAt w ob zs) (hzn : zs.length = n) (hzc : n ≤ cb) (hzm : cb ≤ maxLen) (hl : (upp ss).length ≤ 9223372036854775807)
    (ha : a < n) (hb : b < n) (hne : a ≠ b) (hcap : ss.length ≤ cap) (hoa : oa = none → cap = 0) (hr : (shortB (upp ss) && boardB n (upp ss)) = true) (hc : cyc n ss = false) (hSM : sameOf n ss a b = false) (m : Int) (hm : w.cell? ⟨1, 0, none⟩ = some (.int .i64 m)) :
    Calls Tryz.prog 16 #[.agg #[.int .i64 n, .slice oa ss.length cap], .slice ob n cb, .int .i64 a, .int .i64 b] w fun e w' => e = .returned (.bool true) ∧ Ext w w' := by
  have hn := board_small g.isB
  have hss := g.len
  have hn6 := g.le
  have hn1 := g.pos
  have B := Lib.hid (Bx.start (n := n) (cap := cap) h)
  have Hz := Lib.hid (hz.ext ((Ext.refl w).alloc (.cells #[.int .i64 n, .slice oa ss.length cap] 24)))
  have Hzn := Lib.hid hzn
  have hneI : ((a : Int) == (b : Int)) = false := by simpa using (by omega : ¬ (a : Int) = (b : Int))
  have R29 := Lib.hid (fun (W : World) (hW : Bx n ss oa cap w W) => right_any n (upp ss) oa cap W hW.rows hl)
  have hia : ∀ x, x < n → inB (x : Int) 0 ((n : Int) - 1) = true := fun x hx => by simp only [inB, Bool.and_eq_true, decide_eq_true_eq]; omega
  have R35 := Lib.hid (fun (W : World) (v : Value) => rName_any n a v W hn.1 hn.2)
  have R35y := Lib.hid (fun (W : World) (v : Value) => rName_any n b v W hn.1 hn.2)
  simp only [hia a ha] at R35
  simp only [hia b hb] at R35y
  have R59 := Lib.hid (fun (W : World) (hW : Bx n ss oa cap w W) => same_any n ss oa cap a b W hW.rows g ha hb hne)
  have R59y := Lib.hid (fun (W : World) (hW : Bx n ss oa cap w W) => same_any n ss oa cap b a W hW.rows g hb ha (Ne.symm hne))
  rw [same_symm g.valid ha hb hne] at R59y
  have Rk := Lib.hid (fun (W : World) (hW : Bx n ss oa cap w W) => known_any W m (cell_ext hW.ext hm))
  have hmany := fun hh => owners_many (n := n) (ss := ss) (zs := zs) g.valid hzn (pairs_up hh)
  have Hsv := Lib.hid (fun k (hk : k < ss.length) => (g.valid ss[k] (List.getElem_mem hk)).2)
  have hspot := List.all_eq_true.1 (by have := g.isB; simp only [boardB, Bool.and_eq_true] at this; exact this.2)
  have Hs1 := Lib.hid (fun k (hk : k < ss.length) => (by
    have := hspot (up ss[k]) (List.mem_map.2 ⟨_, List.getElem_mem hk, rfl⟩)
    simp only [spotB, Bool.and_eq_true, inB, decide_eq_true_eq, up_length] at this; omega : 1 ≤ ss[k].length ∧ ss[k].length ≤ 5))
  simp only [upp_length, hr] at R29
  have T35 := Lib.hid trivial
  have T59 := Lib.hid trivial
  have hlen : ¬ (8 : Int) < (n : Int) := by omega
  have hlenN : ¬ 8 < n := by omega
  have hc0 : ¬ cnt n ss = 0 := fun e => by rw [cnt_zero g.valid, hc] at e; cases e
  have R60 := Lib.hid (fun (W : World) (hW : Bx n ss oa cap w W) => owners_any n ss oa cap W hW.rows g hc0)
  have R33 := Lib.hid (fun (W : World) (hW : Bx n ss oa cap w W) => before_any n ss oa cap a b W hW.rows g hoa hcap ha hb hne hc0)
  rw [hSM] at R59 R59y
  generalize wordI (cnt n (ss ++ [[a, b]])) (cnt n ss) = V at *
  have hO1 := owners_pos g.le g.pos g.valid hc
  have hO2 := owners_le g.le g.valid hc
  have HEND : Hid ((∀ i, i < ss.length → upTo zs (ss.getD i []) (ss.getD i []).length) → ownersOf n ss ≤ newsTo zs n ∧ ¬ zs.getD a 0 = zs.getD b 0) := Lib.hid (fun hh => ⟨(hmany hh).2.1, fun e => by have := (hmany hh).2.2 a b ha hb hne e; rw [hSM] at this; cases this⟩)
  have Hab := Lib.hid (And.intro ha hb)
  clear h hz hzn hl ha hb hne hcap hoa hr hm g hn hia hmany hspot hc hc0 hSM
  generalize ownersOf n ss = O at *
  have hO3 : ¬ (O : Int) < 1 := by omega
  have hO4 : ¬ (n : Int) < (O : Int) := by omega
  have hO5 : ¬ n < O := by omega
  have hO6 : ¬ O < 1 := by omega
  go_enter Tryz.func16, Tryz.ntmps16
  go_wp2_with (first | (go_at_call 29; refine (R29.out _ B.out).mono ?_; rintro e w9 ⟨rfl, hE9⟩; replace B := Lib.hid (B.out.next hE9); (try clear c0 c1); have c0 := B.out.c0; have c1 := B.out.c1; replace Hz := Lib.hid (Hz.out.ext hE9); clear hE9) | (go_at_call 35; have t0 := T35; clear t0 T35; refine (R35.out _ _).mono ?_; rintro e w9 ⟨rfl, hE9⟩; replace B := Lib.hid (B.out.next hE9); (try clear c0 c1); have c0 := B.out.c0; have c1 := B.out.c1; replace Hz := Lib.hid (Hz.out.ext hE9); clear hE9) | (go_at_call 35; refine (R35y.out _ _).mono ?_; rintro e w9 ⟨rfl, hE9⟩; replace B := Lib.hid (B.out.next hE9); (try clear c0 c1); have c0 := B.out.c0; have c1 := B.out.c1; replace Hz := Lib.hid (Hz.out.ext hE9); clear hE9) | (go_at_call 59; have t0 := T59; clear t0 T59; refine (R59.out _ B.out).mono ?_; rintro e w9 ⟨rfl, hE9⟩; replace B := Lib.hid (B.out.next hE9); (try clear c0 c1); have c0 := B.out.c0; have c1 := B.out.c1; replace Hz := Lib.hid (Hz.out.ext hE9); clear hE9) | (go_at_call 59; refine (R59y.out _ B.out).mono ?_; rintro e w9 ⟨rfl, hE9⟩; replace B := Lib.hid (B.out.next hE9); (try clear c0 c1); have c0 := B.out.c0; have c1 := B.out.c1; replace Hz := Lib.hid (Hz.out.ext hE9); clear hE9) | (go_at_call 60; refine (R60.out _ B.out).mono ?_; rintro e w9 ⟨rfl, hE9⟩; replace B := Lib.hid (B.out.next hE9); (try clear c0 c1); have c0 := B.out.c0; have c1 := B.out.c1; replace Hz := Lib.hid (Hz.out.ext hE9); clear hE9) | (go_at_call 33; refine (R33.out _ B.out).mono ?_; rintro e w9 ⟨rfl, hE9⟩; replace B := Lib.hid (B.out.next hE9); (try clear c0 c1); have c0 := B.out.c0; have c1 := B.out.c1; replace Hz := Lib.hid (Hz.out.ext hE9); obtain ⟨wl, rfl⟩ : ∃ wl : World, wl = w9 := ⟨_, rfl⟩; clear hE9))
  go_loopg [17, 18] ss.length (fun g i z wr => ∃ k : Nat, k + g = ss.length ∧ i = .int .i64 k ∧ Ext wl wr ∧ ∀ i, i < k → upTo zs (ss.getD i []) (ss.getD i []).length)
  case atStart => exact ⟨0, by simp, rfl, Ext.refl _, fun i h => by omega⟩
  case round =>
    obtain ⟨k, hk, rfl, hE, hup⟩ := hrel
    replace B := Lib.hid (B.out.next hE)
    replace Hz := Lib.hid (Hz.out.ext hE)
    have Hup := Lib.hid hup
    have HE := Lib.hid hE
    clear c0 c1 hup hE
    have c0 := B.out.c0
    have c1 := B.out.c1
    by_cases hlt : k < ss.length
    · have hs1 := Hs1.out k hlt
      have hsv := Hsv.out k hlt
      have hgd : ss.getD k [] = ss[k] := by simp [List.getD, hlt]
      obtain ⟨b2, off2, o2, c2, hoa2, hb2, hc2, r1, r2, r3, r4⟩ := rows_up B.out.rows hlt
      subst hoa2
      have Hr4 := Lib.hid r4
      have Hsv2 := Lib.hid hsv
      have Hgd := Lib.hid hgd
      clear r4 hsv hgd
      generalize ss[k] = s at *
      obtain ⟨go, rfl⟩ : ∃ g : Nat, g = gk := ⟨_, rfl⟩
      go_wp2
      obtain ⟨wo, rfl⟩ : ∃ wo : World, wo = wr := ⟨_, rfl⟩
      go_loopg [18] (s.length - 1) (fun g i wr => ∃ j : Nat, 1 ≤ j ∧ j + g = s.length ∧ i = .int .i64 j ∧ Ext wo wr ∧ upTo zs s j)
      case atStart => exact ⟨1, by omega, by omega, rfl, Ext.refl _, fun j h1 h2 => by omega⟩
      case round =>
        obtain ⟨j, hj1, hj, rfl, hE2, hup2⟩ := hrel
        replace B := Lib.hid (B.out.next hE2)
        replace Hz := Lib.hid (Hz.out.ext hE2)
        replace Hr4 := Lib.hid (Hr4.out.ext hE2)
        replace hc2 := cell_ext hE2 hc2
        have Hup2 := Lib.hid hup2
        have HE2 := Lib.hid hE2
        clear c0 c1 hup2 hE2
        have c0 := B.out.c0
        have c1 := B.out.c1
        by_cases hjl : j < s.length
        · obtain ⟨b3, off3, ho3, _, x1⟩ := Hr4.out.at (k := j) (by rw [up_length]; exact hjl)
          obtain ⟨b3', off3', ho3', _, x2⟩ := Hr4.out.at (k := j - 1) (by rw [up_length]; omega)
          subst ho3
          obtain ⟨rfl, rfl⟩ : b3' = b3 ∧ off3' = off3 := by simpa using ho3'.symm
          rw [show (up s)[j]'(by rw [up_length]; exact hjl) = ((s[j] : Nat) : Int) by simp [up]] at x1
          rw [show (up s)[j - 1]'(by rw [up_length]; omega) = ((s[j - 1] : Nat) : Int) by simp [up]] at x2
          have hX := Hsv2.out _ (List.getElem_mem hjl)
          have hY := Hsv2.out _ (List.getElem_mem (show j - 1 < s.length by omega))
          have hXg : s.getD j 0 = s[j] := by simp [List.getD, hjl]
          have hYg : s.getD (j - 1) 0 = s[j - 1] := by simp [List.getD, show j - 1 < s.length by omega]
          have hst : zs.getD s[j - 1] 0 < zs.getD s[j] 0 → upTo zs s (j + 1) := fun h => upTo_succ Hup2.out (by rw [hXg, hYg]; exact h)
          have Hst := Lib.hid hst
          clear hst ho3' hXg hYg
          generalize s[j] = X at *
          generalize s[j - 1] = Y at *
          obtain ⟨b4, off4, ho4, _, x3⟩ := Hz.out.at (k := X) (by rw [Hzn.out]; exact hX)
          obtain ⟨b4', off4', ho4', _, x4⟩ := Hz.out.at (k := Y) (by rw [Hzn.out]; exact hY)
          subst ho4
          obtain ⟨rfl, rfl⟩ : b4' = b4 ∧ off4' = off4 := by simpa using ho4'.symm
          have hzx : zs.getD X 0 = zs[X]'(by rw [Hzn.out]; exact hX) := by simp [List.getD, Hzn.out, hX]
          have hzy : zs.getD Y 0 = zs[Y]'(by rw [Hzn.out]; exact hY) := by simp [List.getD, Hzn.out, hY]
          rw [hzx, hzy] at Hst
          clear ho4' hzx hzy
          generalize zs[X]'(_) = ZX at *
          generalize zs[Y]'(_) = ZY at *
          have e1 : IntKind.i64.wrap ((j : Int) - 1) = ((j - 1 : Nat) : Int) := by rw [IntWalk.i64_in _ (by omega)]; omega
          have e2 : ((j - 1 : Nat) : Int) < (s.length : Int) := by omega
          have e3 : (0 : Int) ≤ ((j - 1 : Nat) : Int) := by omega
          go_wp2_with fail
          refine wp_region_plan (.take 0 <| .take 1 <| .take 2 <| .take 3 <| .take 4 <| .take 5 <| .take 6 <| .take 7 <| .take 8 <| .take 9 <| .take 10 <| .take 11 <| .take 12 <| .take 13 <| .take 14 <| .take 15 <| .take 16 <| .take 17 <| .take 18 <| .take 19 <| .take 20 <| .take 21 <| .take 22 <| .take 23 <| .done) (fun W => Ext wr W) mixed (by kernel_rfl) (by kernel_rfl) rfl (fun _ _ d _ _ h => by cases d <;> exact h) ((Ext.refl wr).drew) ?_
          repeat (first | (refine plan_take (v := ?_) rfl rfl (fun W hW => ?_) ?_; rotate_left; (focus (have d1 := cell_ext hW c1; have d2 := cell_ext hW hc2; have d3 := cell_ext hW x1; have d4 := cell_ext hW x2; have d5 := cell_ext hW x3; have d6 := cell_ext hW x4; go_simp; first | exact rfl | (split <;> first | exact rfl | (exfalso; omega)) | done)); simp only [Act.put, List.setIfInBounds_toArray, List.set_cons_zero, List.set_cons_succ]) | (refine plan_skip rfl rfl ?_; simp only [Act.put, List.setIfInBounds_toArray, List.set_cons_zero, List.set_cons_succ]))
          refine plan_done ?_
          replace B := Lib.hid B.out.drew
          clear c0 c1 e1 e2 e3 x1 x2 x3 x4 hc2
          by_cases hle : ZX ≤ ZY
          · go_wp2_with (first | (go_at_call 23; refine (Rk.out _ B.out).mono ?_; rintro e w9 ⟨rfl, hE9⟩; replace B := Lib.hid (B.out.next hE9); (try clear c0 c1); have c0 := B.out.c0; have c1 := B.out.c1; clear hE9))
            go_ret
            exact ⟨rfl, B.out.ext⟩
          · go_wp2
            go_roundg (gk - 1)
            case measure => omega
            case rel => exact ⟨j + 1, by omega, by omega, by go_num, HE2.out.drew, Hst.out (by omega)⟩
        · obtain rfl : j = s.length := by omega
          go_wp2
          go_roundg (go - 1)
          case measure => omega
          case rel =>
            refine ⟨k + 1, by omega, by go_num, HE.out.trans HE2.out, fun i hi => ?_⟩
            rcases Nat.lt_or_eq_of_le (Nat.le_of_lt_succ hi) with h | rfl
            · exact Hup.out i h
            · rw [Hgd.out]; exact Hup2.out
    · obtain rfl : k = ss.length := by omega
      have hP := HEND.out Hup.out
      have HP := Lib.hid hP
      clear hP
      go_wp2
      obtain ⟨wq, rfl⟩ : ∃ wq : World, wq = wr := ⟨_, rfl⟩
      go_loopg [19, 20] n (fun g v i wr => ∃ k : Nat, k + g = n ∧ i = .int .i64 k ∧ v = .int .i64 (newsTo zs k : Nat) ∧ Ext wq wr)
      case atStart => exact ⟨0, by simp, rfl, rfl, Ext.refl _⟩
      case round =>
        obtain ⟨k, hk, rfl, rfl, hE⟩ := hrel
        replace B := Lib.hid (B.out.next hE)
        replace Hz := Lib.hid (Hz.out.ext hE)
        clear c0 c1
        have c0 := B.out.c0
        have c1 := B.out.c1
        have hnl := newsTo_le zs k
        by_cases hlt : k < n
        · have hlz : k < zs.length := by rw [Hzn.out]; exact hlt
          obtain ⟨bz, off, hob, hbb, hc⟩ := Hz.out.at (k := k) hlz
          subst hob
          have hlk : (zs.take k).length = k := by rw [List.length_take]; omega
          have Hit : Hid (IntsAt wr (some ⟨bz, off, none⟩) (zs.take k)) := Lib.hid (Hz.out.take k)
          have hsu := newsTo_succ zs k
          rw [show zs.getD k 0 = zs[k] by simp [List.getD, hlz]] at hsu
          have R52 := Lib.hid (fun W (hW : Ext wr W) => listed_any (zs.take k) (some ⟨bz, off, none⟩) k cb zs[k] W hlk (Hit.out.ext hW) (by rw [hlk]; omega))
          have hslc : (k : Int) ≤ (cb : Int) := by omega
          obtain ⟨own, hown⟩ : ∃ own : Bool, own = decide (zs[k] ∈ zs.take k) := ⟨_, rfl⟩
          rw [← hown] at R52
          have hst : newsTo zs (k + 1) = newsTo zs k + (if own = true then 0 else 1) := by
            rw [hsu, hown]; by_cases hm : zs[k] ∈ zs.take k <;> simp [hm]
          have Hst := Lib.hid hst
          have HE := Lib.hid hE
          clear hst hown hsu hlk hE
          generalize zs[k] = Z at *
          generalize newsTo zs k = M at *
          go_wp2_with fail
          refine wp_region_plan (.take 0 <| .take 1 <| .take 2 <| .take 3 <| .take 4 <| .take 5 <| .take 6 <| .only 7 <| .take 8 <| .done) (fun W => Ext wr W) mixed (by kernel_rfl) (by kernel_rfl) rfl (fun _ _ d _ _ h => by cases d <;> exact h) ((Ext.refl wr).drew) ?_
          repeat (first | (refine plan_take (v := ?_) rfl rfl (fun W hW => ?_) ?_; rotate_left; (focus (have d0 := cell_ext hW hc; go_simp; first | exact rfl | (split <;> first | exact rfl | (exfalso; omega)) | done)); simp only [Act.put, List.setIfInBounds_toArray, List.set_cons_zero, List.set_cons_succ]) | (refine plan_skip rfl rfl ?_; simp only [Act.put, List.setIfInBounds_toArray, List.set_cons_zero, List.set_cons_succ]))
          refine plan_walk rfl ?_; intro K hK
          go_wp2_with (first | (go_at_call 52; refine (R52.out _ (Ext.refl wr).drew).mono ?_; rintro e w7 ⟨rfl, rfl⟩))
          refine hK _ _ (Ext.refl wr).drew ?_
          repeat (first | (refine plan_take (v := ?_) rfl rfl (fun W hW => ?_) ?_; rotate_left; (focus (skip; go_simp; first | exact rfl | (split <;> first | exact rfl | (exfalso; omega)) | done)); simp only [Act.put, List.setIfInBounds_toArray, List.set_cons_zero, List.set_cons_succ]) | (refine plan_skip rfl rfl ?_; simp only [Act.put, List.setIfInBounds_toArray, List.set_cons_zero, List.set_cons_succ]))
          refine plan_done ?_
          cases own
          · go_wp2
            go_roundg (gk - 1)
            case measure => omega
            case rel => exact ⟨k + 1, by omega, by go_num, by rw [Hst.out]; go_num, HE.out.drew⟩
          · go_wp2
            go_roundg (gk - 1)
            case measure => omega
            case rel => exact ⟨k + 1, by omega, by go_num, by rw [Hst.out]; rfl, HE.out.drew⟩
        · obtain rfl : k = n := by omega
          obtain ⟨b4, off4, ho4, _, x3⟩ := Hz.out.at (k := a) (by rw [Hzn.out]; exact Hab.out.1)
          obtain ⟨b4', off4', ho4', _, x4⟩ := Hz.out.at (k := b) (by rw [Hzn.out]; exact Hab.out.2)
          subst ho4
          obtain ⟨rfl, rfl⟩ : b4' = b4 ∧ off4' = off4 := by simpa using ho4'.symm
          have hzx : zs.getD a 0 = zs[a]'(by rw [Hzn.out]; exact Hab.out.1) := by simp [List.getD, Hzn.out, Hab.out.1]
          have hzy : zs.getD b 0 = zs[b]'(by rw [Hzn.out]; exact Hab.out.2) := by simp [List.getD, Hzn.out, Hab.out.2]
          obtain ⟨hO1, hP2⟩ := HP.out
          (try rw [hzx, hzy] at hP2)
          clear ho4' hzx hzy HP
          generalize zs[a]'(_) = ZA at *
          generalize zs[b]'(_) = ZB at *
          generalize newsTo zs k = M at *
          have hO2 : (O : Int) ≤ (M : Int) := by omega
          have hab1 := Hab.out.1
          have hab2 := Hab.out.2
          have hZ : (ZA != ZB) = true := by simpa using hP2
          clear hP2
          go_wp2_with fail
          refine wp_region_plan (.take 0 <| .take 1 <| .take 2 <| .take 3 <| .take 4 <| .take 5 <| .take 6 <| .take 7 <| .take 8 <| .take 9 <| .take 10 <| .take 11 <| .take 12 <| .take 13 <| .take 14 <| .take 15 <| .take 16 <| .take 17 <| .take 18 <| .take 19 <| .take 20 <| .take 21 <| .only 22 <| .take 23 <| .take 24 <| .done) (fun W => Ext wr W) mixed (by kernel_rfl) (by kernel_rfl) rfl (fun _ _ d _ _ h => by cases d <;> exact h) ((Ext.refl wr).drew) ?_
          repeat (first | (refine plan_take (v := ?_) rfl rfl (fun W hW => ?_) ?_; rotate_left; (focus (have d3 := cell_ext hW x3; have d4 := cell_ext hW x4; go_simp; first | exact rfl | (split <;> first | exact rfl | (exfalso; omega)) | done)); simp only [Act.put, List.setIfInBounds_toArray, List.set_cons_zero, List.set_cons_succ]) | (refine plan_skip rfl rfl ?_; simp only [Act.put, List.setIfInBounds_toArray, List.set_cons_zero, List.set_cons_succ]))
          refine plan_walk rfl ?_; intro K hK
          go_wp2_with (first | (go_at_call 23; refine (Rk.out _ B.out.drew).mono ?_; rintro e w9 ⟨rfl, hE9⟩))
          refine hK _ _ ((Ext.refl wr).drew.trans hE9) ?_
          repeat (first | (refine plan_take (v := ?_) rfl rfl (fun W hW => ?_) ?_; rotate_left; (focus (skip; go_simp; first | exact rfl | (split <;> first | exact rfl | (exfalso; omega)) | done)); simp only [Act.put, List.setIfInBounds_toArray, List.set_cons_zero, List.set_cons_succ]) | (refine plan_skip rfl rfl ?_; simp only [Act.put, List.setIfInBounds_toArray, List.set_cons_zero, List.set_cons_succ]))
          refine plan_done ?_
          go_wp2
          go_ret
          exact ⟨rfl, B.out.ext.drew.trans hE9⟩

end Go.Proofs.YtiehfpkcaoeieaaGreatDoor

