/- The walk of StripBlamed: it answers true. No condition. -/
import Derived.Test.YtiehfpkcaoeieaaGreatDoorLCan
set_option linter.unusedVariables false
set_option linter.unusedSimpArgs false
namespace Go.Proofs.YtiehfpkcaoeieaaGreatDoor
open Go.RowKit Go.My Go.StripM


set_option maxRecDepth 100000 in
set_option maxHeartbeats 8000000 in
theorem law14b {n : Nat} {ss : List (List Nat)} {oa : Option Addr} {cap : Nat} {p : List Nat} {ob : Option Addr} {cb : Nat} {w : World} (g : Good n ss) (hp : isOrd n p) (h : RowsAt w oa (upp ss)) (ho : IntsAt w ob (up p)) (hl : (upp ss).length ≤ 9223372036854775807) (hpl : p.length ≤ cb) (hpl2 : p.length ≤ 1000)
    (hcap : ss.length ≤ cap) (hcm : cap ≤ maxLen) (hlen : ¬ (8 : Int) < (p.length : Int)) (hr : (shortB (upp ss) && boardB n (upp ss)) = true) (m : Int) (hm : w.cell? ⟨1, 0, none⟩ = some (.int .i64 m)) :
    Calls Tryz.prog 14 #[.agg #[.int .i64 n, .slice oa ss.length cap], .slice ob p.length cb] w fun e w' => e = .returned (.bool true) ∧ Ext w w' := by
  have hn := board_small g.isB
  have hss := g.len
  have B := Lib.hid (Bx.start (n := n) (cap := cap) h)
  obtain ⟨f, hb⟩ := blamed (n := n) g.len (miss_ris p ss).1 (miss_ris p ss).2 (miss_ok g.valid hp)
  have R29 := Lib.hid (fun (W : World) (hW : Bx n ss oa cap w W) => right_any n (upp ss) oa cap W hW.rows hl)
  have R30 := Lib.hid (fun (W : World) (hW : Bx n ss oa cap w W) (v : Value) => rOrder_any n v (up p) ob cb W hn.1 hn.2 (ho.ext hW.ext) (by rw [up_length]; omega) (by rw [up_length]; exact hpl))
  have Rk := Lib.hid (fun (W : World) (hW : Bx n ss oa cap w W) => known_any W m (cell_ext hW.ext hm))
  have hpos : 0 < (wrongsOf n ss).length := List.length_pos_iff.2 (wrongs_ne g.len)
  have hf : (wrongsOf n ss)[0] = f := by have := hb.f0; rw [List.getElem?_eq_getElem hpos] at this; simpa using this
  have R49 := Lib.hid (fun (W : World) (hW : Bx n ss oa cap w W) => wrong_any n ss oa cap W hW.rows g hcap hcm hpos)
  simp only [hf] at R49
  have R53 := Lib.hid (fun (W : World) (hW : Bx n ss oa cap w W) => blame_any n ss oa cap W hW.rows g hcap hcm)
  have R57 := Lib.hid (fun (W : World) (hW : Bx n ss oa cap w W) => misses_ok n (upp ss) oa cap (up p) ob cb W hW.rows (by rw [upp_length]; omega) (ho.ext hW.ext) (by rw [up_length]; omega) (by rw [up_length]; exact hpl) g.isB (order_of hp))
  simp only [upp_length, up_length, misses_up hp g.valid] at R57
  have hML := missN_len p ss
  have hMl := (miss_ris p ss).2
  have hfl := hb.len
  have hfM := hb.least
  have R48 := Lib.hid (fun W ob cb hi => rising_up (n := (n : Int)) (oa := oa) (cap := cap) hb.ris hb.lt (by omega) (by omega) W ob cb hi)
  have Rf := Lib.hid (fun k W ob cb hi => listed_up f k W ob cb hi (by omega))
  have RM := Lib.hid (fun k W ob cb hi => listed_up (missN p ss) k W ob cb hi (by omega))
  have Roth := Lib.hid (fun ob cb W hi => others_r (n : Int) ss.length oa cap f ob cb W hi (by omega) (by omega))
  have hol := othN_len ss.length f
  have Ron := Lib.hid (fun o5 c5 W (hW : Bx n ss oa cap w W) (hi : IntsAt W o5 (up (othN ss.length f))) => only_r n ss oa cap (othN ss.length f) o5 c5 W hW.rows hi (by omega) (by omega) oth_lt)
  have Rcan := Lib.hid (fun o2 c2 W hr => lcan_only g (l := othN ss.length f) oth_lt (by omega) o2 c2 W hr)
  simp only [hb.can] at Rcan
  have R32 := Lib.hid (fun W (of og : Option Addr) (cf cg : Nat) (h1 : IntsAt W of (up (missN p ss))) (h2 : IntsAt W og (up f)) => tbefore_any (missN p ss) f of og cf cg W h1 h2 (by omega) (by omega))
  have Hmem := Lib.hid (fun i => word_mem hb.mem i)
  have Htie := Lib.hid hb.tie
  have Hw3 := Lib.hid (fun x c => word_in x c)
  have HbM := Lib.hid (fun (h : missN p ss ∈ wrongsOf n ss) i => word_mem h i)
  have hBL : ∀ k, k < ss.length → (blameTo (wrongsOf n ss) ss.length)[k]? = some (wordI (manyTo (wrongsOf n ss) k (wrongsOf n ss).length) (wrongsOf n ss).length) := fun k hk => by simp [blameTo, hk]
  have HBL := Lib.hid hBL
  have hBl : (blameTo (wrongsOf n ss) ss.length).length = ss.length := by simp [blameTo]
  simp only [upp_length, hr] at R29
  simp only [up_length, order_of hp] at R30
  clear h ho hl hm g hcap hcm hpos hf hb hp hr hn hBL hMl hol
  generalize hX : blameTo (wrongsOf n ss) ss.length = BL at *
  clear hX
  generalize missN p ss = M at *
  generalize othN ss.length f = OT at *
  have i1 : ¬ (ss.length : Int) < (f.length : Int) := by omega
  have i2 : ¬ (ss.length : Int) < (M.length : Int) := by omega
  have i3 : ¬ (M.length : Int) < (f.length : Int) := by omega
  have j1 : ¬ ss.length < f.length := by omega
  have j2 : ¬ ss.length < M.length := by omega
  have j3 : ¬ M.length < f.length := by omega
  go_enter Tryz.func14, Tryz.ntmps14
  go_wp2_with (first | (go_at_call 29; refine (R29.out _ B.out).mono ?_; rintro e w9 ⟨rfl, hE9⟩; replace B := Lib.hid (B.out.next hE9); (try clear c0 c1); have c0 := B.out.c0; have c1 := B.out.c1; clear hE9) | (go_at_call 30; refine (R30.out _ B.out _).mono ?_; rintro e w9 ⟨rfl, hE9⟩; replace B := Lib.hid (B.out.next hE9); (try clear c0 c1); have c0 := B.out.c0; have c1 := B.out.c1; clear hE9) | (go_at_call 49; refine (R49.out _ B.out).mono ?_; rintro e w9 ⟨⟨v, rfl, hi⟩, hE9⟩; replace B := Lib.hid (B.out.next hE9); (try clear c0 c1); have c0 := B.out.c0; have c1 := B.out.c1; obtain ⟨of, cf, rfl, hff, hfm, hfn, hi⟩ := isInts_up hi; have Hf := Lib.hid hi; clear hi hfn; clear hE9) | (go_at_call 53; refine (R53.out _ B.out).mono ?_; rintro e w9 ⟨⟨v, rfl, hi⟩, hE9⟩; replace B := Lib.hid (B.out.next hE9); (try clear c0 c1); have c0 := B.out.c0; have c1 := B.out.c1; replace Hf := Lib.hid (Hf.out.ext hE9); obtain ⟨ox, cx, rfl, hxl, hxm, hxn, hi⟩ := hi; have Hx := Lib.hid hi; clear hi hxn; rw [hBl] at hxl; clear hE9) | (go_at_call 57; refine (R57.out _ B.out).mono ?_; rintro e w9 ⟨v, rfl, hi, hE9⟩; replace B := Lib.hid (B.out.next hE9); (try clear c0 c1); have c0 := B.out.c0; have c1 := B.out.c1; replace Hf := Lib.hid (Hf.out.ext hE9); replace Hx := Lib.hid (Hx.out.ext hE9); obtain ⟨oM, cM, rfl, hMl, hMm, hMn, hi⟩ := isInts_up hi; have HM := Lib.hid hi; clear hi hMn; clear hE9) | (go_at_call 48; refine (R48.out _ of cf Hf.out).mono ?_; rintro e w9 ⟨rfl, hE9⟩; replace B := Lib.hid (B.out.next hE9); (try clear c0 c1); have c0 := B.out.c0; have c1 := B.out.c1; replace Hf := Lib.hid (Hf.out.ext hE9); replace Hx := Lib.hid (Hx.out.ext hE9); replace HM := Lib.hid (HM.out.ext hE9); obtain ⟨wl, rfl⟩ : ∃ wl : World, wl = w9 := ⟨_, rfl⟩; clear hE9))
  go_loopg [11, 12, 13] ss.length (fun g i a b wr => ∃ k : Nat, k + g = ss.length ∧ i = .int .i64 k ∧ Ext wl wr)
  case atStart => exact ⟨0, by simp, rfl, Ext.refl _⟩
  case round =>
    obtain ⟨k, hk, rfl, hE⟩ := hrel
    replace B := Lib.hid (B.out.next hE)
    replace Hf := Lib.hid (Hf.out.ext hE)
    replace HM := Lib.hid (HM.out.ext hE)
    replace Hx := Lib.hid (Hx.out.ext hE)
    clear c0 c1
    have c0 := B.out.c0
    have c1 := B.out.c1
    by_cases hlt : k < ss.length
    · obtain ⟨V, hV⟩ : ∃ V, V = wordI (manyTo (wrongsOf n ss) k (wrongsOf n ss).length) (wrongsOf n ss).length := ⟨_, rfl⟩
      obtain ⟨b, off, hob, hbb, hc⟩ := Hx.out k V (by rw [HBL.out k hlt, hV])
      subst hob
      have hv := Hw3.out (manyTo (wrongsOf n ss) k (wrongsOf n ss).length) (wrongsOf n ss).length
      have hm1 := Hmem.out k
      have hm2 := fun h => HbM.out (Htie.out h).2 k
      rw [← hV] at hv hm1 hm2
      have R1 := Lib.hid (Rf.out k)
      have R2 := Lib.hid (RM.out k)
      have HE := Lib.hid hE
      clear hV hE
      obtain ⟨own, hown⟩ : ∃ own : Bool, own = decide (k ∈ f) := ⟨_, rfl⟩
      obtain ⟨bad, hbad⟩ : ∃ bad : Bool, bad = decide (k ∈ M) := ⟨_, rfl⟩
      rw [← hown] at R1
      rw [← hbad] at R2
      have k1 : own = true → V ≠ 1 := fun h => hm1.1 (of_decide_eq_true (hown.symm.trans h))
      have k2 : own = false → V ≠ 3 := fun h => hm1.2 (of_decide_eq_false (hown.symm.trans h))
      have k3 : M.length = f.length → bad = true → V ≠ 1 := fun e h => (hm2 e).1 (of_decide_eq_true (hbad.symm.trans h))
      have k4 : M.length = f.length → bad = false → V ≠ 3 := fun e h => (hm2 e).2 (of_decide_eq_false (hbad.symm.trans h))
      clear hm1 hm2 hown hbad
      by_cases hq : M.length = f.length
      · have hqI : ((M.length : Int) == (f.length : Int)) = true := by simp [hq]
        have k3' := k3 hq
        have k4' := k4 hq
        clear k3 k4 hq
        rcases (by omega : V = 1 ∨ V = 2 ∨ V = 3) with rfl | rfl | rfl
        · obtain rfl : own = false := by cases own; rfl; exact absurd rfl (k1 rfl)
          obtain rfl : bad = false := by cases bad; rfl; exact absurd rfl (k3' rfl)
          clear k1 k2 k3' k4' hv
          (go_wp2_with (first | (go_at_call 52; refine (R1.out _ of cf Hf.out).mono ?_; clear R1; rintro e w9 ⟨rfl, rfl⟩) | (go_at_call 52; refine (R2.out _ oM cM HM.out).mono ?_; clear R2; rintro e w9 ⟨rfl, rfl⟩)); go_roundg (gk - 1); (case measure => omega); (case rel => exact ⟨k + 1, by omega, by go_num, HE.out⟩))
        · clear k1 k2 k3' k4' hv
          cases own
          · cases bad
            · (go_wp2_with (first | (go_at_call 52; refine (R1.out _ of cf Hf.out).mono ?_; clear R1; rintro e w9 ⟨rfl, rfl⟩) | (go_at_call 52; refine (R2.out _ oM cM HM.out).mono ?_; clear R2; rintro e w9 ⟨rfl, rfl⟩)); go_roundg (gk - 1); (case measure => omega); (case rel => exact ⟨k + 1, by omega, by go_num, HE.out⟩))
            · (go_wp2_with (first | (go_at_call 52; refine (R1.out _ of cf Hf.out).mono ?_; clear R1; rintro e w9 ⟨rfl, rfl⟩) | (go_at_call 52; refine (R2.out _ oM cM HM.out).mono ?_; clear R2; rintro e w9 ⟨rfl, rfl⟩)); go_roundg (gk - 1); (case measure => omega); (case rel => exact ⟨k + 1, by omega, by go_num, HE.out⟩))
          · cases bad
            · (go_wp2_with (first | (go_at_call 52; refine (R1.out _ of cf Hf.out).mono ?_; clear R1; rintro e w9 ⟨rfl, rfl⟩) | (go_at_call 52; refine (R2.out _ oM cM HM.out).mono ?_; clear R2; rintro e w9 ⟨rfl, rfl⟩)); go_roundg (gk - 1); (case measure => omega); (case rel => exact ⟨k + 1, by omega, by go_num, HE.out⟩))
            · (go_wp2_with (first | (go_at_call 52; refine (R1.out _ of cf Hf.out).mono ?_; clear R1; rintro e w9 ⟨rfl, rfl⟩) | (go_at_call 52; refine (R2.out _ oM cM HM.out).mono ?_; clear R2; rintro e w9 ⟨rfl, rfl⟩)); go_roundg (gk - 1); (case measure => omega); (case rel => exact ⟨k + 1, by omega, by go_num, HE.out⟩))
        · obtain rfl : own = true := by cases own; exact absurd rfl (k2 rfl); rfl
          obtain rfl : bad = true := by cases bad; exact absurd rfl (k4' rfl); rfl
          clear k1 k2 k3' k4' hv
          (go_wp2_with (first | (go_at_call 52; refine (R1.out _ of cf Hf.out).mono ?_; clear R1; rintro e w9 ⟨rfl, rfl⟩) | (go_at_call 52; refine (R2.out _ oM cM HM.out).mono ?_; clear R2; rintro e w9 ⟨rfl, rfl⟩)); go_roundg (gk - 1); (case measure => omega); (case rel => exact ⟨k + 1, by omega, by go_num, HE.out⟩))
      · have hqI : ((M.length : Int) == (f.length : Int)) = false := by simp; omega
        clear k3 k4
        rcases (by omega : V = 1 ∨ V = 2 ∨ V = 3) with rfl | rfl | rfl
        · obtain rfl : own = false := by cases own; rfl; exact absurd rfl (k1 rfl)
          clear k1 k2 hv
          (go_wp2_with (first | (go_at_call 52; refine (R1.out _ of cf Hf.out).mono ?_; clear R1; rintro e w9 ⟨rfl, rfl⟩) | (go_at_call 52; refine (R2.out _ oM cM HM.out).mono ?_; clear R2; rintro e w9 ⟨rfl, rfl⟩)); go_roundg (gk - 1); (case measure => omega); (case rel => exact ⟨k + 1, by omega, by go_num, HE.out⟩))
        · clear k1 k2 hv
          cases own
          · (go_wp2_with (first | (go_at_call 52; refine (R1.out _ of cf Hf.out).mono ?_; clear R1; rintro e w9 ⟨rfl, rfl⟩) | (go_at_call 52; refine (R2.out _ oM cM HM.out).mono ?_; clear R2; rintro e w9 ⟨rfl, rfl⟩)); go_roundg (gk - 1); (case measure => omega); (case rel => exact ⟨k + 1, by omega, by go_num, HE.out⟩))
          · (go_wp2_with (first | (go_at_call 52; refine (R1.out _ of cf Hf.out).mono ?_; clear R1; rintro e w9 ⟨rfl, rfl⟩) | (go_at_call 52; refine (R2.out _ oM cM HM.out).mono ?_; clear R2; rintro e w9 ⟨rfl, rfl⟩)); go_roundg (gk - 1); (case measure => omega); (case rel => exact ⟨k + 1, by omega, by go_num, HE.out⟩))
        · obtain rfl : own = true := by cases own; exact absurd rfl (k2 rfl); rfl
          clear k1 k2 hv
          (go_wp2_with (first | (go_at_call 52; refine (R1.out _ of cf Hf.out).mono ?_; clear R1; rintro e w9 ⟨rfl, rfl⟩) | (go_at_call 52; refine (R2.out _ oM cM HM.out).mono ?_; clear R2; rintro e w9 ⟨rfl, rfl⟩)); go_roundg (gk - 1); (case measure => omega); (case rel => exact ⟨k + 1, by omega, by go_num, HE.out⟩))
    · by_cases hq : (f.length : Int) < (M.length : Int)
      · have hqn : f.length < M.length := by omega
        clear Hx hE
        go_wp2_with fail
        refine wp_region_plan (.take 0 <| .take 1 <| .take 2 <| .only 3 <| .only 4 <| .only 5 <| .take 6 <| .take 7 <| .take 8 <| .take 9 <| .take 10 <| .done) (fun W => Ext wr W) mixed (by kernel_rfl) (by kernel_rfl) rfl (fun _ _ d _ _ h => by cases d <;> exact h) ((Ext.refl wr).drew) ?_
        repeat (first | (refine plan_take (v := ?_) rfl rfl (fun W hW => ?_) ?_; rotate_left; (focus (have e0 := cell_ext hW c0; have e1 := cell_ext hW c1; go_simp; first | exact rfl | (split <;> first | exact rfl | (exfalso; omega)) | done)); simp only [Act.put, List.setIfInBounds_toArray, List.set_cons_zero, List.set_cons_succ]) | (refine plan_skip rfl rfl ?_; simp only [Act.put, List.setIfInBounds_toArray, List.set_cons_zero, List.set_cons_succ]))
        refine plan_walk rfl ?_; intro K hK
        go_wp2_with (first | (go_at_call 58; refine (Roth.out of cf _ (Hf.out.ext (Ext.refl wr).drew)).mono ?_; rintro e w5 ⟨v5, rfl, hi5, hE5⟩; obtain ⟨o5, c5, rfl, hc51, hc52, _, hi5⟩ := isInts_up hi5))
        refine hK _ _ ((Ext.refl wr).drew.trans hE5) ?_
        refine plan_walk rfl ?_; intro K hK
        go_wp2_with (first | (go_at_call 51; refine (Ron.out o5 c5 _ (B.out.next ((Ext.refl wr).drew.trans hE5)) hi5).mono ?_; rintro e w6 ⟨o6, c6, rfl, _, _, _, hr6, hE6⟩))
        refine hK _ _ (((Ext.refl wr).drew.trans hE5).trans hE6) ?_
        refine plan_walk rfl ?_; intro K hK
        go_wp2_with (first | (go_at_call 50; refine (Rcan.out o6 c6 _ hr6).mono ?_; rintro e w7 ⟨rfl, hE7⟩))
        have hX := (((Ext.refl wr).drew.trans hE5).trans hE6).trans hE7
        refine hK _ _ hX ?_
        repeat (first | (refine plan_take (v := ?_) rfl rfl (fun W hW => ?_) ?_; rotate_left; (focus (skip; go_simp; first | exact rfl | (split <;> first | exact rfl | (exfalso; omega)) | done)); simp only [Act.put, List.setIfInBounds_toArray, List.set_cons_zero, List.set_cons_succ]) | (refine plan_skip rfl rfl ?_; simp only [Act.put, List.setIfInBounds_toArray, List.set_cons_zero, List.set_cons_succ]))
        refine plan_done ?_
        replace B := Lib.hid (B.out.next hX)
        replace Hf := Lib.hid (Hf.out.ext hX)
        replace HM := Lib.hid (HM.out.ext hX)
        clear c0 c1 hX hE5 hE6 hE7 hi5 hr6
        go_wp2_with (first | (go_at_call 23; refine (Rk.out _ B.out).mono ?_; rintro e w9 ⟨rfl, hE9⟩; replace B := Lib.hid (B.out.next hE9); (try clear c0 c1); have c0 := B.out.c0; have c1 := B.out.c1; clear hE9))
        go_ret
        exact ⟨rfl, B.out.ext⟩
      · have hqn : ¬ f.length < M.length := by omega
        have Hlex := Lib.hid (Htie.out (by omega)).1
        have R32b := Lib.hid (fun W of og cf cg h1 h2 => R32.out W of og cf cg h1 h2)
        rw [Hlex.out] at R32b
        clear Hx hE
        go_wp2_with fail
        refine wp_region_plan (.take 0 <| .take 1 <| .take 2 <| .only 3 <| .only 4 <| .only 5 <| .take 6 <| .take 7 <| .take 8 <| .take 9 <| .take 10 <| .done) (fun W => Ext wr W) mixed (by kernel_rfl) (by kernel_rfl) rfl (fun _ _ d _ _ h => by cases d <;> exact h) ((Ext.refl wr).drew) ?_
        repeat (first | (refine plan_take (v := ?_) rfl rfl (fun W hW => ?_) ?_; rotate_left; (focus (have e0 := cell_ext hW c0; have e1 := cell_ext hW c1; go_simp; first | exact rfl | (split <;> first | exact rfl | (exfalso; omega)) | done)); simp only [Act.put, List.setIfInBounds_toArray, List.set_cons_zero, List.set_cons_succ]) | (refine plan_skip rfl rfl ?_; simp only [Act.put, List.setIfInBounds_toArray, List.set_cons_zero, List.set_cons_succ]))
        refine plan_walk rfl ?_; intro K hK
        go_wp2_with (first | (go_at_call 58; refine (Roth.out of cf _ (Hf.out.ext (Ext.refl wr).drew)).mono ?_; rintro e w5 ⟨v5, rfl, hi5, hE5⟩; obtain ⟨o5, c5, rfl, hc51, hc52, _, hi5⟩ := isInts_up hi5))
        refine hK _ _ ((Ext.refl wr).drew.trans hE5) ?_
        refine plan_walk rfl ?_; intro K hK
        go_wp2_with (first | (go_at_call 51; refine (Ron.out o5 c5 _ (B.out.next ((Ext.refl wr).drew.trans hE5)) hi5).mono ?_; rintro e w6 ⟨o6, c6, rfl, _, _, _, hr6, hE6⟩))
        refine hK _ _ (((Ext.refl wr).drew.trans hE5).trans hE6) ?_
        refine plan_walk rfl ?_; intro K hK
        go_wp2_with (first | (go_at_call 50; refine (Rcan.out o6 c6 _ hr6).mono ?_; rintro e w7 ⟨rfl, hE7⟩))
        have hX := (((Ext.refl wr).drew.trans hE5).trans hE6).trans hE7
        refine hK _ _ hX ?_
        repeat (first | (refine plan_take (v := ?_) rfl rfl (fun W hW => ?_) ?_; rotate_left; (focus (skip; go_simp; first | exact rfl | (split <;> first | exact rfl | (exfalso; omega)) | done)); simp only [Act.put, List.setIfInBounds_toArray, List.set_cons_zero, List.set_cons_succ]) | (refine plan_skip rfl rfl ?_; simp only [Act.put, List.setIfInBounds_toArray, List.set_cons_zero, List.set_cons_succ]))
        refine plan_done ?_
        replace B := Lib.hid (B.out.next hX)
        replace Hf := Lib.hid (Hf.out.ext hX)
        replace HM := Lib.hid (HM.out.ext hX)
        clear c0 c1 hX hE5 hE6 hE7 hi5 hr6
        go_wp2_with (first | (go_at_call 32; refine (R32b.out _ oM of cM cf HM.out Hf.out).mono ?_; rintro e w9 ⟨rfl, hE9⟩; replace B := Lib.hid (B.out.next hE9); (try clear c0 c1); have c0 := B.out.c0; have c1 := B.out.c1; clear hE9) | (go_at_call 23; refine (Rk.out _ B.out).mono ?_; rintro e w9 ⟨rfl, hE9⟩; replace B := Lib.hid (B.out.next hE9); (try clear c0 c1); have c0 := B.out.c0; have c1 := B.out.c1; clear hE9))
        go_ret
        exact ⟨rfl, B.out.ext⟩

set_option maxRecDepth 100000 in
set_option maxHeartbeats 4000000 in
theorem law14 {n : Int} {ls : List (List Int)} {oa : Option Addr} {cap : Nat} {o : List Int} {ob : Option Addr} {cb : Nat} {w : World} (h : BArg w ls oa cap) (ho : LArg w o ob cb) (m : Int) (hm : w.cell? ⟨1, 0, none⟩ = some (.int .i64 m)) :
    Calls Tryz.prog 14 #[.agg #[.int .i64 n, .slice oa ls.length cap], .slice ob o.length cb] w fun e w' => e = .returned (.bool true) ∧ Ext w w' := by
  have hl := h.small
  have hlo := ho.small
  have hcb := ho.le
  have Hm := Lib.hid hm
  have Ho := Lib.hid ho.ints
  have Hr := Lib.hid h.rows
  cases hr : shortB ls && boardB n ls
  · have B := Lib.hid (BxI.start (n := n) (cap := cap) h.rows)
    clear h ho hm hlo hcb
    go_enter Tryz.func14, Tryz.ntmps14
    go_wp2_with (first | (go_at_call 29; refine (B.out.right hl).mono ?_; rw [hr]; rintro e w9 ⟨rfl, hE9⟩; replace B := Lib.hid (B.out.next hE9); (try clear c0 c1); have c0 := B.out.c0; have c1 := B.out.c1; clear hE9) | (go_at_call 23; refine (B.out.known Hm.out).mono ?_; rintro e w9 ⟨rfl, hE9⟩; replace B := Lib.hid (B.out.next hE9); (try clear c0 c1); have c0 := B.out.c0; have c1 := B.out.c1; clear hE9))
    go_ret
    exact ⟨rfl, B.out.ext⟩
  · by_cases hlen : (8 : Int) < (o.length : Int)
    · have B := Lib.hid (BxI.start (n := n) (cap := cap) h.rows)
      clear h ho hm hlo hcb
      go_enter Tryz.func14, Tryz.ntmps14
      go_wp2_with (first | (go_at_call 29; refine (B.out.right hl).mono ?_; rw [hr]; rintro e w9 ⟨rfl, hE9⟩; replace B := Lib.hid (B.out.next hE9); (try clear c0 c1); have c0 := B.out.c0; have c1 := B.out.c1; clear hE9) | (go_at_call 23; refine (B.out.known Hm.out).mono ?_; rintro e w9 ⟨rfl, hE9⟩; replace B := Lib.hid (B.out.next hE9); (try clear c0 c1); have c0 := B.out.c0; have c1 := B.out.c1; clear hE9))
      go_ret
      exact ⟨rfl, B.out.ext⟩
    · have hb : boardB n ls = true := by rw [Bool.and_eq_true] at hr; exact hr.2
      cases hob : orderB n o
      · have B := Lib.hid (BxI.start (n := n) (cap := cap) h.rows)
        have hn := board_small hb
        clear h ho hm
        go_enter Tryz.func14, Tryz.ntmps14
        go_wp2_with (first | (go_at_call 29; refine (B.out.right hl).mono ?_; rw [hr]; rintro e w9 ⟨rfl, hE9⟩; replace B := Lib.hid (B.out.next hE9); (try clear c0 c1); have c0 := B.out.c0; have c1 := B.out.c1; clear hE9) | (go_at_call 30; refine (rOrder_any n (.slice oa ls.length cap) o ob cb _ hn.1 hn.2 (Ho.out.ext B.out.ext) hlo hcb).mono ?_; rw [hob]; rintro e w9 ⟨rfl, hE9⟩; replace B := Lib.hid (B.out.next hE9); (try clear c0 c1); have c0 := B.out.c0; have c1 := B.out.c1; clear hE9) | (go_at_call 23; refine (B.out.known Hm.out).mono ?_; rintro e w9 ⟨rfl, hE9⟩; replace B := Lib.hid (B.out.next hE9); (try clear c0 c1); have c0 := B.out.c0; have c1 := B.out.c1; clear hE9))
        go_ret
        exact ⟨rfl, B.out.ext⟩
      · obtain ⟨n, ss, rfl, rfl, g⟩ := board_lift hb
        obtain ⟨p, rfl, hp⟩ := order_lift hob
        have hcap := h.le
        have hcm := h.max
        rw [upp_length] at hcap
        clear h ho hm hb
        rw [upp_length, up_length]
        have hpl : p.length ≤ cb := by rw [up_length] at hcb; exact hcb
        have hpl2 : p.length ≤ 1000 := by rw [hp.1]; have := g.le; omega
        rw [up_length] at hlen
        exact law14b g hp Hr.out Ho.out hl hpl hpl2 hcap hcm hlen hr m Hm.out

end Go.Proofs.YtiehfpkcaoeieaaGreatDoor
