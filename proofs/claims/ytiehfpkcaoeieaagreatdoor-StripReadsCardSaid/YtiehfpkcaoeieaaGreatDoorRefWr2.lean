/- Contracts of the reference: Wrongs, Blame. No condition beyond boards as defined. -/
import Derived.Test.YtiehfpkcaoeieaaGreatDoorRefWr
set_option linter.unusedVariables false
set_option linter.unusedSimpArgs false
namespace Go.Proofs.YtiehfpkcaoeieaaGreatDoor
open Go.RowKit Go.My Go.StripM

theorem canOth_r {n : Nat} {ss : List (List Nat)} (g : Good n ss) (l : List Nat) (o2 : Option Addr) (c2 : Nat) (W : World) (hr : RowsAt W o2 (upp (onlyN ss (othN ss.length l)))) :
    Calls Tryz.prog 36 #[.agg #[.int .i64 n, .slice o2 (othN ss.length l).length c2]] W fun e w' => e = .returned (.bool (!cyc n (onlyN ss (othN ss.length l)))) ∧ Ext W w' := by
  have := can_r n (onlyN ss (othN ss.length l)) o2 c2 W hr g.le (by rw [onlyN_len]; have := othN_len ss.length l; have := g.len; omega) (fun s hs => g.spots5 s (only_mem oth_lt hs)) (fun s hs => g.valid s (only_mem oth_lt hs))
  rw [onlyN_len] at this
  exact this

set_option maxRecDepth 100000 in
set_option maxHeartbeats 4000000 in
theorem wrongs_r (n : Nat) (ss : List (List Nat)) (oa : Option Addr) (cap : Nat) (w : World) (h : RowsAt w oa (upp ss)) (g : Good n ss) :
    Calls Tryz.prog 54 #[.agg #[.int .i64 n, .slice oa ss.length cap]] w fun e w' => (∃ ol cl, e = .returned (.slice ol (wrongsOf n ss).length cl) ∧ RowsAt w' ol (upp (wrongsOf n ss)) ∧ (wrongsOf n ss).length ≤ 46656) ∧ Ext w w' := by
  have hE0 := (Ext.refl w).alloc (.cells #[.int .i64 n, .slice oa ss.length cap] 24)
  have H := Lib.hid h
  have G := Lib.hid g
  have hm := g.len
  clear h g
  go_enter Tryz.func54, Tryz.ntmps54
  go_wp2
  go_loopg [3] (ss.length + 1) (fun g i wr => ∃ d : Nat, d + g = ss.length + 1 ∧ i = .int .i64 d ∧ Ext (w.alloc (.cells #[.int .i64 n, .slice oa ss.length cap] 24)) wr ∧ ∀ d', d' < d → wrF n ss d' = [])
  case atStart => exact ⟨0, by omega, rfl, Ext.refl _, fun d' h => by omega⟩
  case round =>
    obtain ⟨d, hd, rfl, hE, hno⟩ := hrel
    obtain ⟨g0, rfl⟩ : ∃ g0 : Nat, g0 = gk := ⟨_, rfl⟩
    have Hno := Lib.hid hno
    have c0 : wr.cell? ⟨w.heap.size, 0, none⟩ = some (.int .i64 n) := cell_ext hE (by go_simp)
    have c1 : wr.cell? ⟨w.heap.size, 1, none⟩ = some (.slice oa ss.length cap) := cell_ext hE (by go_simp)
    clear hno
    by_cases hdm : d ≤ ss.length
    · have hdI : (d : Int) ≤ (ss.length : Int) := by omega
      have hch := chosen_r ss.length hm d (by omega) w.heap.size d [] 0 none 0 wr rfl (by simp) ((hE0.trans hE).size) (RowE.of_own (B := 0) (Own.nil _ _ _)) (fun x hx => by cases hx)
      have Hch := Lib.hid hch
      have hlb := chs_big ss.length d []
      have hpw : ss.length ^ d ≤ 6 ^ 6 := Nat.le_trans (Nat.pow_le_pow_left hm d) (Nat.pow_le_pow_right (by decide) (by omega))
      have h66 : (6 : Nat) ^ 6 = 46656 := by decide
      have Hmem := Lib.hid (fun l (hl : l ∈ chs ss.length d []) => chs_lists hm hdm hl)
      obtain ⟨L, hL⟩ : ∃ L, L = chs ss.length d [] := ⟨_, rfl⟩
      have hLb : L.length ≤ 46656 := by rw [hL]; omega
      have HL := Lib.hid hL
      rw [← hL] at Hch Hmem
      clear hch hlb hpw h66 hL
      go_wp2_with (first | (go_at_call 98; refine Hch.out.mono ?_; rintro e w3 ⟨v3, rfl, hout, hE3⟩; obtain ⟨o1, p1, rfl, hp1, hp2, hp3, hrow⟩ := hout.at; have Hrow := Lib.hid hrow; clear hout hrow))
      have hB3 : w.heap.size ≤ w3.heap.size := ((hE0.trans hE).trans hE3).size
      go_loopg [5, 6] L.length (fun g v i wr => ∃ k : Nat, k + g = L.length ∧ i = .int .i64 k ∧ Ext w3 wr ∧ OwnR wr w.heap.size w3.heap.size v (wrTo n ss d k))
      case atStart => exact ⟨0, by simp, rfl, Ext.refl _, OwnR.nil _ hB3⟩
      case round =>
        clear c0 c1
        obtain ⟨k, hk, rfl, hE4, hown⟩ := hrel
        have Hown := Lib.hid hown
        have hEr := (hE.trans hE3).trans hE4
        have c0 : wr.cell? ⟨w.heap.size, 0, none⟩ = some (.int .i64 n) := cell_ext hEr (by go_simp)
        have c1 : wr.cell? ⟨w.heap.size, 1, none⟩ = some (.slice oa ss.length cap) := cell_ext hEr (by go_simp)
        have hwl := wrTo_len n ss d k
        clear hown
        by_cases hlt : k < L.length
        · obtain ⟨l, hlk⟩ : ∃ l, L[k]? = some l := ⟨L[k], by simp [hlt]⟩
          obtain ⟨b, off, oc, cc, hoo, hcell, hre⟩ := Hrow.out k l hlk
          subst hoo
          have hcl := cell_ext hE4 hcell
          obtain ⟨hoi, _, hocc, hocm⟩ := rowE_ints hre
          have hl6 := lists_lt hm (Hmem.out l (List.mem_of_getElem? hlk))
          have hol := othN_len ss.length l
          have Hoth := Lib.hid (others_r n ss.length oa cap l oc cc wr.drew (hoi.ext (hE4.trans (Ext.refl wr).drew)) (by omega) (by omega))
          have Hon := Lib.hid (fun o5 c5 W (hX : Ext wr W) (hi : IntsAt W o5 (up (othN ss.length l))) => only_r n ss oa cap (othN ss.length l) o5 c5 W (H.out.ext ((hE0.trans hEr).trans hX)) hi (by omega) (by omega) oth_lt)
          have Hcan := Lib.hid (fun o2 c2 W (hr : RowsAt W o2 (upp (onlyN ss (othN ss.length l)))) => canOth_r G.out l o2 c2 W hr)
          have Hst := Lib.hid (wrTo_succ (n := n) (ss := ss) (d := d) (k := k) (l := l) (by rw [← HL.out]; exact hlk))
          have Hre := Lib.hid (hre.ext hE4)
          have hl6b := hl6.2
          clear hcell hre hoi hlk hl6 hol
          cases hcy : cyc n (onlyN ss (othN ss.length l))
          · simp only [hcy] at Hcan
            rw [hcy, if_neg (by decide)] at Hst
            clear hcy
            generalize othN ss.length l = OT at *
            go_wp2_with fail
            refine wp_region_plan (.take 0 <| .take 1 <| .take 2 <| .take 3 <| .take 4 <| .take 5 <| .only 6 <| .only 7 <| .only 8 <| .done) (fun W => Ext wr W) mixed (by kernel_rfl) (by kernel_rfl) rfl (fun _ _ d _ _ h => by cases d <;> exact h) ((Ext.refl wr).drew) ?_
            repeat (first | (refine plan_take (v := ?_) rfl rfl (fun W hW => ?_) ?_; rotate_left; (focus (have e0 := cell_ext hW c0; have e1 := cell_ext hW c1; have e2 := cell_ext hW hcl; go_simp; first | exact rfl | (split <;> first | exact rfl | (exfalso; omega)) | done)); simp only [Act.put, List.setIfInBounds_toArray, List.set_cons_zero, List.set_cons_succ]) | (refine plan_skip rfl rfl ?_; simp only [Act.put, List.setIfInBounds_toArray, List.set_cons_zero, List.set_cons_succ]))
            refine plan_walk rfl ?_; intro K hK
            go_wp2_with (first | (go_at_call 58; refine Hoth.out.mono ?_; rintro e w5 ⟨v5, rfl, hi5, hE5⟩; obtain ⟨o5, c5, rfl, hc51, hc52, _, hi5⟩ := isInts_up hi5))
            refine hK _ _ ((Ext.refl wr).drew.trans hE5) ?_
            refine plan_walk rfl ?_; intro K hK
            go_wp2_with (first | (go_at_call 51; refine (Hon.out o5 c5 _ ((Ext.refl wr).drew.trans hE5) hi5).mono ?_; rintro e w6 ⟨o6, c6, rfl, _, _, _, hr6, hE6⟩))
            refine hK _ _ (((Ext.refl wr).drew.trans hE5).trans hE6) ?_
            refine plan_walk rfl ?_; intro K hK
            go_wp2_with (first | (go_at_call 36; refine (Hcan.out o6 c6 _ hr6).mono ?_; rintro e w7 ⟨rfl, hE7⟩))
            have hX := (((Ext.refl wr).drew.trans hE5).trans hE6).trans hE7
            refine hK _ _ hX ?_
            refine plan_done ?_
            have f2 := cell_ext hX hcl
            go_wp2_with (first | (at_builtin; refine wpList_appR _ rfl _ _ rfl w.heap.size w3.heap.size _ (wrTo n ss d k) rfl (Hown.out.ext (hX.alloc _)) _ (.slice oc l.length cc) l rfl (by go_simp) (Hre.out.ext (hX.alloc _)) ?_ ?_ ?_))
            · omega
            · have := hE4.size; have := hX.size; simp; omega
            · intro v8 w8 hown8 hBl
              have Ho8 := Lib.hid hown8; clear hown8
              go_wp2
              go_roundg (gk - 1)
              case measure => omega
              case rel => exact ⟨k + 1, by omega, by go_num, (hE4.trans (hX.alloc _)).below hBl (Nat.le_refl _), by rw [Hst.out]; exact Ho8.out⟩
          · simp only [hcy] at Hcan
            rw [hcy, if_pos rfl, List.append_nil] at Hst
            clear hcy
            generalize othN ss.length l = OT at *
            go_wp2_with fail
            refine wp_region_plan (.take 0 <| .take 1 <| .take 2 <| .take 3 <| .take 4 <| .take 5 <| .only 6 <| .only 7 <| .only 8 <| .done) (fun W => Ext wr W) mixed (by kernel_rfl) (by kernel_rfl) rfl (fun _ _ d _ _ h => by cases d <;> exact h) ((Ext.refl wr).drew) ?_
            repeat (first | (refine plan_take (v := ?_) rfl rfl (fun W hW => ?_) ?_; rotate_left; (focus (have e0 := cell_ext hW c0; have e1 := cell_ext hW c1; have e2 := cell_ext hW hcl; go_simp; first | exact rfl | (split <;> first | exact rfl | (exfalso; omega)) | done)); simp only [Act.put, List.setIfInBounds_toArray, List.set_cons_zero, List.set_cons_succ]) | (refine plan_skip rfl rfl ?_; simp only [Act.put, List.setIfInBounds_toArray, List.set_cons_zero, List.set_cons_succ]))
            refine plan_walk rfl ?_; intro K hK
            go_wp2_with (first | (go_at_call 58; refine Hoth.out.mono ?_; rintro e w5 ⟨v5, rfl, hi5, hE5⟩; obtain ⟨o5, c5, rfl, hc51, hc52, _, hi5⟩ := isInts_up hi5))
            refine hK _ _ ((Ext.refl wr).drew.trans hE5) ?_
            refine plan_walk rfl ?_; intro K hK
            go_wp2_with (first | (go_at_call 51; refine (Hon.out o5 c5 _ ((Ext.refl wr).drew.trans hE5) hi5).mono ?_; rintro e w6 ⟨o6, c6, rfl, _, _, _, hr6, hE6⟩))
            refine hK _ _ (((Ext.refl wr).drew.trans hE5).trans hE6) ?_
            refine plan_walk rfl ?_; intro K hK
            go_wp2_with (first | (go_at_call 36; refine (Hcan.out o6 c6 _ hr6).mono ?_; rintro e w7 ⟨rfl, hE7⟩))
            have hX := (((Ext.refl wr).drew.trans hE5).trans hE6).trans hE7
            refine hK _ _ hX ?_
            refine plan_done ?_
            go_wp2
            go_roundg (gk - 1)
            case measure => omega
            case rel => exact ⟨k + 1, by omega, by go_num, hE4.trans hX, by rw [Hst.out]; exact Hown.out.ext hX⟩
        · have hall : wrTo n ss d k = wrF n ss d := wrTo_all (by rw [← HL.out]; omega)
          obtain ⟨ov, cv, hv, q1, q2, q3, q4⟩ := Hown.out.slice
          obtain ⟨X, hX⟩ : ∃ X, X = wrTo n ss d k := ⟨_, rfl⟩
          rw [← hX] at hv q1 q4 hall hwl
          subst hv
          have Q4 := Lib.hid q4
          have HX := Lib.hid hX
          clear q4 q3 hX
          by_cases hx0 : X = []
          · have hx0l : X.length = 0 := by rw [hx0]; rfl
            have Hn0 : Hid (wrF n ss d = []) := Lib.hid (by rw [← hall]; exact hx0)
            have hx0i : ¬ (0 : Int) < (X.length : Int) := by omega
            have hx0n : ¬ 0 < X.length := by omega
            clear hall hx0 hx0l
            go_wp2
            go_roundg (g0 - 1)
            case measure => omega
            case rel => exact ⟨d + 1, by omega, by go_num, hEr, fun d' hd' => by
              by_cases e : d' = d
              · subst e; exact Hn0.out
              · exact Hno.out d' (by omega)⟩
          · have hpos : 0 < X.length := List.length_pos_iff.2 hx0
            have hposI : (0 : Int) < (X.length : Int) := by omega
            have hw : wrongsOf n ss = X := by rw [wrongs_at hm Hno.out (by rw [← hall]; exact hx0) hdm, hall]
            have Hw := Lib.hid hw
            have hXb : X.length ≤ 46656 := by omega
            clear hall hx0 hw
            go_wp2
            go_ret
            exact ⟨⟨ov, cv, by rw [Hw.out]; rfl, by rw [Hw.out]; exact Q4.out, by rw [Hw.out]; exact hXb⟩, hE0.trans hEr⟩
    · exact absurd (Hno.out ss.length (by omega)) (wrF_full hm)

set_option maxRecDepth 100000 in
set_option maxHeartbeats 4000000 in
theorem blame_r (n : Nat) (ss : List (List Nat)) (oa : Option Addr) (cap : Nat) (w : World) (h : RowsAt w oa (upp ss)) (g : Good n ss) :
    Calls Tryz.prog 56 #[.agg #[.int .i64 n, .slice oa ss.length cap]] w fun e w' => (∃ v, e = .returned v ∧ IsInts w' v (blameTo (wrongsOf n ss) ss.length)) ∧ Ext w w' := by
  have hE0 := (Ext.refl w).alloc (.cells #[.int .i64 n, .slice oa ss.length cap] 24)
  have Hw := Lib.hid (wrongs_r n ss oa cap _ (h.ext hE0) g)
  have hm := g.len
  have Hsm := Lib.hid (fun l (hl : l ∈ wrongsOf n ss) => show l.length ≤ 6 by
    rw [wrongs_least hm] at hl
    have : ∀ (gs : List (List (List Nat))), (∀ x ∈ gs, ∀ l ∈ x, l.length ≤ 6) → ∀ l ∈ least (fun l => !cyc n (onlyN ss (othN ss.length l))) gs, l.length ≤ 6 := by
      intro gs
      induction gs with
      | nil => intro _ l hl; simp [least] at hl
      | cons x gs ih =>
        intro hx l hl
        rw [least] at hl
        split at hl
        · exact ih (fun y hy => hx y (List.mem_cons_of_mem _ hy)) l hl
        · exact hx x List.mem_cons_self l (List.mem_filter.1 hl).1
    refine this _ (fun x hx l hl => ?_) l hl
    obtain ⟨d, hd, rfl⟩ := List.mem_map.1 hx
    exact (lists_lt hm (chs_lists hm (by have := List.mem_range.1 hd; omega) hl)).2)
  clear h g
  obtain ⟨R, hR⟩ : ∃ R, R = wrongsOf n ss := ⟨_, rfl⟩
  rw [← hR] at Hw Hsm ⊢
  clear hR
  go_enter Tryz.func56, Tryz.ntmps56
  go_wp2_with (first | (go_at_call 54; refine Hw.out.mono ?_; rintro e w2 ⟨⟨ol, cl, rfl, hro, hRl⟩, hE2⟩; have Hro := Lib.hid hro; clear hro))
  have hsz2 : w.heap.size ≤ w2.heap.size := (hE0.trans hE2).size
  go_loopg [4, 5] ss.length (fun g v i wr => ∃ k : Nat, k + g = ss.length ∧ i = .int .i64 k ∧ Ext w2 wr ∧ My.Own wr w2.heap.size 38 v ((blameTo R k).map (Value.int .i64)))
  case atStart => exact ⟨0, by simp, rfl, Ext.refl _, Own.nil _ _ _⟩
  case round =>
    obtain ⟨k, hk, rfl, hE, hown⟩ := hrel
    have Hown := Lib.hid hown
    clear hown
    obtain ⟨wo, rfl⟩ : ∃ wo : World, wo = wr := ⟨_, rfl⟩
    obtain ⟨g0, rfl⟩ : ∃ g0 : Nat, g0 = gk := ⟨_, rfl⟩
    have c1 : wo.cell? ⟨w.heap.size, 1, none⟩ = some (.slice oa ss.length cap) := cell_ext (hE2.trans hE) (by go_simp)
    by_cases hlt : k < ss.length
    · go_wp2
      go_loopg [6, 7] R.length (fun g c i wr => ∃ j : Nat, j + g = R.length ∧ i = .int .i64 j ∧ c = .int .i64 (manyTo R k j : Nat) ∧ wr = wo)
      case atStart => exact ⟨0, by simp, rfl, by simp [manyTo], rfl⟩
      case round =>
        obtain ⟨j, hj, rfl, rfl, rfl⟩ := hrel
        by_cases hjl : j < R.length
        · obtain ⟨b, off, ox, cx, hoa, _, hcx, x1, x2, x3, x4⟩ := rows_up (Hro.out.ext hE) hjl
          subst hoa
          have hl6 := Hsm.out _ (List.getElem_mem hjl)
          have hcont := listed_any (up R[j]) ox R[j].length cx k wr (up_length _) x4 (by rw [up_length]; omega)
          rw [mem_up] at hcont
          have hms := manyTo_succ R k j hjl
          have hml := manyTo_le R k j
          by_cases hin : k ∈ R[j]
          · rw [decide_eq_true hin] at hcont
            rw [if_pos hin] at hms
            have Hms := Lib.hid hms
            have Hcont := Lib.hid hcont
            clear hms hcont hin x3 x4
            go_wp2_with (first | (go_at_call 52; refine Hcont.out.mono ?_; rintro e w3 ⟨rfl, rfl⟩))
            go_roundg (gk - 1)
            case measure => omega
            case rel => exact ⟨j + 1, by omega, by go_num, by rw [Hms.out]; go_num, rfl⟩
          · rw [decide_eq_false hin] at hcont
            rw [if_neg hin] at hms
            have Hms := Lib.hid hms
            have Hcont := Lib.hid hcont
            clear hms hcont hin x3 x4
            go_wp2_with (first | (go_at_call 52; refine Hcont.out.mono ?_; rintro e w3 ⟨rfl, rfl⟩))
            go_roundg (gk - 1)
            case measure => omega
            case rel => exact ⟨j + 1, by omega, by go_num, by rw [Hms.out]; rfl, rfl⟩
        · have hjj : j = R.length := by omega
          have hbs : blameTo R (k + 1) = blameTo R k ++ [wordI (manyTo R k j) R.length] := by rw [blameTo_succ, hjj]
          have Hbs := Lib.hid hbs
          have hjl' : ¬ (j : Int) < (R.length : Int) := by omega
          clear hjj hbs hjl
          go_wp2_with (first | (go_at_call 89; refine (rword_any (manyTo R k j) R.length _).mono ?_; rintro e w3 ⟨rfl, rfl⟩) | (at_builtin; refine wpList_app1 _ rfl _ _ 63 rfl 38 Tryz.underlying63 (.int .i64 0) 8 i38 rfl (by decide) w2.heap.size _ _ rfl (Hown.out.ext ((Ext.refl _).alloc _)) _ (.int .i64 (wordI (manyTo R k j) R.length)) rfl (by go_simp) rfl ?_ ?_ ?_))
          · simp [blameTo]; omega
          · have := hE.size; simp; omega
          · intro v' w6 hown6 hBl6 _
            have Ho6 := Lib.hid hown6
            have hE6 : Ext w2 w6 := (hE.alloc _).below hBl6 (Nat.le_refl _)
            clear hown6 hBl6
            go_wp2
            go_roundg (g0 - 1)
            case measure => omega
            case rel => exact ⟨k + 1, by omega, by go_num, hE6, by rw [Hbs.out]; simpa using Ho6.out⟩
    · obtain rfl : k = ss.length := by omega
      go_wp2
      go_ret
      exact ⟨⟨_, rfl, Hown.out.ints⟩, (hE0.trans hE2).trans hE⟩

end Go.Proofs.YtiehfpkcaoeieaaGreatDoor
