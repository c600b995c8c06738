/- Contract of the reference: number. No condition beyond short words. -/
import Derived.Test.YtiehfpkcaoeieaaGreatDoorRNum
set_option linter.unusedVariables false
set_option linter.unusedSimpArgs false
namespace Go.Proofs.YtiehfpkcaoeieaaGreatDoor
open Go.RowKit Go.My Go.StripM

theorem num_none {l : List UInt8} (h : ¬ (l ≠ [] ∧ l.length ≤ 2 ∧ l.all isDig = true)) : parseNum l = none := if_neg fun k => h k.1
theorem num_minus (s : List UInt8) : parseNum (45 :: s) = none := num_none fun h => by
  have := h.2.2; simp [isDig] at this
theorem numR_no {l : List UInt8} (h : parseNum l = none) : NumR l 0 false := ⟨by decide, by decide, by rw [h]; rfl⟩
theorem numR_less {l : List UInt8} {n : Nat} {is : Bool} (h : parseNum l = none) (h1 : 0 < n) (h2 : n < 100) : NumR l (-(n : Int)) is := ⟨by omega, by omega, by rw [h, if_neg (by omega)]⟩
theorem numR_yes {l : List UInt8} (h : l ≠ [] ∧ l.length ≤ 2 ∧ l.all isDig = true) (is : Bool) (hd : is = decide (digs (valOf l) = l)) : NumR l (valOf l : Nat) is := by
  have hv := val2 h.2.1 h.2.2
  refine ⟨by omega, by omega, ?_⟩
  rw [parseNum]
  subst hd
  by_cases hq : digs (valOf l) = l
  · rw [if_pos ⟨h, hq⟩, if_pos (by simp [hq])]; simp
  · rw [if_neg (fun k => hq k.2), if_neg (by simp [hq])]

/-- What number hands back. -/
def NumPostR (l : List UInt8) (e : Ending) : Prop := ∃ (v : Int) (is : Bool), e = .returned (.tuple #[.int .i64 v, .bool is]) ∧ NumR l v is

set_option maxRecDepth 100000 in
set_option maxHeartbeats 4000000 in
theorem number_plain (s : List UInt8) (w : World) (hl : s.length ≤ 100000) (hm : s.head? ≠ some 45) : Calls Tryz.prog 134 #[.string (bs s), .int .i64 2] w fun e w' => NumPostR s e ∧ Ext w w' := by
  have hsz := bs_size s
  by_cases h1 : s.length < 1
  · obtain rfl : s = [] := List.eq_nil_of_length_eq_zero (by omega)
    go_enter Tryz.func134, Tryz.ntmps134
    go_wp2
    go_ret2
    exact ⟨⟨0, false, rfl, numR_no (num_none fun h => h.1 rfl)⟩, Ext.refl _⟩
  · have hne : s ≠ [] := fun e => h1 (by rw [e]; decide)
    have h0s : 0 < (bs s).size := by omega
    have hx0 : (bs s)[0]'h0s = s[0] := rfl
    have hx1 : ¬ s[0] = 45 := fun e => hm (by rw [List.head?_eq_getElem?, List.getElem?_eq_getElem (by omega), e])
    have hx2 : ¬ ((s[0].toNat : Int) = 45) := fun e => hx1 (UInt8.toNat.inj (by show s[0].toNat = 45; omega))
    have hx3 : ((s[0].toNat : Int) == 45) = false := by simpa using hx2
    have hx4 : ¬ s[0].toNat = 45 := by omega
    have hi1 : (0 : Int) < (s.length : Int) := by omega
    clear hm hx1
    by_cases hs2 : s.length ≤ 2
    · have hs3 : ¬ (2 : Int) < (s.length : Int) := by omega
      have Hno := Lib.hid (fun (h : s.all isDig = false) => num_none (l := s) fun k => by rw [h] at k; cases k.2.2)
      have HW := Lib.hid (Ext.refl w)
      obtain ⟨wl, hwl⟩ : ∃ wl, wl = w := ⟨_, rfl⟩
      go_enter Tryz.func134, Tryz.ntmps134
      go_wp2
      subst hwl
      go_loopg [8, 9] s.length (fun g v i wr => ∃ k : Nat, k + g = s.length ∧ wr = wl ∧ i = .int .i64 k ∧ v = .int .i64 (valOf (s.take k) : Nat) ∧ (s.take k).all isDig = true)
      case atStart => exact ⟨0, by simp, rfl, rfl, by simp [valOf], by simp⟩
      case round =>
        obtain ⟨k, hk, rfl, rfl, rfl, hall⟩ := hrel
        by_cases hlt : k < s.length
        · have hks : k < (bs s).size := by rw [hsz]; exact hlt
          have hidx : (bs s)[k]'hks = s[k] := rfl
          have hki : (k : Int) < (s.length : Int) := by omega
          have hvk : valOf (s.take (k + 1)) = 10 * valOf (s.take k) + (s[k].toNat - 48) := by rw [List.take_succ_eq_append_getElem hlt, valOf_snoc]
          have hak : (s.take (k + 1)).all isDig = ((s.take k).all isDig && isDig s[k]) := by rw [List.take_succ_eq_append_getElem hlt, List.all_append]; simp
          have hbad : isDig s[k] = false → s.all isDig = false := fun h => by
            cases ha : s.all isDig
            · rfl
            · have := List.all_eq_true.1 ha _ (List.getElem_mem hlt); rw [h] at this; cases this
          have hv := val1 (l := s.take k) (by rw [List.length_take]; omega) hall
          have Hvk := Lib.hid hvk
          have Hak := Lib.hid hak
          have Hall := Lib.hid hall
          have Hbad := Lib.hid hbad
          clear hvk hak hall hbad
          generalize hB : s[k] = b at *
          clear hB
          generalize hV : valOf (s.take k) = V at *
          clear hV
          by_cases c1 : 48 ≤ b.toNat
          · have c1' : ¬ (b.toNat : Int) < 48 := by omega
            by_cases c2 : b.toNat ≤ 57
            · have c2' : ¬ (57 : Int) < (b.toNat : Int) := by omega
              have q1 : IntKind.u8.wrap ((b.toNat : Int) - 48) = (b.toNat : Int) - 48 := by rw [IntWalk.u8_in _ (by omega)]
              have q2 : IntKind.i64.wrap ((b.toNat : Int) - 48) = (b.toNat : Int) - 48 := by rw [IntWalk.i64_in _ (by omega)]
              have q3 : IntKind.i64.wrap (10 * (V : Int)) = 10 * (V : Int) := by rw [IntWalk.i64_in _ (by omega)]
              have q4 : IntKind.i64.wrap (10 * (V : Int) + ((b.toNat : Int) - 48)) = 10 * (V : Int) + ((b.toNat : Int) - 48) := by rw [IntWalk.i64_in _ (by omega)]
              go_wp2
              go_roundg (gk - 1)
              case measure => omega
              case rel => exact ⟨k + 1, by omega, rfl, by go_num, by rw [Hvk.out]; congr 1; omega, by rw [Hak.out, Hall.out]; simp [isDig, c1, c2]⟩
            · have c2' : (57 : Int) < (b.toNat : Int) := by omega
              have hno := Lib.hid (Hbad.out (by simp [isDig, c2]))
              go_wp2
              go_ret2
              exact ⟨⟨0, false, rfl, numR_no (Hno.out hno.out)⟩, HW.out⟩
          · have c1' : (b.toNat : Int) < 48 := by omega
            have hno := Lib.hid (Hbad.out (by simp [isDig, c1]))
            go_wp2
            go_ret2
            exact ⟨⟨0, false, rfl, numR_no (Hno.out hno.out)⟩, HW.out⟩
        · obtain rfl : k = s.length := by omega
          have hall' : s.all isDig = true := by rwa [List.take_of_length_le (Nat.le_refl _)] at hall
          rw [List.take_of_length_le (Nat.le_refl _)]
          have hv := val2 hs2 hall'
          have Hall := Lib.hid hall'
          clear hall hall'
          have hz1 : IntKind.i64.wrap (1 * ((valOf s : Nat) : Int)) = ((valOf s : Nat) : Int) := by rw [IntWalk.i64_in _ (by omega)]; omega
          have hz2 : IntKind.i64.wrap ((valOf s : Nat) : Int) = ((valOf s : Nat) : Int) := by rw [IntWalk.i64_in _ (by omega)]
          have Hno := Lib.hid (numR_yes (l := s) ⟨hne, hs2, Hall.out⟩)
          have R := Lib.hid (fun W => dec_any (valOf s) hv W)
          clear Hall
          generalize valOf s = V at *
          by_cases hd : digs V = s
          · have hq : (digs V == s) = true := by rw [beq_iff_eq]; exact hd
            have Hd := Lib.hid (Hno.out true (by simp [hd]))
            clear hd
            go_wp2_with (first | (go_at_call 133; refine (R.out _).mono ?_; rintro e w1 ⟨rfl, hE1⟩))
            go_ret2
            exact ⟨⟨V, true, rfl, Hd.out⟩, HW.out.trans hE1⟩
          · have hq : (digs V == s) = false := by rw [beq_eq_false_iff_ne]; exact hd
            have Hd := Lib.hid (Hno.out false (by simp [hd]))
            clear hd
            go_wp2_with (first | (go_at_call 133; refine (R.out _).mono ?_; rintro e w1 ⟨rfl, hE1⟩))
            go_ret2
            exact ⟨⟨V, false, rfl, Hd.out⟩, HW.out.trans hE1⟩
    · have hs3 : (2 : Int) < (s.length : Int) := by omega
      go_enter Tryz.func134, Tryz.ntmps134
      go_wp2
      go_ret2
      exact ⟨⟨0, false, rfl, numR_no (num_none fun h => hs2 h.2.1)⟩, Ext.refl _⟩

set_option maxRecDepth 100000 in
set_option maxHeartbeats 4000000 in
theorem number_minus (s : List UInt8) (w : World) (hl : s.length ≤ 100000) : Calls Tryz.prog 134 #[.string (bs (45 :: s)), .int .i64 2] w fun e w' => NumPostR (45 :: s) e ∧ Ext w w' := by
  have hsz := bs_size s
  have hsl : (bs (45 :: s)).size = s.length + 1 := by rw [bs_size]; rfl
  have h0s : 0 < (bs (45 :: s)).size := by omega
  have hx0 : (bs (45 :: s))[0]'h0s = 45 := rfl
  have hx1 : ((45 : UInt8).toNat : Int) = 45 := rfl
  have hex : (bs (45 :: s)).extract 1 (s.length + 1) = bs s := by
    rw [bs_ext]; congr 1; simp
  have hi1 : (0 : Int) < (s.length : Int) + 1 := by omega
  have hi2 : (1 : Int) ≤ (s.length : Int) + 1 := by omega
  have HW := Lib.hid (Ext.refl w).drew
  go_enter Tryz.func134, Tryz.ntmps134
  go_wp2
  refine wp_region_plan (.take 0 <| .take 1 <| .take 2 <| .take 3 <| .done) (fun W => Ext w W) mixed (by kernel_rfl) (by kernel_rfl) rfl (fun _ _ d _ _ h => by cases d <;> exact h) ((Ext.refl w).drew) ?_
  repeat (first | (refine plan_take (v := ?_) rfl rfl (fun W hW => ?_) ?_; rotate_left; (focus (skip; go_simp; first | exact rfl | (split <;> first | exact rfl | (exfalso; omega)) | done)); simp only [Act.put, List.setIfInBounds_toArray, List.set_cons_zero, List.set_cons_succ]) | (refine plan_skip rfl rfl ?_; simp only [Act.put, List.setIfInBounds_toArray, List.set_cons_zero, List.set_cons_succ]))
  refine plan_done ?_
  obtain ⟨wl, hwl⟩ : ∃ wl, wl = w.drew := ⟨_, rfl⟩
  rw [← hwl] at HW ⊢
  clear hwl
  have Hmin := Lib.hid (num_minus s)
  by_cases h1 : s.length < 1
  · obtain rfl : s = [] := List.eq_nil_of_length_eq_zero (by omega)
    go_wp2
    go_ret2
    exact ⟨⟨0, false, rfl, numR_no Hmin.out⟩, HW.out⟩
  · by_cases hs2 : s.length ≤ 2
    · have hs3 : ¬ (2 : Int) < (s.length : Int) := by omega
      have Hno := Lib.hid (fun (h : s.all isDig = false) => num_minus s)
      go_wp2
      go_loopg [8, 9] s.length (fun g v i wr => ∃ k : Nat, k + g = s.length ∧ wr = wl ∧ i = .int .i64 k ∧ v = .int .i64 (valOf (s.take k) : Nat) ∧ (s.take k).all isDig = true)
      case atStart => exact ⟨0, by simp, rfl, rfl, by simp [valOf], by simp⟩
      case round =>
        obtain ⟨k, hk, rfl, rfl, rfl, hall⟩ := hrel
        by_cases hlt : k < s.length
        · have hks : k < (bs s).size := by rw [hsz]; exact hlt
          have hidx : (bs s)[k]'hks = s[k] := rfl
          have hki : (k : Int) < (s.length : Int) := by omega
          have hvk : valOf (s.take (k + 1)) = 10 * valOf (s.take k) + (s[k].toNat - 48) := by rw [List.take_succ_eq_append_getElem hlt, valOf_snoc]
          have hak : (s.take (k + 1)).all isDig = ((s.take k).all isDig && isDig s[k]) := by rw [List.take_succ_eq_append_getElem hlt, List.all_append]; simp
          have hbad : isDig s[k] = false → s.all isDig = false := fun h => by
            cases ha : s.all isDig
            · rfl
            · have := List.all_eq_true.1 ha _ (List.getElem_mem hlt); rw [h] at this; cases this
          have hv := val1 (l := s.take k) (by rw [List.length_take]; omega) hall
          have Hvk := Lib.hid hvk
          have Hak := Lib.hid hak
          have Hall := Lib.hid hall
          have Hbad := Lib.hid hbad
          clear hvk hak hall hbad
          generalize hB : s[k] = b at *
          clear hB
          generalize hV : valOf (s.take k) = V at *
          clear hV
          by_cases c1 : 48 ≤ b.toNat
          · have c1' : ¬ (b.toNat : Int) < 48 := by omega
            by_cases c2 : b.toNat ≤ 57
            · have c2' : ¬ (57 : Int) < (b.toNat : Int) := by omega
              have q1 : IntKind.u8.wrap ((b.toNat : Int) - 48) = (b.toNat : Int) - 48 := by rw [IntWalk.u8_in _ (by omega)]
              have q2 : IntKind.i64.wrap ((b.toNat : Int) - 48) = (b.toNat : Int) - 48 := by rw [IntWalk.i64_in _ (by omega)]
              have q3 : IntKind.i64.wrap (10 * (V : Int)) = 10 * (V : Int) := by rw [IntWalk.i64_in _ (by omega)]
              have q4 : IntKind.i64.wrap (10 * (V : Int) + ((b.toNat : Int) - 48)) = 10 * (V : Int) + ((b.toNat : Int) - 48) := by rw [IntWalk.i64_in _ (by omega)]
              go_wp2
              go_roundg (gk - 1)
              case measure => omega
              case rel => exact ⟨k + 1, by omega, rfl, by go_num, by rw [Hvk.out]; congr 1; omega, by rw [Hak.out, Hall.out]; simp [isDig, c1, c2]⟩
            · have c2' : (57 : Int) < (b.toNat : Int) := by omega
              have hno := Lib.hid (Hbad.out (by simp [isDig, c2]))
              go_wp2
              go_ret2
              exact ⟨⟨0, false, rfl, numR_no (Hno.out hno.out)⟩, HW.out⟩
          · have c1' : (b.toNat : Int) < 48 := by omega
            have hno := Lib.hid (Hbad.out (by simp [isDig, c1]))
            go_wp2
            go_ret2
            exact ⟨⟨0, false, rfl, numR_no (Hno.out hno.out)⟩, HW.out⟩
        · obtain rfl : k = s.length := by omega
          have hall' : s.all isDig = true := by rwa [List.take_of_length_le (Nat.le_refl _)] at hall
          rw [List.take_of_length_le (Nat.le_refl _)]
          have hv := val2 hs2 hall'
          have Hall := Lib.hid hall'
          clear hall hall'
          have Hm := Lib.hid (num_minus s)
          have hz1 : IntKind.i64.wrap (-1 * ((valOf s : Nat) : Int)) = -((valOf s : Nat) : Int) := by rw [IntWalk.i64_in _ (by omega)]; omega
          have hz2 : IntKind.i64.wrap (-((valOf s : Nat) : Int)) = -((valOf s : Nat) : Int) := by rw [IntWalk.i64_in _ (by omega)]
          clear Hall
          generalize valOf s = V at *
          by_cases h0 : V = 0
          · subst h0
            have R := Lib.hid (fun W => dec_any 0 (by decide) W)
            have hq : (digs 0 == (45 :: s)) = false := by
              rw [beq_eq_false_iff_ne, digs_eq (by decide)]; simp
            go_wp2_with (first | (go_at_call 133; refine (R.out _).mono ?_; rintro e w1 ⟨rfl, hE1⟩))
            go_ret2
            exact ⟨⟨0, false, rfl, numR_no Hm.out⟩, HW.out.trans hE1⟩
          · have R := Lib.hid (fun W => dec_neg (-(V : Int)) (by omega) (by omega) W)
            have Hl := Lib.hid (fun is => numR_less (is := is) Hm.out (show 0 < V by omega) hv)
            clear Hm
            go_wp2_with (first | (go_at_call 133; refine (R.out _).mono ?_; rintro e w1 ⟨⟨d, rfl⟩, hE1⟩))
            go_ret2
            exact ⟨⟨-(V : Int), d == (45 :: s), rfl, Hl.out _⟩, HW.out.trans hE1⟩
    · have hs3 : (2 : Int) < (s.length : Int) := by omega
      go_wp2
      go_ret2
      exact ⟨⟨0, false, rfl, numR_no Hmin.out⟩, HW.out⟩

theorem rnumber_any (l : List UInt8) (w : World) (hl : l.length ≤ 100000) : Calls Tryz.prog 134 #[.string (bs l), .int .i64 2] w fun e w' => NumPostR l e ∧ Ext w w' := by
  match l, hl with
  | [], hl => exact number_plain [] w hl (by simp)
  | x :: s, hl =>
    by_cases hx : x = 45
    · subst hx
      exact number_minus s w (by simp at hl; omega)
    · exact number_plain (x :: s) w hl (by simpa using hx)

end Go.Proofs.YtiehfpkcaoeieaaGreatDoor
