/- Contracts and mathematics, joined: Refs1, Refs2, Refs3, Refs4. Conditions stand with each. -/
import Derived.Test.YtiehfpkcaoeieaaGreatDoorM8
import Derived.Test.YtiehfpkcaoeieaaGreatDoorM3
import Derived.Test.YtiehfpkcaoeieaaGreatDoorM10
import Derived.Laws.BytesArg
set_option linter.unusedVariables false
set_option linter.unusedSimpArgs false
/- Contracts of the reference: equal lists, which list comes before, words. No condition. -/
namespace Go.Proofs.YtiehfpkcaoeieaaGreatDoor
open Go.RowKit Go.My Go.StripM

theorem take_eq_succ {l m : List Int} {k : Nat} (h1 : k < l.length) (h2 : k < m.length) (h : l.take k = m.take k) (he : l[k] = m[k]) : l.take (k + 1) = m.take (k + 1) := by
  rw [List.take_succ_eq_append_getElem h1, List.take_succ_eq_append_getElem h2, h, he]
theorem ne_at {l m : List Int} {k : Nat} (h1 : k < l.length) (h2 : k < m.length) (he : ¬ l[k] = m[k]) : ¬ l = m := by rintro rfl; exact he rfl

set_option maxHeartbeats 1000000 in
theorem tsame_any (l m : List Int) (oa ob : Option Addr) (ca cb : Nat) (w : World) (h1 : IntsAt w oa l) (h2 : IntsAt w ob m) (hl : l.length ≤ 9223372036854775807) (hm : m.length ≤ 9223372036854775807) :
    Calls Tryz.prog 28 #[.slice oa l.length ca, .slice ob m.length cb] w fun e w' => e = .returned (.bool (decide (l = m))) ∧ Ext w w' := by
  have H1 := Lib.hid h1; have H2 := Lib.hid h2; clear h1 h2
  by_cases hlen : l.length = m.length
  · have hne : ((l.length : Int) != (m.length : Int)) = false := by simp [hlen]
    go_enter Tryz.func28, Tryz.ntmps28
    go_wp2
    go_loopg [5] l.length (fun g i wr => ∃ k : Nat, k + g = l.length ∧ Ext w wr ∧ i = .int .i64 k ∧ l.take k = m.take k)
    case atStart => exact ⟨0, by simp, Ext.refl _, rfl, by simp⟩
    case round =>
      obtain ⟨k, hk, hE, rfl, hx⟩ := hrel
      have Hx := Lib.hid hx; clear hx
      by_cases hlt : k < l.length
      · have hlt2 : k < m.length := by omega
        obtain ⟨b, off, hob, _, hc⟩ := (H1.out.ext hE).at hlt
        obtain ⟨b2, off2, hob2, _, hc2⟩ := (H2.out.ext hE).at hlt2
        subst hob
        subst hob2
        have hkm : (k : Int) < (m.length : Int) := by omega
        cases hq : (l[k] != m[k])
        · have he : l[k] = m[k] := by simpa using hq
          have Hs := Lib.hid (take_eq_succ hlt hlt2 Hx.out he)
          clear he
          go_wp2_with fail
          refine wp_region_plan (.take 0 <| .take 1 <| .take 2 <| .take 3 <| .take 4 <| .take 5 <| .take 6 <| .take 7 <| .take 8 <| .done) (fun W => Ext wr W) mixed (by kernel_rfl) (by kernel_rfl) rfl (fun _ _ d _ _ h => by cases d <;> exact h) ((Ext.refl wr).drew) ?_
          repeat (first | (refine plan_take (v := ?_) rfl rfl (fun W hW => ?_) ?_; rotate_left; (focus (have dc := cell_ext hW hc; have dc' := cell_ext hW hc2; go_simp; first | exact rfl | (split <;> first | exact rfl | (exfalso; omega)) | done)); simp only [Act.put, List.setIfInBounds_toArray, List.set_cons_zero, List.set_cons_succ]) | (refine plan_skip rfl rfl ?_; simp only [Act.put, List.setIfInBounds_toArray, List.set_cons_zero, List.set_cons_succ]))
          refine plan_done ?_
          go_wp2
          go_roundg (gk - 1)
          case measure => omega
          case rel => exact ⟨k + 1, by omega, hE.drew, by go_num, Hs.out⟩
        · have he : ¬ l[k] = m[k] := by simpa using hq
          have Hs := Lib.hid (ne_at hlt hlt2 he)
          clear he
          go_wp2_with fail
          refine wp_region_plan (.take 0 <| .take 1 <| .take 2 <| .take 3 <| .take 4 <| .take 5 <| .take 6 <| .take 7 <| .take 8 <| .done) (fun W => Ext wr W) mixed (by kernel_rfl) (by kernel_rfl) rfl (fun _ _ d _ _ h => by cases d <;> exact h) ((Ext.refl wr).drew) ?_
          repeat (first | (refine plan_take (v := ?_) rfl rfl (fun W hW => ?_) ?_; rotate_left; (focus (have dc := cell_ext hW hc; have dc' := cell_ext hW hc2; go_simp; first | exact rfl | (split <;> first | exact rfl | (exfalso; omega)) | done)); simp only [Act.put, List.setIfInBounds_toArray, List.set_cons_zero, List.set_cons_succ]) | (refine plan_skip rfl rfl ?_; simp only [Act.put, List.setIfInBounds_toArray, List.set_cons_zero, List.set_cons_succ]))
          refine plan_done ?_
          go_wp2
          go_ret
          exact ⟨ret_bool (by rw [decide_eq_false Hs.out]), hE.drew⟩
      · have hx := Hx.out
        rw [List.take_of_length_le (by omega), List.take_of_length_le (by omega)] at hx
        have Hs := Lib.hid hx
        clear hx
        go_wp2
        go_ret
        exact ⟨ret_bool (by rw [decide_eq_true Hs.out]), hE⟩
  · have hne : ((l.length : Int) != (m.length : Int)) = true := by simpa using (by omega : ¬ (l.length : Int) = (m.length : Int))
    have Hs := Lib.hid (show ¬ l = m from fun e => hlen (by rw [e]))
    clear hlen
    go_enter Tryz.func28, Tryz.ntmps28
    go_wp2
    go_ret
    exact ⟨ret_bool (by rw [decide_eq_false Hs.out]), Ext.refl _⟩

set_option maxHeartbeats 1000000 in
theorem swords_any (l m : List Int) (oa ob : Option Addr) (ca cb : Nat) (w : World) (h1 : IntsAt w oa l) (h2 : IntsAt w ob m) (hl : l.length ≤ 9223372036854775807) (hm : m.length ≤ 9223372036854775807) :
    Calls Tryz.prog 55 #[.slice oa l.length ca, .slice ob m.length cb] w fun e w' => e = .returned (.bool (decide (l = m))) ∧ Ext w w' := by
  have H1 := Lib.hid h1; have H2 := Lib.hid h2; clear h1 h2
  by_cases hlen : l.length = m.length
  · have hne : ((l.length : Int) != (m.length : Int)) = false := by simp [hlen]
    go_enter Tryz.func55, Tryz.ntmps55
    go_wp2
    go_loopg [5] l.length (fun g i wr => ∃ k : Nat, k + g = l.length ∧ Ext w wr ∧ i = .int .i64 k ∧ l.take k = m.take k)
    case atStart => exact ⟨0, by simp, Ext.refl _, rfl, by simp⟩
    case round =>
      obtain ⟨k, hk, hE, rfl, hx⟩ := hrel
      have Hx := Lib.hid hx; clear hx
      by_cases hlt : k < l.length
      · have hlt2 : k < m.length := by omega
        obtain ⟨b, off, hob, _, hc⟩ := (H1.out.ext hE).at hlt
        obtain ⟨b2, off2, hob2, _, hc2⟩ := (H2.out.ext hE).at hlt2
        subst hob
        subst hob2
        have hkm : (k : Int) < (m.length : Int) := by omega
        cases hq : (l[k] != m[k])
        · have he : l[k] = m[k] := by simpa using hq
          have Hs := Lib.hid (take_eq_succ hlt hlt2 Hx.out he)
          clear he
          go_wp2_with fail
          refine wp_region_plan (.take 0 <| .take 1 <| .take 2 <| .take 3 <| .take 4 <| .take 5 <| .take 6 <| .take 7 <| .take 8 <| .done) (fun W => Ext wr W) mixed (by kernel_rfl) (by kernel_rfl) rfl (fun _ _ d _ _ h => by cases d <;> exact h) ((Ext.refl wr).drew) ?_
          repeat (first | (refine plan_take (v := ?_) rfl rfl (fun W hW => ?_) ?_; rotate_left; (focus (have dc := cell_ext hW hc; have dc' := cell_ext hW hc2; go_simp; first | exact rfl | (split <;> first | exact rfl | (exfalso; omega)) | done)); simp only [Act.put, List.setIfInBounds_toArray, List.set_cons_zero, List.set_cons_succ]) | (refine plan_skip rfl rfl ?_; simp only [Act.put, List.setIfInBounds_toArray, List.set_cons_zero, List.set_cons_succ]))
          refine plan_done ?_
          go_wp2
          go_roundg (gk - 1)
          case measure => omega
          case rel => exact ⟨k + 1, by omega, hE.drew, by go_num, Hs.out⟩
        · have he : ¬ l[k] = m[k] := by simpa using hq
          have Hs := Lib.hid (ne_at hlt hlt2 he)
          clear he
          go_wp2_with fail
          refine wp_region_plan (.take 0 <| .take 1 <| .take 2 <| .take 3 <| .take 4 <| .take 5 <| .take 6 <| .take 7 <| .take 8 <| .done) (fun W => Ext wr W) mixed (by kernel_rfl) (by kernel_rfl) rfl (fun _ _ d _ _ h => by cases d <;> exact h) ((Ext.refl wr).drew) ?_
          repeat (first | (refine plan_take (v := ?_) rfl rfl (fun W hW => ?_) ?_; rotate_left; (focus (have dc := cell_ext hW hc; have dc' := cell_ext hW hc2; go_simp; first | exact rfl | (split <;> first | exact rfl | (exfalso; omega)) | done)); simp only [Act.put, List.setIfInBounds_toArray, List.set_cons_zero, List.set_cons_succ]) | (refine plan_skip rfl rfl ?_; simp only [Act.put, List.setIfInBounds_toArray, List.set_cons_zero, List.set_cons_succ]))
          refine plan_done ?_
          go_wp2
          go_ret
          exact ⟨ret_bool (by rw [decide_eq_false Hs.out]), hE.drew⟩
      · have hx := Hx.out
        rw [List.take_of_length_le (by omega), List.take_of_length_le (by omega)] at hx
        have Hs := Lib.hid hx
        clear hx
        go_wp2
        go_ret
        exact ⟨ret_bool (by rw [decide_eq_true Hs.out]), hE⟩
  · have hne : ((l.length : Int) != (m.length : Int)) = true := by simpa using (by omega : ¬ (l.length : Int) = (m.length : Int))
    have Hs := Lib.hid (show ¬ l = m from fun e => hlen (by rw [e]))
    clear hlen
    go_enter Tryz.func55, Tryz.ntmps55
    go_wp2
    go_ret
    exact ⟨ret_bool (by rw [decide_eq_false Hs.out]), Ext.refl _⟩

theorem rword_any (n many : Nat) (w : World) : Calls Tryz.prog 89 #[.int .i64 n, .int .i64 many] w fun e w' => e = .returned (.int .i64 (wordI n many)) ∧ w' = w := by
  by_cases h0 : n = 0
  · subst h0
    go_enter Tryz.func89, Tryz.ntmps89
    go_wp2
    go_ret
    exact ⟨ret_int (by simp [wordI]), rfl⟩
  · have h1 : ((n : Int) == 0) = false := by simpa using h0
    by_cases h2 : n = many
    · subst h2
      go_enter Tryz.func89, Tryz.ntmps89
      go_wp2
      go_ret
      exact ⟨ret_int (by simp [wordI, h0]), rfl⟩
    · have h3 : ((n : Int) == (many : Int)) = false := by simpa using (by omega : ¬ (n : Int) = many)
      go_enter Tryz.func89, Tryz.ntmps89
      go_wp2
      go_ret
      exact ⟨ret_int (by simp [wordI, h0, h2]), rfl⟩

end Go.Proofs.YtiehfpkcaoeieaaGreatDoor
/- Contracts of the reference: decimals, rows, sealed texts, Print. No condition beyond small numbers. -/
namespace Go.Proofs.YtiehfpkcaoeieaaGreatDoor
open Go.RowKit Go.My Go.StripM

theorem conv1 (W : World) (b : Nat) (x : Int) (hc : W.cell? ⟨b, 0, none⟩ = some (.int .u8 x)) : (convert 84 9 (.slice (some ⟨b, 0, none⟩) 1 1)).run Tryz.prog W = .ok (.string (bs [UInt8.ofNat x.toNat])) W := by
  have := run_convert_bytes_arg (P := Tryz.prog) W 84 5 Tryz.underlying84 Tryz.underlying5 b 0 1 1 [x] rfl (fun i hi => by
    obtain rfl : i = 0 := by omega
    simpa using hc) 9 Tryz.underlying9
  rw [this]; rfl

set_option maxRecDepth 100000 in
theorem dec_small (n : Nat) (h : n < 10) (w : World) : Calls Tryz.prog 133 #[.int .i64 n] w fun e w' => e = .returned (.string (bs (digs n))) ∧ Ext w w' := by
  have h1 : ¬ ((n : Int) < 0) := by omega
  have h2 : (-10 : Int) < (n : Int) := by omega
  have h3 : (n : Int) < 10 := by omega
  have hc := conv1 (w.alloc (.cells #[.int .u8 (48 + (n : Int))] 5)) w.heap.size (48 + (n : Int)) (by go_simp)
  have hd : bs [UInt8.ofNat (48 + (n : Int)).toNat] = bs (digs n) := by
    rw [digs, Lib.decDigits, dif_pos h, show (48 + (n : Int)).toNat = 48 + n by omega]
  rw [hd] at hc
  clear hd
  go_enter Tryz.func133, Tryz.ntmps133
  go_wp2
  go_ret
  exact ⟨rfl, (Ext.refl w).alloc _⟩

theorem digs_two {n : Nat} (h : 10 ≤ n) : digs n = digs (n / 10) ++ [UInt8.ofNat (48 + n % 10)] := by
  show Lib.decDigits n = Lib.decDigits (n / 10) ++ _
  rw [Lib.decDigits, dif_neg (by omega)]

set_option maxRecDepth 100000 in
set_option maxHeartbeats 1000000 in
theorem dec_two (n : Nat) (h0 : 10 ≤ n) (h : n < 100) (w : World) : Calls Tryz.prog 133 #[.int .i64 n] w fun e w' => e = .returned (.string (bs (digs n))) ∧ Ext w w' := by
  have h1 : ¬ ((n : Int) < 0) := by omega
  have h2 : (-10 : Int) < (n : Int) := by omega
  have h3 : ¬ ((n : Int) < 10) := by omega
  have hd := digs_two h0
  obtain ⟨a, ha⟩ : ∃ a, a = n / 10 := ⟨_, rfl⟩
  obtain ⟨b, hb⟩ : ∃ b, b = n % 10 := ⟨_, rfl⟩
  rw [← ha, ← hb] at hd
  have ha9 : a < 10 := by omega
  have hb9 : b < 10 := by omega
  have hq := Lib.hid (fun W => dec_small a ha9 W)
  have hs1 : (digs a).length ≤ 1 := by unfold digs; rw [Lib.decDigits, dif_pos ha9]; simp
  have hcv := fun (W : World) => conv1 (W.alloc (.cells #[.int .u8 (48 + (b : Int))] 5)) W.heap.size (48 + (b : Int)) (by go_simp)
  rw [show (48 + (b : Int)).toNat = 48 + b by omega] at hcv
  obtain ⟨c, hcc⟩ : ∃ c, c = UInt8.ofNat (48 + b) := ⟨_, rfl⟩
  rw [← hcc] at hcv hd
  have q1 : IntKind.i64.wrap ((n : Int) / 10) = (a : Int) := by rw [IntWalk.i64_in _ (by omega)]; omega
  have q2 : (n : Int).tmod 10 = (b : Int) := by rw [Int.tmod_eq_emod_of_nonneg (by omega)]; omega
  have q3 : IntKind.i64.wrap (48 + (b : Int)) = 48 + (b : Int) := by rw [IntWalk.i64_in _ (by omega)]
  have q4 : IntKind.u8.wrap (48 + (b : Int)) = 48 + (b : Int) := by rw [IntWalk.u8_in _ (by omega)]
  have Hd := Lib.hid hd
  have Hcc := Lib.hid (show UInt8.ofNat (48 + (b : Int)).toNat = c by rw [hcc, show (48 + (b : Int)).toNat = 48 + b by omega])
  clear hd ha hb ha9 hcc
  go_enter Tryz.func133, Tryz.ntmps133
  go_wp2
  refine wp_region_plan (.take 0 <| .take 1 <| .take 3 <| .take 4 <| .take 5 <| .take 6 <| .two 2 7 (.only 7 <| .only 8 <| .take 9 <| .take 10 <| .done) (.two 2 8 (.only 8 <| .take 9 <| .take 10 <| .done) (.only 2 <| .take 9 <| .take 10 <| .done))) (fun W => Ext w W) mixed (by kernel_rfl) (by kernel_rfl) rfl (fun _ _ d _ _ h => by cases d <;> exact h) ((Ext.refl w).drew) ?_
  repeat (first | (refine plan_take (v := ?_) rfl rfl (fun W hW => ?_) ?_; rotate_left; (focus (skip; go_simp; first | exact rfl | (split <;> first | exact rfl | (exfalso; omega)) | done)); simp only [Act.put, List.setIfInBounds_toArray, List.set_cons_zero, List.set_cons_succ]) | (refine plan_skip rfl rfl ?_; simp only [Act.put, List.setIfInBounds_toArray, List.set_cons_zero, List.set_cons_succ]))
  refine plan_two rfl rfl ?_ ?_
  · intro K hK
    go_wp2_with (first | (go_at_call 133; refine (hq.out _).mono ?_; rintro e w1 ⟨rfl, hE1⟩))
    have hE2 := (Ext.refl w).drew.trans hE1
    refine hK _ _ hE2 ?_
    refine plan_walk rfl ?_; intro K hK
    go_wp2
    refine hK _ _ (hE2.alloc _) ?_
    refine plan_walk rfl ?_; intro K hK
    have hc1 := hcv w1
    clear hcv
    go_wp2
    refine hK _ _ (hE2.alloc _) ?_
    repeat (first | (refine plan_take (v := ?_) rfl rfl (fun W hW => ?_) ?_; rotate_left; (focus (skip; go_simp; first | exact rfl | (split <;> first | exact rfl | (exfalso; omega)) | done)); simp only [Act.put, List.setIfInBounds_toArray, List.set_cons_zero, List.set_cons_succ]) | (refine plan_skip rfl rfl ?_; simp only [Act.put, List.setIfInBounds_toArray, List.set_cons_zero, List.set_cons_succ]))
    refine plan_done ?_
    go_wp2
    go_ret
    exact ⟨by rw [Hd.out, ← bs_append]; rfl, hE2.alloc _⟩
  · intro K hK
    go_wp2
    have hE2 : Ext w (w.drew.alloc (.cells #[.int .u8 (48 + (b : Int))] 5)) := (Ext.refl w).drew.alloc _
    refine hK _ _ hE2 ?_
    refine plan_two rfl rfl ?_ ?_
    · intro K hK
      go_wp2_with (first | (go_at_call 133; refine (hq.out _).mono ?_; rintro e w1 ⟨rfl, hE1⟩))
      refine hK _ _ (hE2.trans hE1) ?_
      refine plan_walk rfl ?_; intro K hK
      have hc1 := conv1 w1 w.heap.size (48 + (b : Int)) (cell_ext hE1 (by go_simp))
      rw [Hcc.out] at hc1
      clear hcv
      go_wp2
      refine hK _ _ (hE2.trans hE1) ?_
      repeat (first | (refine plan_take (v := ?_) rfl rfl (fun W hW => ?_) ?_; rotate_left; (focus (skip; go_simp; first | exact rfl | (split <;> first | exact rfl | (exfalso; omega)) | done)); simp only [Act.put, List.setIfInBounds_toArray, List.set_cons_zero, List.set_cons_succ]) | (refine plan_skip rfl rfl ?_; simp only [Act.put, List.setIfInBounds_toArray, List.set_cons_zero, List.set_cons_succ]))
      refine plan_done ?_
      go_wp2
      go_ret
      exact ⟨by rw [Hd.out, ← bs_append]; rfl, hE2.trans hE1⟩
    · intro K hK
      have hc1 := conv1 (w.alloc (.cells #[.int .u8 (48 + (b : Int))] 5)).drew w.heap.size (48 + (b : Int)) (by go_simp)
      rw [Hcc.out] at hc1
      clear hcv
      go_wp2
      refine hK _ _ hE2 ?_
      refine plan_walk rfl ?_; intro K hK
      clear hc1
      go_wp2_with (first | (go_at_call 133; refine (hq.out _).mono ?_; rintro e w1 ⟨rfl, hE1⟩))
      have hE3 : Ext w w1 := hE2.trans hE1
      refine hK _ _ hE3 ?_
      repeat (first | (refine plan_take (v := ?_) rfl rfl (fun W hW => ?_) ?_; rotate_left; (focus (skip; go_simp; first | exact rfl | (split <;> first | exact rfl | (exfalso; omega)) | done)); simp only [Act.put, List.setIfInBounds_toArray, List.set_cons_zero, List.set_cons_succ]) | (refine plan_skip rfl rfl ?_; simp only [Act.put, List.setIfInBounds_toArray, List.set_cons_zero, List.set_cons_succ]))
      refine plan_done ?_
      go_wp2
      go_ret
      exact ⟨by rw [Hd.out, ← bs_append]; rfl, hE3⟩

theorem dec_any (n : Nat) (h : n < 100) (w : World) : Calls Tryz.prog 133 #[.int .i64 n] w fun e w' => e = .returned (.string (bs (digs n))) ∧ Ext w w' := by
  by_cases h0 : n < 10
  · exact dec_small n h0 w
  · exact dec_two n (by omega) h w

end Go.Proofs.YtiehfpkcaoeieaaGreatDoor
/- Contracts of the reference: rows, sealed texts, Print. No condition beyond small numbers. -/
namespace Go.Proofs.YtiehfpkcaoeieaaGreatDoor
open Go.RowKit Go.My Go.StripM

theorem add3r (c : List UInt8) (n : Nat) : bs c ++ (⟨#[32]⟩ : ByteArray) ++ bs (digs n) = bs (c ++ 32 :: digs n) := by
  have h := bs_append c [32]
  have h2 := bs_append (c ++ [32]) (digs n)
  rw [← h] at h2
  rw [show c ++ 32 :: digs n = c ++ [32] ++ digs n by simp]
  exact h2

set_option maxRecDepth 100000 in
set_option maxHeartbeats 1000000 in
theorem row_any (word : List UInt8) (l : List Nat) (oa : Option Addr) (cap : Nat) (w : World) (hw : word.length ≤ 5) (h : IntsAt w oa (up l)) (hl : l.length ≤ 1000) (hs : ∀ n ∈ l, n < 100) :
    Calls Tryz.prog 111 #[.string (bs word), .slice oa l.length cap] w fun e w' => e = .returned (.string (bs (rowB word l))) ∧ Ext w w' := by
  have H := Lib.hid h
  have Hs := Lib.hid hs
  clear h hs
  go_enter Tryz.func111, Tryz.ntmps111
  go_wp2
  go_loopg [0, 5] l.length (fun g o i wr => ∃ k : Nat, k + g = l.length ∧ i = .int .i64 k ∧ Ext w wr ∧ o = .string (bs (rowB word (l.take k))))
  case atStart => exact ⟨0, by simp, rfl, Ext.refl _, by simp [rowB]⟩
  case round =>
    obtain ⟨k, hk, rfl, hE, rfl⟩ := hrel
    by_cases hlt : k < l.length
    · obtain ⟨b, off, rfl, _, hc2⟩ := ints_up (H.out.ext hE) hlt
      have hn := Hs.out _ (List.getElem_mem hlt)
      have hd : (digs l[k]).length ≤ 2 := digs_len hn
      have hcl := rowB_small word (ns := l.take k) hw (fun n hn => Hs.out n (List.mem_of_mem_take hn)) (by rw [List.length_take]; omega)
      have ho : rowB word (l.take (k + 1)) = rowB word (l.take k) ++ 32 :: digs l[k] := by rw [List.take_succ_eq_append_getElem hlt, rowB_snoc]
      have Ho := Lib.hid ho
      clear ho
      generalize hC : rowB word (l.take k) = C at *
      clear hC
      generalize hX : l[k] = X at *
      clear hX
      go_wp2_with (first | (go_at_call 133; refine (dec_any X hn _).mono ?_; rintro e w3 ⟨rfl, hE3⟩))
      go_roundg (gk - 1)
      case measure => omega
      case rel => exact ⟨k + 1, by omega, by go_num, hE.trans hE3, by rw [add3r, Ho.out]⟩
    · have hkk : l.take k = l := List.take_of_length_le (by omega)
      rw [hkk]
      go_wp2
      go_ret
      exact ⟨rfl, hE⟩

/-- The cells of a slice of strings. -/
def StrsAt (w : World) (oa : Option Addr) (L : List (List UInt8)) : Prop :=
  ∀ (i : Nat) (x : List UInt8), L[i]? = some x → ∃ b off, oa = some ⟨b, off, none⟩ ∧ b < w.heap.size ∧ w.cell? ⟨b, off + i, none⟩ = some (.string (bs x))
theorem StrsAt.ext {w w' : World} {oa : Option Addr} {L : List (List UInt8)} (h : StrsAt w oa L) (hE : Ext w w') : StrsAt w' oa L := by
  intro i x hx
  obtain ⟨b, off, h1, h2, h3⟩ := h i x hx
  exact ⟨b, off, h1, Nat.lt_of_lt_of_le h2 hE.size, cell_ext hE h3⟩

set_option maxRecDepth 100000 in
set_option maxHeartbeats 2000000 in
theorem sealed_any (L : List (List UInt8)) (oa : Option Addr) (cap : Nat) (w : World) (h : StrsAt w oa L) (hL : L.length ≤ 1000) (hs : ∀ s ∈ L, s.length ≤ 4000) :
    Calls Tryz.prog 112 #[.slice oa L.length cap, .int .i64 193] w fun e w' => e = .returned (.string (bs (sealB L))) ∧ Ext w w' := by
  have H := Lib.hid h
  have HLl := Lib.hid hs
  clear h hs
  go_enter Tryz.func112, Tryz.ntmps112
  go_wp2
  go_loopg [5, 6, 7] L.length (fun g o c i wr => ∃ k : Nat, k + g = L.length ∧ i = .int .i64 k ∧ wr = w ∧ o = .string (bs (outAll L k)) ∧ c = .int .i64 (sumAll L k : Nat))
  case atStart => exact ⟨0, by simp, rfl, rfl, by simp [outAll], by simp [sumAll]⟩
  case round =>
    obtain ⟨i, hi, rfl, rfl, rfl, rfl⟩ := hrel
    obtain ⟨g1, rfl⟩ : ∃ g1 : Nat, g1 = gk := ⟨_, rfl⟩
    by_cases hlt : i < L.length
    · obtain ⟨b, off, rfl, hb, hc⟩ := H.out i L[i] (by simp [hlt])
      have hsl := HLl.out _ (List.getElem_mem hlt)
      have hs : L[i]? = some L[i] := by simp [hlt]
      obtain ⟨s, hse⟩ : ∃ s, s = L[i] := ⟨_, rfl⟩
      rw [← hse] at hc hsl hs
      have hos : outAll L (i + 1) = outAll L i ++ (s ++ [10]) := by rw [outAll_succ hlt, hse]
      have hss : sumAll L (i + 1) = sumAll L i + sumTo i s s.length := by rw [sumAll_succ]; simp [List.getD, hs]
      have hol := outAll_le HLl.out (k := i) (by omega)
      have hsu := sumAll_le HLl.out (k := i) (by omega) (by omega)
      have Hos := Lib.hid hos
      have Hss := Lib.hid hss
      clear hs hse hos hss
      generalize hO : outAll L i = O at *
      generalize hC : sumAll L i = C at *
      clear hO hC
      go_wp2
      go_loopg [6, 8] s.length (fun g c v wr' => ∃ k : Nat, k + g = s.length ∧ v = .int .i64 k ∧ wr' = wr ∧ c = .int .i64 ((C + sumTo i s k : Nat) : Int))
      case atStart => exact ⟨0, by simp, rfl, rfl, by simp [sumTo]⟩
      case round =>
        obtain ⟨k, hk, rfl, rfl, rfl⟩ := hrel
        by_cases hlt2 : k < s.length
        · go_wp2
          go_roundg (gk - 1)
          case measure => omega
          case rel => exact ⟨k + 1, by omega, by go_num, rfl, by first | rfl | (congr 1; exact step_sum hlt2 _ hsl (by omega) (by omega))⟩
        · have hkk : k = s.length := by omega
          subst hkk
          have hcs : C + sumTo i s s.length = sumAll L (i + 1) := Hss.out.symm
          rw [hcs]
          generalize hC2 : sumAll L (i + 1) = C2 at *
          clear hcs
          go_wp2
          go_roundg (g1 - 1)
          case measure => omega
          case rel => exact ⟨i + 1, by omega, by go_num, rfl, by rw [Hos.out, ← bs_append, ← bs_append]; first | rfl | (congr 1; exact ByteArray.append_assoc ..), by rw [hC2]⟩
    · have hiL : i = L.length := by omega
      have hol := outAll_le HLl.out (k := i) (by omega)
      have hsu := sumAll_le HLl.out (k := i) (by omega) (by omega)
      have hse : sealB L = outAll L i ++ wEnd ++ digs (sumAll L i % 193 / 100) ++ digs (sumAll L i % 193 / 10 % 10) ++ digs (sumAll L i % 193 % 10) ++ [10] := by rw [hiL]; rfl
      have Hse := Lib.hid hse
      clear hse
      generalize hO : outAll L i = O at *
      generalize hC : sumAll L i = C at *
      clear hO hC
      obtain ⟨d1, hd1⟩ : ∃ d, d = C % 193 / 100 := ⟨_, rfl⟩
      obtain ⟨d2, hd2⟩ : ∃ d, d = C % 193 / 10 % 10 := ⟨_, rfl⟩
      obtain ⟨d3, hd3⟩ : ∃ d, d = C % 193 % 10 := ⟨_, rfl⟩
      rw [← hd1, ← hd2, ← hd3] at Hse
      have e0 : (C : Int).tmod 193 = (C : Int) % 193 := by rw [Int.tmod_eq_emod_of_nonneg (by omega)]
      have e1 : (C : Int) % 193 / 100 = (d1 : Int) := by omega
      have e2 : (C : Int) % 193 / 10 % 10 = (d2 : Int) := by omega
      have e3 : (C : Int) % 193 % 10 = (d3 : Int) := by omega
      have k1 : d1 < 10 := by omega
      have k2 : d2 < 10 := by omega
      have k3 : d3 < 10 := by omega
      have l1 : (digs d1).length ≤ 2 := digs_len (by omega)
      have l2 : (digs d2).length ≤ 2 := digs_len (by omega)
      have l3 : (digs d3).length ≤ 2 := digs_len (by omega)
      clear hd1 hd2 hd3
      have Q1 := Lib.hid (fun W => dec_any d1 (by omega) W)
      have Q2 := Lib.hid (fun W => dec_any d2 (by omega) W)
      have Q3 := Lib.hid (fun W => dec_any d3 (by omega) W)
      go_wp2_with (first | (go_at_call 133; refine (Q1.out _).mono ?_; clear Q1; rintro e w1 ⟨rfl, hE1⟩) | (go_at_call 133; refine (Q2.out _).mono ?_; clear Q2; rintro e w2 ⟨rfl, hE2⟩) | (go_at_call 133; refine (Q3.out _).mono ?_; clear Q3; rintro e w3 ⟨rfl, hE3⟩))
      go_ret
      refine ⟨?_, (hE1.trans hE2).trans hE3⟩
      rw [Hse.out]
      show Ending.returned (.string (bs O ++ bs wEnd ++ bs _ ++ bs _ ++ bs _ ++ bs [10])) = _
      simp only [bs_append]

end Go.Proofs.YtiehfpkcaoeieaaGreatDoor
/- Contract of the reference: Print. No condition beyond small numbers. -/
namespace Go.Proofs.YtiehfpkcaoeieaaGreatDoor
open Go.RowKit Go.My Go.StripM

theorem i9 : (Tryz.prog.info? 9).map (fun i => (i.zero, i.size, i.bytes)) = some (some (.string ByteArray.empty), 1, 16) := by kernel_rfl
theorem lines_take (n : Nat) (ss : List (List Nat)) {k : Nat} (hk : k < ss.length) : linesB n (ss.take (k + 1)) = linesB n (ss.take k) ++ [rowB wSpot ss[k]] := by
  rw [linesB, linesB, List.take_succ_eq_append_getElem hk, List.map_append]; rfl
theorem own_strs {w : World} {B : Nat} {v : Value} {L : List (List UInt8)} (h : Own w B 9 v (L.map fun x => Value.string (bs x))) : ∃ oa cap, v = .slice oa L.length cap ∧ StrsAt w oa L := by
  rcases h.2 with ⟨rfl, h2⟩ | ⟨g, cap, cur, rfl, hb, hg, hn, hc, hs, ht⟩
  · have : L = [] := by rw [List.length_map] at h2; exact List.eq_nil_of_length_eq_zero h2
    subst this
    exact ⟨none, 0, rfl, fun i x hx => by simp at hx⟩
  · refine ⟨_, cap, by rw [List.length_map], fun i x hx => ⟨g, 0, rfl, (Array.getElem?_eq_some_iff.1 hg).1, ?_⟩⟩
    have hx' : (L.map fun x => Value.string (bs x))[i]? = some (.string (bs x)) := by simp [hx]
    rw [← ht, List.getElem?_take] at hx'
    split at hx'
    · rw [cell_of_row w g (0 + i) cur 9 (0, 0) hg]; simpa using hx'
    · cases hx'

set_option maxRecDepth 100000 in
set_option maxHeartbeats 1000000 in
theorem rprint_any (n : Nat) (ss : List (List Nat)) (oa : Option Addr) (cap : Nat) (w : World) (h : RowsAt w oa (upp ss)) (hs : Small n ss) :
    Calls Tryz.prog 67 #[.agg #[.int .i64 n, .slice oa ss.length cap]] w fun e w' => e = .returned (.string (bs (textB n ss))) ∧ Ext w w' := by
  have bx := Lib.hid (Bx.start (n := n) (cap := cap) h)
  have Hs := Lib.hid hs
  have hlen := hs.len
  have hrow1 := fun W (c0 : W.cell? ⟨w.heap.size + 1, 0, none⟩ = some (.int .i64 n)) (hlt : w.heap.size + 1 < W.heap.size) => row_any wBoard [n] (some ⟨w.heap.size + 1, 0, none⟩) 1 W (by decide) (fun i x hx => ⟨w.heap.size + 1, 0, rfl, hlt, by
    match i, hx with
    | 0, hx => simp [up] at hx; subst hx; simpa using c0⟩) (by simp) (by simp; exact hs.n)
  have Hrow1 := Lib.hid hrow1
  clear h hs hrow1
  go_enter Tryz.func67, Tryz.ntmps67
  go_wp2_with (first | (go_at_call 111; refine (Hrow1.out _ (by go_simp) (by simp)).mono ?_; rintro e w1 ⟨rfl, hE1⟩))
  have b1 := Lib.hid ((bx.out.next ((Ext.refl _).alloc (.cells #[.int .i64 n] 3))).next hE1)
  go_loopg [3, 4] ss.length (fun g v i wr => ∃ k : Nat, k + g = ss.length ∧ i = .int .i64 k ∧ Ext w1 wr ∧ Own wr w1.heap.size 9 v ((linesB n (ss.take k)).map fun x => Value.string (bs x)))
  case atStart => exact ⟨0, by simp, rfl, (Ext.refl _).alloc _, rfl, .inr ⟨w1.heap.size, 1, _, rfl, Nat.le_refl _, heap_alloc_new _ _, Nat.le_refl _, by decide, rfl, rfl⟩⟩
  case round =>
    obtain ⟨k, hk, rfl, hE, hown⟩ := hrel
    have Hown := Lib.hid hown
    clear hown
    obtain ⟨wo, rfl⟩ : ∃ wo : World, wo = wr := ⟨_, rfl⟩
    have B2 := Lib.hid (b1.out.next hE)
    have c1 := B2.out.c1
    by_cases hlt : k < ss.length
    · obtain ⟨b, off, o2, c2, hoa, _, hcx, x1, x2, x3, x4⟩ := rows_up B2.out.rows hlt
      subst hoa
      have hr := Hs.out.row _ (List.getElem_mem hlt)
      have hrow := fun W (hW : Ext wo W) => row_any wSpot ss[k] o2 c2 W (by decide) (x4.ext hW) hr.1 hr.2
      have Hrow := Lib.hid hrow
      have hll : (linesB n (ss.take k)).length = k + 1 := by rw [linesB_length, List.length_take]; omega
      have Hlt := Lib.hid (lines_take n ss hlt)
      clear hrow x4 hr
      generalize hX : ss[k] = X at *
      clear hX
      go_wp2_with (first | (go_at_call 111; refine (Hrow.out _ (Ext.refl _)).mono ?_; rintro e w3 ⟨rfl, hE3⟩) | (at_builtin; refine wpList_app1 _ rfl _ _ 118 rfl 9 Tryz.underlying118 (.string ByteArray.empty) 16 i9 rfl (by decide) w1.heap.size _ _ rfl ((Hown.out.ext hE3).ext ((Ext.refl _).alloc _)) w3.heap.size (.string (bs (rowB wSpot X))) rfl (by go_simp) rfl ?_ ?_ ?_))
      · rw [List.length_map]; omega
      · have := (hE.trans hE3).size; simp; omega
      · intro v' w2 hown2 hBl _
        have Ho2 := Lib.hid hown2; clear hown2
        go_wp2
        go_roundg (gk - 1)
        case measure => omega
        case rel => exact ⟨k + 1, by omega, by go_num, ((hE.trans hE3).alloc _).below hBl (Nat.le_refl _), by rw [Hlt.out, List.map_append]; exact Ho2.out⟩
    · have hkk : ss.take k = ss := List.take_of_length_le (by omega)
      have ho := Hown.out
      rw [hkk] at ho
      obtain ⟨oL, cL, hv, hst⟩ := own_strs ho
      have hse := sealed_any (linesB n ss) oL cL wo hst (by rw [linesB_length]; omega) Hs.out.lines
      rw [linesB_length] at hse hv
      subst hv
      have Hse := Lib.hid hse
      have Htx := Lib.hid (show textB n ss = sealB (linesB n ss) from rfl)
      clear hse hst ho Hown hkk
      go_wp2_with (first | (go_at_call 112; refine Hse.out.mono ?_; rintro e w3 ⟨rfl, hE3⟩))
      go_ret
      rw [Htx.out]
      exact ⟨rfl, B2.out.ext.trans hE3⟩

end Go.Proofs.YtiehfpkcaoeieaaGreatDoor
