/- Contracts and mathematics, joined: Miss, Miss2, Attempt. Conditions stand with each. -/
import Derived.Test.YtiehfpkcaoeieaaGreatDoorM1
import Derived.Defers
import Derived.Recover
set_option linter.unusedVariables false
set_option linter.unusedSimpArgs false
/- Contracts: places in an order, what agrees with it, which spots contradict it (the program's and the reference's). No condition. -/
namespace Go.Proofs.YtiehfpkcaoeieaaGreatDoor
open Go.RowKit Go.My

theorem i3 : (Tryz.prog.info? 3).map (fun i => (i.zero, i.size, i.bytes)) = some (some (.int .i64 0), 1, 8) := by kernel_rfl
theorem i27 : (Tryz.prog.info? 27).map (fun i => (i.zero, i.size, i.bytes)) = some (some (.slice none 0 0), 1, 24) := by kernel_rfl

set_option maxHeartbeats 400000 in
theorem place_any (l : List Int) (oa : Option Addr) (cap : Nat) (x : Int) (w : World) (h : IntsAt w oa l) (hl : l.length ≤ 9223372036854775807) :
    Calls Tryz.prog 39 #[.slice oa l.length cap, .int .i64 x] w fun e w' => e = .returned (.int .i64 (indexI l x)) ∧ w = w' := by
  go_enter Tryz.func39, Tryz.ntmps39
  go_wp2
  go_loopg [5] l.length (fun g i wr => ∃ k : Nat, k + g = l.length ∧ wr = w ∧ i = .int .i64 k ∧ x ∉ l.take k)
  case atStart => exact ⟨0, by simp, rfl, rfl, by simp⟩
  case round =>
    obtain ⟨k, hk, rfl, rfl, hx⟩ := hrel
    have Hx := Lib.hid hx; clear hx
    by_cases hlt : k < l.length
    · obtain ⟨b, off, rfl, hb, hc⟩ := h.at hlt
      go_wp2
      · go_ret
        have he : l[k] = x := by simpa using (by assumption : (l[k] == x) = true)
        exact ⟨ret_int (indexI_yes hlt Hx.out he.symm).symm, rfl⟩
      · have he : ¬ l[k] = x := by simpa using (by assumption : (l[k] == x) = false)
        go_roundg (gk - 1)
        case measure => omega
        case rel => exact ⟨k + 1, by omega, rfl, by go_num, not_mem_take_succ hlt Hx.out (fun e => he e.symm)⟩
    · go_wp2
      go_ret
      exact ⟨ret_int (indexI_no (by omega) Hx.out).symm, rfl⟩

/-- Each number of the list stands in the order behind the one before it. -/
def agreesI (o s : List Int) : Bool := decide (∀ i, i < s.length - 1 → indexI o (s.getD i 0) ≤ indexI o (s.getD (i + 1) 0))

theorem getD_at {l : List Int} {k : Nat} (hk : k < l.length) : l.getD k 0 = l[k] := by simp [List.getD, hk]

theorem agreesI_no {o s : List Int} {k : Nat} (hk : k < s.length) (h0 : 1 ≤ k) (h : indexI o s[k] < indexI o (s[k - 1]'(by omega))) : agreesI o s = false := by
  simp only [agreesI, decide_eq_false_iff_not]
  intro h2
  have := h2 (k - 1) (by omega)
  rw [getD_at (by omega), show k - 1 + 1 = k by omega, getD_at hk] at this
  omega
theorem agreesI_yes {o s : List Int} {k : Nat} (hk : s.length ≤ k) (h : ∀ i, i + 1 < k → i + 1 < s.length → indexI o (s.getD i 0) ≤ indexI o (s.getD (i + 1) 0)) : agreesI o s = true := by
  simp only [agreesI, decide_eq_true_eq]
  exact fun i hi => h i (by omega) (by omega)
/-- So far so good. -/
def agTo (o s : List Int) (k : Nat) : Prop := ∀ i, i + 1 < k → i + 1 < s.length → indexI o (s.getD i 0) ≤ indexI o (s.getD (i + 1) 0)
theorem agTo_one (o s : List Int) {k : Nat} (hk : k ≤ 1) : agTo o s k := fun i h1 _ => absurd h1 (by omega)
theorem agTo_succ {o s : List Int} {k : Nat} (h : agTo o s k) (hk : k < s.length) (h0 : 1 ≤ k) (h1 : ¬ indexI o s[k] < indexI o (s[k - 1]'(by omega))) : agTo o s (k + 1) := by
  intro i hi hi2
  by_cases he : i + 1 < k
  · exact h i he hi2
  · have : i = k - 1 := by omega
    subst this
    rw [getD_at (by omega), show k - 1 + 1 = k by omega, getD_at hk]; omega

set_option maxHeartbeats 1000000 in
theorem agrees_any (o s : List Int) (oa ob : Option Addr) (ca cb : Nat) (w : World) (ho : IntsAt w oa o) (hs : IntsAt w ob s) (hlo : o.length ≤ 9223372036854775807) (hls : s.length ≤ 9223372036854775807) :
    Calls Tryz.prog 92 #[.slice oa o.length ca, .slice ob s.length cb] w fun e w' => e = .returned (.bool (agreesI o s)) ∧ Ext w w' := by
  have Ho := Lib.hid ho; clear ho
  have Hs := Lib.hid hs; clear hs
  go_enter Tryz.func92, Tryz.ntmps92
  go_wp2
  go_loopg [5] s.length (fun g i wr => ∃ k : Nat, 1 ≤ k ∧ k + g = s.length + 1 ∧ Ext w wr ∧ i = .int .i64 k ∧ agTo o s k)
  case atStart => exact ⟨1, by omega, by omega, Ext.refl w, rfl, agTo_one _ _ (by omega)⟩
  case round =>
    obtain ⟨k, h0, hk, hE, rfl, hx⟩ := hrel
    have Hx := Lib.hid hx; clear hx
    have Hor := Lib.hid (Ho.out.ext hE)
    have Hsr := Lib.hid (Hs.out.ext hE)
    by_cases hlt : k < s.length
    · obtain ⟨b, off, hob, hb, hc⟩ := Hsr.out.at hlt
      subst hob
      obtain ⟨b', off', ho', _, hc'⟩ := Hsr.out.at (k := k - 1) (by omega)
      obtain ⟨rfl, rfl⟩ : b' = b ∧ off' = off := by simpa using ho'.symm
      clear ho'
      go_wp2_with fail
      have e1 : IntKind.i64.wrap ((k : Int) - 1) = ((k - 1 : Nat) : Int) := by rw [IntWalk.i64_in _ (by omega)]; omega
      have e2 : ((k - 1 : Nat) : Int) < (s.length : Int) := by omega
      have e3 : (0 : Int) ≤ ((k - 1 : Nat) : Int) := by omega
      refine wp_region_plan (.take 0 <| .take 1 <| .take 2 <| .take 3 <| .take 4 <| .take 5 <| .take 7 <| .take 8 <| .take 9 <| .take 10 <| .take 11 <| .only 6 <| .only 12 <| .take 13 <| .done) (fun W => Ext wr W) mixed (by kernel_rfl) (by kernel_rfl) rfl (fun _ _ d _ _ h => by cases d <;> exact h) ((Ext.refl wr).drew) ?_
      repeat (first | (refine plan_take (v := ?_) rfl rfl (fun W hW => ?_) ?_; rotate_left; (focus (have dc := cell_ext hW hc; have dc' := cell_ext hW hc'; go_simp; first | exact rfl | (split <;> first | exact rfl | (exfalso; omega)) | done)); simp only [Act.put, List.setIfInBounds_toArray, List.set_cons_zero, List.set_cons_succ]) | (refine plan_skip rfl rfl ?_; simp only [Act.put, List.setIfInBounds_toArray, List.set_cons_zero, List.set_cons_succ]))
      clear e1 e2 e3
      refine plan_walk rfl ?_; intro K hK
      go_wp2_with (first | (go_at_call 39; refine (place_any o _ _ _ _ (Hor.out.ext (Ext.refl wr).drew) hlo).mono ?_; rintro e w' ⟨rfl, rfl⟩))
      refine hK _ _ (Ext.refl wr).drew ?_
      refine plan_walk rfl ?_; intro K hK
      go_wp2_with (first | (go_at_call 39; refine (place_any o _ _ _ _ (Hor.out.ext (Ext.refl wr).drew) hlo).mono ?_; rintro e w' ⟨rfl, rfl⟩))
      refine hK _ _ (Ext.refl wr).drew ?_
      repeat (first | (refine plan_take (v := ?_) rfl rfl (fun W hW => ?_) ?_; rotate_left; (focus (skip; go_simp; first | exact rfl | (split <;> first | exact rfl | (exfalso; omega)) | done)); simp only [Act.put, List.setIfInBounds_toArray, List.set_cons_zero, List.set_cons_succ]) | (refine plan_skip rfl rfl ?_; simp only [Act.put, List.setIfInBounds_toArray, List.set_cons_zero, List.set_cons_succ]))
      refine plan_done ?_
      go_wp2
      · have hm : indexI o s[k] < indexI o s[k - 1] := by assumption
        go_ret
        exact ⟨ret_bool (agreesI_no hlt h0 hm).symm, hE.trans (Ext.refl wr).drew⟩
      · have hm : ¬ indexI o s[k] < indexI o s[k - 1] := by omega
        go_roundg (gk - 1)
        case measure => omega
        case rel => exact ⟨k + 1, by omega, by omega, hE.trans (Ext.refl wr).drew, by go_num, agTo_succ Hx.out hlt h0 hm⟩
    · go_wp2
      go_ret
      exact ⟨ret_bool (agreesI_yes (by omega) Hx.out).symm, hE⟩

/-- The numbers of the first k lists that do not agree with an order. -/
def missesTo (o : List Int) (ls : List (List Int)) (k : Nat) : List Int := ((List.range k).filter fun i => !agreesI o (ls.getD i [])).map fun (i : Nat) => (i : Int)
theorem missesTo_succ (o : List Int) (ls : List (List Int)) (k : Nat) : missesTo o ls (k + 1) = missesTo o ls k ++ if agreesI o (ls.getD k []) then [] else [(k : Int)] := by
  unfold missesTo
  rw [List.range_succ, List.filter_append, List.map_append]
  congr 1
  cases h : agreesI o (ls.getD k []) <;> simp only [List.filter_cons, List.filter_nil, h] <;> rfl
theorem missesTo_len (o : List Int) (ls : List (List Int)) (k : Nat) : (missesTo o ls k).length ≤ k := by
  unfold missesTo
  rw [List.length_map]; exact Nat.le_trans (List.length_filter_le _ _) (by simp)
theorem getD_row {ls : List (List Int)} {k : Nat} (hk : k < ls.length) : ls.getD k [] = ls[k] := by simp [List.getD, hk]

set_option maxHeartbeats 1000000 in
theorem rMisses_any (n : Int) (ls : List (List Int)) (oa : Option Addr) (cap : Nat) (o : List Int) (ob : Option Addr) (cb : Nat) (w : World) (h : RowsAt w oa ls) (hl : ls.length ≤ 1000) (ho : IntsAt w ob o) (hlo : o.length ≤ 9223372036854775807) :
    Calls Tryz.prog 64 #[.agg #[.int .i64 n, .slice oa ls.length cap], .slice ob o.length cb] w fun e w' => ∃ v, e = .returned v ∧ IsInts w' v (missesTo o ls ls.length) ∧ Ext w w' := by
  have H := Lib.hid h; clear h
  have Ho := Lib.hid ho; clear ho
  go_enter Tryz.func64, Tryz.ntmps64
  go_wp2
  go_loopg [5, 6] ls.length (fun g v i wr => ∃ k : Nat, k + g = ls.length ∧ Ext w wr ∧ w.heap.size + 1 ≤ wr.heap.size ∧ i = .int .i64 k ∧ wr.cell? ⟨w.heap.size, 0, none⟩ = some (.int .i64 n) ∧ wr.cell? ⟨w.heap.size, 1, none⟩ = some (.slice oa ls.length cap) ∧
    Own wr (w.heap.size + 1) 3 v ((missesTo o ls k).map (Value.int .i64)))
  case atStart => exact ⟨0, by simp, (Ext.refl w).alloc _, by simp, rfl, by go_simp, by go_simp, Own.nil _ _ _⟩
  case round =>
    obtain ⟨k, hk, hE, hB, rfl, c0, c1, hown⟩ := hrel
    have Hown := Lib.hid hown; clear hown
    have Hr := Lib.hid (H.out.ext hE)
    have Hor := Lib.hid (Ho.out.ext hE)
    by_cases hlt : k < ls.length
    · obtain ⟨b, off, oa', cap', hoa, hb, hc, h1, h2, _, h4⟩ := Hr.out.at hlt
      subst hoa
      have H4 := Lib.hid h4; clear h4
      have hll := len_le h1 h2
      cases hs : agreesI o ls[k]
      · go_wp2_with (first | (go_at_call 92; refine (agrees_any o ls[k] _ _ _ _ _ Hor.out H4.out hlo hll).mono ?_; rintro e w' ⟨rfl, hE'⟩) | (at_builtin; refine wpList_app1 _ rfl _ _ 27 rfl 3 Tryz.underlying27 (.int .i64 0) 8 i3 rfl (by decide) (w.heap.size + 1) _ _ rfl ((Hown.out.ext hE').ext ((Ext.refl _).alloc _)) w'.heap.size (.int .i64 k) rfl (by go_simp) rfl ?_ ?_ ?_))
        · have := missesTo_len o ls k; simp; omega
        · have := hE'.size; simp; omega
        · intro v' w2 hown2 hBl _
          have Ho2 := Lib.hid hown2; clear hown2
          go_wp2
          go_roundg (gk - 1)
          case measure => omega
          case rel =>
            have hX : Ext wr (w'.alloc (.cells #[.int .i64 k] 3)) := hE'.alloc _
            refine ⟨k + 1, by omega, (hE.trans hX).below hBl (by omega), by have := hE'.size; have := hBl.size; simp at this; omega, by go_num, cell_below hBl (by simp) (cell_ext hX c0), cell_below hBl (by simp) (cell_ext hX c1), ?_⟩
            rw [missesTo_succ, getD_row hlt, hs]; simpa using Ho2.out
      · go_wp2_with (first | (go_at_call 92; refine (agrees_any o ls[k] _ _ _ _ _ Hor.out H4.out hlo hll).mono ?_; rintro e w' ⟨rfl, hE'⟩))
        go_roundg (gk - 1)
        case measure => omega
        case rel =>
          refine ⟨k + 1, by omega, hE.trans hE', by have := hE'.size; omega, by go_num, cell_ext hE' c0, cell_ext hE' c1, ?_⟩
          rw [missesTo_succ, getD_row hlt, hs]; simpa using Hown.out.ext hE'
    · have hkk : k = ls.length := by omega
      have Hk := Lib.hid hkk; clear hkk
      go_wp2
      go_ret
      have := Hown.out
      rw [Hk.out] at this
      exact ⟨_, rfl, this.ints, hE⟩

end Go.Proofs.YtiehfpkcaoeieaaGreatDoor
/- Contract: strip.Misses. No condition. -/
namespace Go.Proofs.YtiehfpkcaoeieaaGreatDoor
open Go.RowKit Go.My

set_option maxHeartbeats 1000000 in
theorem misses_bad (n : Int) (ls : List (List Int)) (oa : Option Addr) (cap : Nat) (o : List Int) (ob : Option Addr) (cb : Nat) (w : World) (h : RowsAt w oa ls) (hl : ls.length ≤ 9223372036854775807) (ho : IntsAt w ob o) (hlo : o.length ≤ 9223372036854775807) (hcb : o.length ≤ cb)
    (hbad : (boardB n ls && orderB n o) = false) :
    Calls Tryz.prog 57 #[.agg #[.int .i64 n, .slice oa ls.length cap], .slice ob o.length cb] w fun e w' => e = .returned (.tuple #[.slice none 0 0, .int .i64 2]) ∧ Ext w w' := by
  have H := Lib.hid h; clear h
  have Ho := Lib.hid ho; clear ho
  have HS : Hid (orderB n o = (decide ((o.length : Int) = n) && namesB n o)) := rfl
  have Hbad := Lib.hid hbad; clear hbad
  cases hb : boardB n ls
  · go_enter Tryz.func57, Tryz.ntmps57
    go_wp2_with (first | (go_at_call 73; refine (isBoard_any n ls _ cap _ (H.out.ext ((Ext.refl w).alloc _)) hl).mono ?_; rintro e w' ⟨rfl, hE⟩; obtain ⟨hq, _⟩ := bcell hE))
    go_ret2
    exact ⟨rfl, ((Ext.refl w).alloc _).trans hE⟩
  · have hn : 0 ≤ n ∧ n ≤ 1000 := by simp [boardB, inB] at hb; omega
    by_cases hi : (o.length : Int) = n
    · have hi2 : ((o.length : Int) == n) = true := by simpa using hi
      have hnm : namesB n o = false := by
        have := Hbad.out; rw [HS.out, hb, decide_eq_true hi] at this; simpa using this
      have Hi := Lib.hid hi; clear hi
      go_enter Tryz.func57, Tryz.ntmps57
      go_wp2_with (first | (go_at_call 73; refine (isBoard_any n ls _ cap _ (H.out.ext ((Ext.refl w).alloc _)) hl).mono ?_; rintro e w' ⟨rfl, hE⟩; obtain ⟨hq, _⟩ := bcell hE) | (go_at_call 101; refine (areNames_any n _ o _ _ _ hn.1 hn.2 (Ho.out.ext (((Ext.refl w).alloc _).trans hE)) hlo hcb).mono ?_; rintro e w'' ⟨rfl, hE2⟩))
      go_ret2
      exact ⟨rfl, (((Ext.refl w).alloc _).trans hE).trans hE2⟩
    · have hi2 : ((o.length : Int) == n) = false := by simpa using hi
      go_enter Tryz.func57, Tryz.ntmps57
      go_wp2_with (first | (go_at_call 73; refine (isBoard_any n ls _ cap _ (H.out.ext ((Ext.refl w).alloc _)) hl).mono ?_; rintro e w' ⟨rfl, hE⟩; obtain ⟨hq, _⟩ := bcell hE))
      go_ret2
      exact ⟨rfl, ((Ext.refl w).alloc _).trans hE⟩

set_option maxHeartbeats 4000000 in
theorem misses_ok (n : Int) (ls : List (List Int)) (oa : Option Addr) (cap : Nat) (o : List Int) (ob : Option Addr) (cb : Nat) (w : World) (h : RowsAt w oa ls) (hl : ls.length ≤ 1000) (ho : IntsAt w ob o) (hlo : o.length ≤ 9223372036854775807) (hcb : o.length ≤ cb)
    (hb : boardB n ls = true) (hob : orderB n o = true) :
    Calls Tryz.prog 57 #[.agg #[.int .i64 n, .slice oa ls.length cap], .slice ob o.length cb] w fun e w' => ∃ v, e = .returned (.tuple #[v, .int .i64 0]) ∧ IsInts w' v (missesTo o ls ls.length) ∧ Ext w w' := by
  have H := Lib.hid h; clear h
  have Ho := Lib.hid ho; clear ho
  have hn : 0 ≤ n ∧ n ≤ 1000 := by simp [boardB, inB] at hb; omega
  simp only [orderB, Bool.and_eq_true, decide_eq_true_eq] at hob
  obtain ⟨hi, hnm⟩ := hob
  have hi2 : ((o.length : Int) == n) = true := by simpa using hi
  have Hi := Lib.hid hi; clear hi
  go_enter Tryz.func57, Tryz.ntmps57
  go_wp2_with (first | (go_at_call 73; refine (isBoard_any n ls _ cap _ (H.out.ext ((Ext.refl w).alloc _)) (by omega)).mono ?_; rintro e w1 ⟨rfl, hE⟩; have c0 : w1.cell? ⟨w.heap.size, 0, none⟩ = some (.int .i64 n) := cell_ext hE (by go_simp); have c1 : w1.cell? ⟨w.heap.size, 1, none⟩ = some (.slice oa ls.length cap) := cell_ext hE (by go_simp)) | (go_at_call 101; refine (areNames_any n _ o _ _ _ hn.1 hn.2 (Ho.out.ext (((Ext.refl w).alloc _).trans hE)) hlo hcb).mono ?_; rintro e w2 ⟨rfl, hE2⟩; have c0 := cell_ext hE2 c0; have c1 := cell_ext hE2 c1))
  clear hi2 hb hnm
  have hE3 := (((Ext.refl w).alloc (.cells #[.int .i64 n, .slice oa ls.length cap] 24)).trans hE).trans hE2
  have hE4 := hE.trans hE2
  go_loopg [6, 30] ls.length (fun g v i wr => ∃ k : Nat, k + g = ls.length ∧ Ext w wr ∧ w.heap.size + 1 ≤ wr.heap.size ∧ i = .int .i64 k ∧ Own wr (w.heap.size + 1) 3 v ((missesTo o ls k).map (Value.int .i64)))
  case atStart => exact ⟨0, by simp, hE3, by have := hE4.size; simp at this; omega, rfl, Own.nil _ _ _⟩
  case round =>
    obtain ⟨k, hk, hE, hB, rfl, hown⟩ := hrel
    have Hown := Lib.hid hown; clear hown
    clear hE2 hE3 hE4
    have Hr := Lib.hid (H.out.ext hE)
    have Hor := Lib.hid (Ho.out.ext hE)
    by_cases hlt : k < ls.length
    · obtain ⟨b, off, oa', cap', hoa, hb, hc, h1, h2, _, h4⟩ := Hr.out.at hlt
      subst hoa
      have H4 := Lib.hid h4; clear h4
      have hll := len_le h1 h2
      go_wp2
      obtain ⟨wo, rfl⟩ : ∃ wo : World, wo = wr := ⟨_, rfl⟩
      obtain ⟨g0, rfl⟩ : ∃ g0 : Nat, g0 = gk := ⟨_, rfl⟩
      go_loopg [6, 37] ls[k].length (fun g v i wx => ∃ j : Nat, j + g = ls[k].length ∧ Ext wo wx ∧ v = u6 ∧ i = .int .i64 j ∧ agTo o ls[k] j)
      case atStart => exact ⟨0, by simp, Ext.refl _, rfl, rfl, agTo_one _ _ (by omega)⟩
      case round =>
        obtain ⟨j, hj, hEx, rfl, rfl, hx⟩ := hrel
        have Hx := Lib.hid hx; clear hx
        have H4x := Lib.hid (H4.out.ext hEx)
        have Horx := Lib.hid (Hor.out.ext hEx)
        by_cases hjl : j < ls[k].length
        · obtain ⟨b', off', hoa', _, hc'⟩ := H4x.out.at hjl
          subst hoa'
          by_cases h0 : 1 ≤ j
          · obtain ⟨b2, off2, ho2, _, hc2⟩ := H4x.out.at (k := j - 1) (by omega)
            obtain ⟨rfl, rfl⟩ : b2 = b' ∧ off2 = off' := by simpa using ho2.symm
            clear ho2
            go_wp2_with fail
            have e1 : IntKind.i64.wrap ((j : Int) - 1) = ((j - 1 : Nat) : Int) := by rw [IntWalk.i64_in _ (by omega)]; omega
            have e2 : ((j - 1 : Nat) : Int) < (ls[k].length : Int) := by omega
            have e3 : (0 : Int) ≤ ((j - 1 : Nat) : Int) := by omega
            have e4 : 0 < j := by omega
            refine wp_region_plan (.take 0 <| .take 1 <| .take 2 <| .take 3 <| .take 4 <| .take 6 <| .take 7 <| .take 8 <| .take 9 <| .take 10 <| .take 11 <| .only 5 <| .only 12 <| .take 13 <| .take 14 <| .done) (fun W => Ext wr W) mixed (by kernel_rfl) (by kernel_rfl) rfl (fun _ _ d _ _ h => by cases d <;> exact h) ((Ext.refl wr).drew) ?_
            repeat (first | (refine plan_take (v := ?_) rfl rfl (fun W hW => ?_) ?_; rotate_left; (focus (have dc := cell_ext hW hc'; have dc' := cell_ext hW hc2; go_simp; first | exact rfl | (split <;> first | exact rfl | (exfalso; omega)) | done)); simp only [Act.put, List.setIfInBounds_toArray, List.set_cons_zero, List.set_cons_succ]) | (refine plan_skip rfl rfl ?_; simp only [Act.put, List.setIfInBounds_toArray, List.set_cons_zero, List.set_cons_succ]))
            clear e1 e2 e3
            refine plan_walk rfl ?_; intro K hK
            go_wp2_with (first | (go_at_call 102; refine (sindex_any o _ _ _ _ (Horx.out.ext (Ext.refl wr).drew) hlo).mono ?_; rintro e w' ⟨rfl, rfl⟩))
            refine hK _ _ (Ext.refl wr).drew ?_
            refine plan_walk rfl ?_; intro K hK
            go_wp2_with (first | (go_at_call 102; refine (sindex_any o _ _ _ _ (Horx.out.ext (Ext.refl wr).drew) hlo).mono ?_; rintro e w' ⟨rfl, rfl⟩))
            refine hK _ _ (Ext.refl wr).drew ?_
            repeat (first | (refine plan_take (v := ?_) rfl rfl (fun W hW => ?_) ?_; rotate_left; (focus (skip; go_simp; first | exact rfl | (split <;> first | exact rfl | (exfalso; omega)) | done)); simp only [Act.put, List.setIfInBounds_toArray, List.set_cons_zero, List.set_cons_succ]) | (refine plan_skip rfl rfl ?_; simp only [Act.put, List.setIfInBounds_toArray, List.set_cons_zero, List.set_cons_succ]))
            refine plan_done ?_
            go_wp2_with (first | (at_builtin; refine wpList_app1 _ rfl _ _ 27 rfl 3 Tryz.underlying27 (.int .i64 0) 8 i3 rfl (by decide) (w.heap.size + 1) _ _ rfl ((Hown.out.ext hEx.drew).ext ((Ext.refl _).alloc _)) wr.heap.size (.int .i64 k) rfl (by go_simp) rfl ?_ ?_ ?_))
            · have := missesTo_len o ls k; simp; omega
            · have := hEx.size; simp; omega
            · intro v' w2 hown2 hBl _
              have Ho2 := Lib.hid hown2; clear hown2
              have hlt3 : indexI o ls[k][j] < indexI o ls[k][j - 1] := by assumption
              have hag := agreesI_no hjl h0 hlt3
              have Hag := Lib.hid hag; clear hag
              go_wp2
              go_roundg (g0 - 1)
              case measure => omega
              case rel =>
                have hX : Ext wo (wr.alloc (.cells #[.int .i64 k] 3)).drew := (hEx.alloc _).drew
                refine ⟨k + 1, by omega, (hE.trans hX).below hBl (by omega), by have := hEx.size; have := hBl.size; simp at this; omega, by go_num, ?_⟩
                rw [missesTo_succ, getD_row hlt, Hag.out]; simpa using Ho2.out
            · have hlt3 : ¬ indexI o ls[k][j] < indexI o ls[k][j - 1] := by omega
              go_roundg (gk - 1)
              case measure => omega
              case rel => exact ⟨j + 1, by omega, hEx.drew, rfl, by go_num, agTo_succ Hx.out hjl h0 hlt3⟩
          · have e4 : decide (0 < j) = false := by simpa using (show ¬ 0 < j by omega)
            go_wp2_with fail
            refine wp_region_plan (.take 0 <| .take 1 <| .take 2 <| .take 3 <| .take 4 <| .take 5 <| .take 6 <| .take 7 <| .take 8 <| .take 9 <| .take 10 <| .take 11 <| .take 12 <| .take 13 <| .take 14 <| .done) (fun W => Ext wr W) mixed (by kernel_rfl) (by kernel_rfl) rfl (fun _ _ d _ _ h => by cases d <;> exact h) ((Ext.refl wr).drew) ?_
            repeat (first | (refine plan_take (v := ?_) rfl rfl (fun W hW => ?_) ?_; rotate_left; (focus (have dc := cell_ext hW hc'; go_simp; first | exact rfl | (split <;> first | exact rfl | (exfalso; omega)) | done)); simp only [Act.put, List.setIfInBounds_toArray, List.set_cons_zero, List.set_cons_succ]) | (refine plan_skip rfl rfl ?_; simp only [Act.put, List.setIfInBounds_toArray, List.set_cons_zero, List.set_cons_succ]))
            refine plan_done ?_
            go_wp2
            go_roundg (gk - 1)
            case measure => omega
            case rel => exact ⟨j + 1, by omega, hEx.drew, rfl, by go_num, agTo_one _ _ (by omega)⟩
        · have hag := agreesI_yes (by omega) Hx.out
          have Hag := Lib.hid hag; clear hag
          go_wp2
          go_roundg (g0 - 1)
          case measure => omega
          case rel =>
            refine ⟨k + 1, by omega, hE.trans hEx, by have := hEx.size; omega, by go_num, ?_⟩
            rw [missesTo_succ, getD_row hlt, Hag.out]; simpa using Hown.out.ext hEx
    · have hkk : k = ls.length := by omega
      have Hk := Lib.hid hkk; clear hkk
      go_wp2
      go_ret2
      have := Hown.out
      rw [Hk.out] at this
      exact ⟨_, rfl, this.ints, hE⟩

end Go.Proofs.YtiehfpkcaoeieaaGreatDoor
/- Contracts: attempt: it returns the error of what a function gives up with. Its condition: the function's own contract. -/
namespace Go.Proofs.YtiehfpkcaoeieaaGreatDoor
open Go.RowKit Go.My

theorem makeFunc_run (fn : Fn) (first cap : Array Value) (w : World) : (Instr.makeFunc fn first cap).run Tryz.prog w = .ok (.func fn first cap) w := rfl

theorem catch_idle (p : Addr) (w : World) :
    CallsD Tryz.prog 118 #[.pointer (some p)] .returning w fun e u' w' => e = .returned (.tuple #[]) ∧ u' = .returning ∧ w = w' := by
  refine callsD_of_wpS Tryz.func118 rfl fun c₀ cs hu => ?_
  simp only [Tryz.ntmps118, List.size_toArray, List.length_cons, List.length_nil, Nat.reduceAdd, Nat.reduceSub, Array.replicate_succ, Array.replicate_zero, List.push_toArray, List.append_toArray, List.nil_append, List.cons_append]
  apply wpS_seq
  apply wpS_region
  simp [wpOpsS, go_sem, recoverD, hu, Exit.thenS]
  refine wpS_of_wp ?_
  go_wp2
  cases c₀
  simp_all [bodyPostS, results, Tryz.results118]

theorem assert_clash (i : Int) (w : World) : (Instr.typeAssert (.iface 125 (.agg #[.int .i64 i])) 20 125 true).run Tryz.prog w = .ok (.tuple #[.agg #[.int .i64 i], .bool true]) w := by kernel_rfl
theorem assert_text1 (s : ByteArray) (w : World) : (Instr.typeAssert (.iface 127 (.agg #[.string s])) 20 125 true).run Tryz.prog w = .ok (.tuple #[.agg #[.int .i64 0], .bool false]) w := by kernel_rfl
theorem assert_text2 (s : ByteArray) (w : World) : (Instr.typeAssert (.iface 127 (.agg #[.string s])) 20 127 true).run Tryz.prog w = .ok (.tuple #[.agg #[.string s], .bool true]) w := by kernel_rfl

theorem grown_store {w : World} {b : Nat} (o : Obj) (x : Value) : w.grownBy ((w.setCell ⟨b, 0, none⟩ x).alloc o) (some b) :=
  ⟨rfl, rfl, rfl, by simp [World.setCell], fun k hk hne => by
    rw [Below.heap_alloc _ _ _ (by simpa [World.setCell] using hk), Below.heap_setCell _ _ _ _ (fun e => hne (by simp at e; rw [e]))]⟩
theorem grown_set {w : World} {b : Nat} (x : Value) : w.grownBy (w.setCell ⟨b, 0, none⟩ x) (some b) :=
  ⟨rfl, rfl, rfl, by simp [World.setCell], fun k hk hne => Below.heap_setCell _ _ _ _ (fun e => hne (by simp at e; rw [e]))⟩
theorem cell_store {w : World} {b : Nat} (o : Obj) (x y : Value) (hc : w.cell? ⟨b, 0, none⟩ = some y) : ((w.setCell ⟨b, 0, none⟩ x).alloc o).cell? ⟨b, 0, none⟩ = some x := by
  rw [World.cell?_alloc_lt _ _ _ (by have := World.block_lt_of_cell? _ _ hc; simpa [World.setCell] using this)]
  exact World.cell?_setCell_same' _ _ _ (by rw [hc]; rfl)

theorem catch_clash (b : Nat) (i : Int) (w : World) (x : Value) (hc : w.cell? ⟨b, 0, none⟩ = some x) (hf : w.frozen? ⟨b, 0, none⟩ = false) :
    CallsD Tryz.prog 118 #[.pointer (some ⟨b, 0, none⟩)] (.panicking [{ v := .iface 125 (.agg #[.int .i64 i]), recovered := false }]) w fun e u' w' => e = .returned (.tuple #[]) ∧
      u' = .panicking [{ v := .iface 125 (.agg #[.int .i64 i]), recovered := true }] ∧ w.grownBy w' (some b) ∧ w'.cell? ⟨b, 0, none⟩ = some (.int .i64 7) := by
  refine callsD_of_wpS Tryz.func118 rfl fun c₀ cs hu => ?_
  simp only [Tryz.ntmps118, List.size_toArray, List.length_cons, List.length_nil, Nat.reduceAdd, Nat.reduceSub, Array.replicate_succ, Array.replicate_zero, List.push_toArray, List.append_toArray, List.nil_append, List.cons_append]
  apply wpS_seq
  apply wpS_region
  simp [wpOpsS, go_sem, recoverD, hu, Exit.thenS]
  have Hu := Lib.hid hu; clear hu
  have hlt := World.block_lt_of_cell? _ _ hc
  refine wpS_of_wp ?_
  have ta := assert_clash i
  generalize hQ : (fun e a' w' => bodyPostS Tryz.prog Tryz.f118 c₀ cs _ e a' _ w') = Q0
  have HQ := Lib.hid hQ; clear hQ
  have hne : ¬ w.heap.size = b := fun e => by simp at hlt; omega
  go_wp2
  rw [← HQ.out]
  cases c₀
  simp [bodyPostS, results, Tryz.results118]
  exact ⟨grown_store _ _, cell_store _ _ _ hc⟩

theorem catch_text (b : Nat) (s : ByteArray) (w : World) (x : Value) (hc : w.cell? ⟨b, 0, none⟩ = some x) (hf : w.frozen? ⟨b, 0, none⟩ = false) :
    CallsD Tryz.prog 118 #[.pointer (some ⟨b, 0, none⟩)] (.panicking [{ v := .iface 127 (.agg #[.string s]), recovered := false }]) w fun e u' w' => e = .returned (.tuple #[]) ∧
      u' = .panicking [{ v := .iface 127 (.agg #[.string s]), recovered := true }] ∧ w.grownBy w' (some b) ∧ w'.cell? ⟨b, 0, none⟩ = some (.int .i64 4) := by
  refine callsD_of_wpS Tryz.func118 rfl fun c₀ cs hu => ?_
  simp only [Tryz.ntmps118, List.size_toArray, List.length_cons, List.length_nil, Nat.reduceAdd, Nat.reduceSub, Array.replicate_succ, Array.replicate_zero, List.push_toArray, List.append_toArray, List.nil_append, List.cons_append]
  apply wpS_seq
  apply wpS_region
  simp [wpOpsS, go_sem, recoverD, hu, Exit.thenS]
  have Hu := Lib.hid hu; clear hu
  have hlt := World.block_lt_of_cell? _ _ hc
  refine wpS_of_wp ?_
  have ta := assert_text1 s
  have tb := assert_text2 s
  generalize hQ : (fun e a' w' => bodyPostS Tryz.prog Tryz.f118 c₀ cs _ e a' _ w') = Q0
  have HQ := Lib.hid hQ; clear hQ
  have hne : ¬ w.heap.size = b := fun e => by simp at hlt; omega
  go_wp2
  rw [← HQ.out]
  cases c₀
  simp [bodyPostS, results, Tryz.results118]
  exact ⟨grown_store _ _, cell_store _ _ _ hc⟩


/-- It returns OK if the function returns. -/
theorem attempt_ok (K : Nat) (caps : Array Value) (w : World) (R : World → Prop) (hK : ∀ args w, (callFunc K args).run Tryz.prog w = .ok (.enter K args) w)
    (hc : Calls Tryz.prog K caps (w.alloc (.cells #[.int .i64 0] 28)) fun e w1 => (∃ v, e = .returned v) ∧ w1.cell? ⟨w.heap.size, 0, none⟩ = some (.int .i64 0) ∧ w1.frozen? ⟨w.heap.size, 0, none⟩ = false ∧ R w1) :
    Calls Tryz.prog 74 #[.func (.func K) #[] caps] w fun e w' => e = .returned (.int .i64 0) ∧ ∃ w1, R w1 ∧ w1.grownBy w' (some w.heap.size) := by
  have hmf := makeFunc_run
  have Hc := Lib.hid hc; clear hc
  go_enter_defers Tryz.func74, Tryz.ntmps74
  go_wp2_with fail
  refine Hc.out.mono ?_
  rintro e w1 ⟨⟨v, rfl⟩, hb, hf, hR⟩
  have HR := Lib.hid hR; clear hR
  go_wp2
  refine leaves_cons (f := 118) (args := #[.pointer (some ⟨w.heap.size, 0, none⟩)]) (by simp) (by simp [go_sem]) ?_
  refine (catch_idle ⟨w.heap.size, 0, none⟩ _).mono ?_
  rintro e u' w'' ⟨rfl, rfl, rfl⟩
  simp only [Leaves, settle, results, Tryz.results74]
  have hx : (w1.setCell ⟨w.heap.size, 0, none⟩ (.int .i64 0)).cell? ⟨w.heap.size, 0, none⟩ = some (.int .i64 0) := World.cell?_setCell_same' _ _ _ (by rw [hb]; rfl)
  simp only [go_sem]
  exact ⟨_, by simp [go_sem, hx], rfl, w1, HR.out, grown_set _⟩

/-- It returns ErrRule if the function gives up with a clash. -/
theorem attempt_clash (K : Nat) (caps : Array Value) (w : World) (R : World → Prop) (hK : ∀ args w, (callFunc K args).run Tryz.prog w = .ok (.enter K args) w)
    (hc : Calls Tryz.prog K caps (w.alloc (.cells #[.int .i64 0] 28)) fun e w1 => (∃ i, e = .panicked [{ v := .iface 125 (.agg #[.int .i64 i]), recovered := false }]) ∧ w1.cell? ⟨w.heap.size, 0, none⟩ = some (.int .i64 0) ∧ w1.frozen? ⟨w.heap.size, 0, none⟩ = false ∧ R w1) :
    Calls Tryz.prog 74 #[.func (.func K) #[] caps] w fun e w' => e = .returned (.int .i64 7) ∧ ∃ w1, R w1 ∧ w1.grownBy w' (some w.heap.size) := by
  have hmf := makeFunc_run
  have Hc := Lib.hid hc; clear hc
  go_enter_defers Tryz.func74, Tryz.ntmps74
  go_wp2_with fail
  refine Hc.out.mono ?_
  rintro e w1 ⟨⟨i, rfl⟩, hb, hf, hR⟩
  have HR := Lib.hid hR; clear hR
  refine leaves_cons (f := 118) (args := #[.pointer (some ⟨w.heap.size, 0, none⟩)]) (by simp) (by simp [go_sem]) ?_
  refine (catch_clash w.heap.size i _ _ hb hf).mono ?_
  rintro e u' w'' ⟨rfl, rfl, hg, hc7⟩
  exact ⟨_, by simp [results, Tryz.results74, go_sem, hc7], rfl, w1, HR.out, hg⟩

/-- It returns ErrText if the function gives up with a string that is no text. -/
theorem attempt_text (K : Nat) (caps : Array Value) (w : World) (R : World → Prop) (hK : ∀ args w, (callFunc K args).run Tryz.prog w = .ok (.enter K args) w)
    (hc : Calls Tryz.prog K caps (w.alloc (.cells #[.int .i64 0] 28)) fun e w1 => (∃ s, e = .panicked [{ v := .iface 127 (.agg #[.string s]), recovered := false }]) ∧ w1.cell? ⟨w.heap.size, 0, none⟩ = some (.int .i64 0) ∧ w1.frozen? ⟨w.heap.size, 0, none⟩ = false ∧ R w1) :
    Calls Tryz.prog 74 #[.func (.func K) #[] caps] w fun e w' => e = .returned (.int .i64 4) ∧ ∃ w1, R w1 ∧ w1.grownBy w' (some w.heap.size) := by
  have hmf := makeFunc_run
  have Hc := Lib.hid hc; clear hc
  go_enter_defers Tryz.func74, Tryz.ntmps74
  go_wp2_with fail
  refine Hc.out.mono ?_
  rintro e w1 ⟨⟨s, rfl⟩, hb, hf, hR⟩
  have HR := Lib.hid hR; clear hR
  refine leaves_cons (f := 118) (args := #[.pointer (some ⟨w.heap.size, 0, none⟩)]) (by simp) (by simp [go_sem]) ?_
  refine (catch_text w.heap.size s _ _ hb hf).mono ?_
  rintro e u' w'' ⟨rfl, rfl, hg, hc4⟩
  exact ⟨_, by simp [results, Tryz.results74, go_sem, hc4], rfl, w1, HR.out, hg⟩

end Go.Proofs.YtiehfpkcaoeieaaGreatDoor
