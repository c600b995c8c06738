/- Contracts of the reference: Can, Adds, firsts, Before. No condition beyond boards as defined. -/
import Derived.Test.YtiehfpkcaoeieaaGreatDoorRefLev
set_option linter.unusedVariables false
set_option linter.unusedSimpArgs false
namespace Go.Proofs.YtiehfpkcaoeieaaGreatDoor
open Go.RowKit Go.My Go.StripM

theorem can_r (n : Nat) (ss : List (List Nat)) (oa : Option Addr) (cap : Nat) (w : World) (h : RowsAt w oa (upp ss)) (hn6 : n ≤ 6) (hl6 : ss.length ≤ 6) (hs6 : ∀ s ∈ ss, s.length ≤ 5) (hv : Valid n ss) :
    Calls Tryz.prog 36 #[.agg #[.int .i64 n, .slice oa ss.length cap]] w fun e w' => e = .returned (.bool (!cyc n ss)) ∧ Ext w w' := by
  have hE1 := (Ext.refl w).alloc (.cells #[.int .i64 n, .slice oa ss.length cap] 24)
  have hlev := levels_r n ss oa cap _ (h.ext hE1) hn6 hl6 hs6 (fun s hs x hx => (hv s hs).2 x hx)
  cases hc : cyc n ss
  · obtain ⟨l, hl, _⟩ := levels_some hv hc
    rw [hl] at hlev
    have Hlev := Lib.hid hlev
    clear hlev hl h hc
    go_enter Tryz.func36, Tryz.ntmps36
    go_wp2_with (first | (go_at_call 88; refine Hlev.out.mono ?_; rintro e w1 ⟨⟨rfl, _, _⟩, hE2⟩))
    go_ret
    exact ⟨rfl, hE1.trans hE2⟩
  · rw [levels_none hv hc] at hlev
    have Hlev := Lib.hid hlev
    clear hlev h hc
    go_enter Tryz.func36, Tryz.ntmps36
    go_wp2_with (first | (go_at_call 88; refine Hlev.out.mono ?_; rintro e w1 ⟨hpost, hE2⟩; obtain rfl : e = .returned (.tuple #[.slice none 0 0, .bool false]) := hpost))
    go_ret
    exact ⟨rfl, hE1.trans hE2⟩
theorem Good.spots5 {n : Nat} {ss : List (List Nat)} (g : Good n ss) : ∀ s ∈ ss, s.length ≤ 5 := by
  intro s hs
  have hb := g.isB
  simp only [boardB, Bool.and_eq_true] at hb
  have h2 := List.all_eq_true.1 hb.2 (up s) (List.mem_map.2 ⟨s, hs, rfl⟩)
  simp only [spotB, inB, Bool.and_eq_true, decide_eq_true_eq, up_length] at h2
  have := h2.1
  omega
theorem can_good (n : Nat) (ss : List (List Nat)) (oa : Option Addr) (cap : Nat) (w : World) (h : RowsAt w oa (upp ss)) (g : Good n ss) :
    Calls Tryz.prog 36 #[.agg #[.int .i64 n, .slice oa ss.length cap]] w fun e w' => e = .returned (.bool (!cyc n ss)) ∧ Ext w w' :=
  can_r n ss oa cap w h g.le g.len g.spots5 g.valid

theorem all_cnt (n : Nat) (ss : List (List Nat)) (oa : Option Addr) (cap : Nat) (w : World) (h : RowsAt w oa (upp ss)) (g : Good n ss) :
    Calls Tryz.prog 27 #[.agg #[.int .i64 n, .slice oa ss.length cap]] w fun e w' => (∃ ol cl, e = .returned (.slice ol (cnt n ss) cl) ∧ cnt n ss ≤ cl ∧ RowsAt w' ol (upp (all n ss))) ∧ Ext w w' :=
  (all_r n ss oa cap w h g).mono fun e w' ⟨v, h1, ⟨ol, cl, h2, h3, _, _, h6⟩, h7⟩ => by
    rw [upp_length, ← cnt_all g.valid] at h2 h3
    exact ⟨⟨ol, cl, by rw [h1, h2], h3, h6⟩, h7⟩

/-- In how many of the first k lists something is so. -/
def manyOf (p : List Nat → Bool) (L : List (List Nat)) (k : Nat) : Nat := ((L.take k).filter p).length
theorem manyOf_succ {p : List Nat → Bool} {L : List (List Nat)} {k : Nat} {o : List Nat} (h : L[k]? = some o) : manyOf p L (k + 1) = manyOf p L k + if p o = true then 1 else 0 := by
  obtain ⟨hk, rfl⟩ := List.getElem?_eq_some_iff.1 h
  rw [manyOf, List.take_succ_eq_append_getElem hk, List.filter_append, List.length_append, manyOf]
  congr 1
  cases he : p L[k] <;> simp [List.filter_cons, he]
theorem manyOf_le (p : List Nat → Bool) (L : List (List Nat)) (k : Nat) : manyOf p L k ≤ k := by
  refine Nat.le_trans (List.length_filter_le _ _) ?_
  rw [List.length_take]; exact Nat.min_le_left _ _
theorem manyOf_all {p : List Nat → Bool} {L : List (List Nat)} {k : Nat} (h : L.length ≤ k) : manyOf p L k = (L.filter p).length := by rw [manyOf, List.take_of_length_le h]

set_option maxRecDepth 100000 in
set_option maxHeartbeats 2000000 in
theorem adds_r (n : Nat) (ss : List (List Nat)) (oa : Option Addr) (cap : Nat) (l : List Nat) (ob : Option Addr) (cb : Nat) (w : World) (h : RowsAt w oa (upp ss)) (g : Good n ss) (hs : IntsAt w ob (up l)) (gl : GoodSpot n l) (hcb : l.length ≤ cb) :
    Calls Tryz.prog 42 #[.agg #[.int .i64 n, .slice oa ss.length cap], .slice ob l.length cb] w fun e w' => e = .returned (.int .i64 (wordI (cnt n (ss ++ [l])) (cnt n ss))) ∧ Ext w w' := by
  have hE1 := (Ext.refl w).alloc (.cells #[.int .i64 n, .slice oa ss.length cap] 24)
  have ha := all_cnt n ss oa cap _ (h.ext hE1) g
  have hc7 := cnt_720 g.le g.valid
  have hw := cnt_with g.valid gl.ok
  have hca := cnt_all g.valid
  have Ha := Lib.hid ha
  have Hs := Lib.hid hs
  have GL := Lib.hid gl
  have Hw := Lib.hid hw
  have G := Lib.hid g
  have hl5 := gl.len
  obtain ⟨L, hL⟩ : ∃ L, L = all n ss := ⟨_, rfl⟩
  have HL := Lib.hid hL
  rw [← hL] at Ha Hw hca
  have HcL := Lib.hid hca
  clear ha h hs gl hw g hL hca
  generalize cnt n ss = c at *
  go_enter Tryz.func42, Tryz.ntmps42
  go_wp2_with (first | (go_at_call 27; refine Ha.out.mono ?_; rintro e w1 ⟨⟨ol, cl, rfl, hcl, hro⟩, hE2⟩; have Hro := Lib.hid hro; clear hro))
  go_loopg [6, 7] c (fun g v i wr => ∃ k : Nat, k + g = c ∧ i = .int .i64 k ∧ Ext w1 wr ∧ v = .int .i64 (manyOf (fun o => agrees o l) L k : Nat))
  case atStart => exact ⟨0, by simp, rfl, Ext.refl _, rfl⟩
  case round =>
    obtain ⟨k, hk, rfl, hE, rfl⟩ := hrel
    have hml := manyOf_le (fun o => agrees o l) L k
    by_cases hlt : k < c
    · obtain ⟨o, hok⟩ : ∃ o, L[k]? = some o := ⟨L[k]'(by rw [← HcL.out]; exact hlt), by simp⟩
      obtain ⟨b, off, og, cg, hol, _, hcg, hg1, hg2, _, hig⟩ := rows_get (Hro.out.ext hE) hok
      subst hol
      have hord : isOrd n o := (mem_all.1 (by rw [← HL.out]; exact List.mem_of_getElem? hok)).1
      have hol6 : o.length ≤ 6 := by rw [hord.1]; exact G.out.le
      have hag := agrees_any (up o) (up l) og ob cg cb wr hig (Hs.out.ext ((hE1.trans hE2).trans hE)) (by rw [up_length]; omega) (by rw [up_length]; omega)
      rw [up_length, up_length, agrees_up (fun x hx => ord_mem hord (GL.out.ok.2 x hx))] at hag
      have hst := manyOf_succ (p := fun o => agrees o l) hok
      have Hag := Lib.hid hag
      have Hst := Lib.hid hst
      clear hag hst hig hok hord
      cases hb : agrees o l
      · rw [hb] at Hag
        simp only [hb, Bool.false_eq_true, if_false, Nat.add_zero] at Hst
        clear hb
        generalize manyOf (fun o => agrees o l) L k = M at *
        go_wp2_with (first | (go_at_call 92; refine Hag.out.mono ?_; rintro e w2 ⟨rfl, hE3⟩))
        go_roundg (gk - 1)
        case measure => omega
        case rel => exact ⟨k + 1, by omega, by go_num, hE.trans hE3, by rw [Hst.out]⟩
      · rw [hb] at Hag
        simp only [hb, if_true] at Hst
        clear hb
        generalize manyOf (fun o => agrees o l) L k = M at *
        go_wp2_with (first | (go_at_call 92; refine Hag.out.mono ?_; rintro e w2 ⟨rfl, hE3⟩))
        go_roundg (gk - 1)
        case measure => omega
        case rel => exact ⟨k + 1, by omega, by go_num, hE.trans hE3, by rw [Hst.out]; rfl⟩
    · have hfin : manyOf (fun o => agrees o l) L k = cnt n (ss ++ [l]) := by rw [Hw.out, manyOf_all (by rw [← HcL.out]; omega)]
      have Hfin := Lib.hid hfin
      clear hfin
      generalize manyOf (fun o => agrees o l) L k = M at *
      go_wp2_with (first | (go_at_call 89; refine (rword_any M c _).mono ?_; rintro e w2 ⟨rfl, rfl⟩))
      go_ret
      exact ⟨ret_int (by rw [Hfin.out]), (hE1.trans hE2).trans hE⟩

end Go.Proofs.YtiehfpkcaoeieaaGreatDoor
