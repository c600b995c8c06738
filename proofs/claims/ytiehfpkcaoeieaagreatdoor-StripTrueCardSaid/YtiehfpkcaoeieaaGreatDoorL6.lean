/- StripTrue answers true. No condition. -/
import Derived.Test.YtiehfpkcaoeieaaGreatDoorTrue2
import Derived.Test.YtiehfpkcaoeieaaGreatDoorTrue3
set_option linter.unusedVariables false
set_option linter.unusedSimpArgs false
namespace Go.Proofs.YtiehfpkcaoeieaaGreatDoor
open Go.RowKit Go.My Go.StripM

set_option maxRecDepth 100000 in
set_option maxHeartbeats 4000000 in
theorem law6b {n : Nat} {ss : List (List Nat)} {oa : Option Addr} {cap : Nat} {p : List Nat} {ob : Option Addr} {cb a b : Nat} {w : World} (g : Good n ss) (hp : isOrd n p) (h : RowsAt w oa (upp ss)) (ho : IntsAt w ob (up p)) (hl : (upp ss).length ≤ 9223372036854775807) (hcap : ss.length ≤ cap) (hoa : oa = none → cap = 0) (hpl : p.length ≤ cb)
    (hlen : ¬ (8 : Int) < (p.length : Int)) (hs : shortB (upp ss) = true) (ha : a < n) (hb : b < n) (hne : a ≠ b) (m : Int) (hm : w.cell? ⟨1, 0, none⟩ = some (.int .i64 m)) :
    Calls Tryz.prog 6 #[.agg #[.int .i64 n, .slice oa ss.length cap], .slice ob p.length cb, .int .i64 a, .int .i64 b] w fun e w' => e = .returned (.bool true) ∧ Ext w w' := by
  have hn := board_small g.isB
  have hr : (shortB (upp ss) && boardB n (upp ss)) = true := by rw [hs, g.isB]; rfl
  have hpl2 : p.length ≤ 1000 := by rw [hp.1]; have := g.le; omega
  have hia : ∀ x, x < n → inB (x : Int) 0 ((n : Int) - 1) = true := fun x hx => by simp only [inB, Bool.and_eq_true, decide_eq_true_eq]; omega
  have hx : ∀ x, x < n → ∀ W, Ext w W → Calls Tryz.prog 39 #[.slice ob p.length cb, .int .i64 x] W fun r w' => r = .returned (.int .i64 (p.idxOf x : Nat)) ∧ W = w' := fun x hx W hW => by
    have := place_any (up p) ob cb x W (ho.ext hW) (by rw [up_length]; omega)
    rw [up_length, index_in (ord_mem hp hx)] at this
    exact this
  have r29 := fun (W : World) (hW : Bx n ss oa cap w W) => right_any n (upp ss) oa cap W hW.rows hl
  have r30 := fun (W : World) (hW : Bx n ss oa cap w W) (v : Value) => rOrder_any n v (up p) ob cb W hn.1 hn.2 (ho.ext hW.ext) (by rw [up_length]; omega) (by rw [up_length]; exact hpl)
  simp only [upp_length, hr] at r29
  simp only [up_length, order_of hp] at r30
  have r35 : ∀ x, x < n → ∀ W, ∀ v, Calls Tryz.prog 35 #[.agg #[.int .i64 n, v], .int .i64 x] W fun e w' => e = .returned (.bool true) ∧ Ext W w' := fun x hx W v => by
    have := rName_any n x v W hn.1 hn.2
    rw [hia x hx] at this
    exact this
  have r31 := fun (W : World) (hW : Bx n ss oa cap w W) => agrees2_any n ss oa cap p ob cb W hW.rows g (ho.ext hW.ext) hpl hp
  have rk := fun (W : World) (hW : Bx n ss oa cap w W) => known_any W m (cell_ext hW.ext hm)
  have hneI : ((a : Int) == (b : Int)) = false := by simpa using (by omega : ¬ (a : Int) = (b : Int))
  cases hc : cyc n ss
  · have hc0 : cnt n ss ≠ 0 := fun e => by rw [cnt_zero g.valid, hc] at e; cases e
    have h2 := cnt_two g.valid ha hb hne
    have hX := word_in (cnt n (ss ++ [[a, b]])) (cnt n ss)
    have hla := place_span g.valid hc ha
    have hlb := place_span g.valid hc hb
    have N : TrueNums n (wordI (cnt n (ss ++ [[a, b]])) (cnt n ss)) (wordI (cnt n (ss ++ [[b, a]])) (cnt n ss)) (befores (tab n ss) a n : Nat) (befores (tab n ss) b n : Nat) ((n : Int) - 1 - (behinds (tab n ss) a n : Nat)) ((n : Int) - 1 - (behinds (tab n ss) b n : Nat)) := by
      refine ⟨word_two h2 hc0, by omega, by omega, by omega, by omega, by omega, by omega, fun h3 => ?_, fun h1 => ?_⟩
      · have := sure_places g.valid hc ha hb hne ((word_sure hc0).1 h3)
        omega
      · have h0 := (word_never _ _).1 h1
        have := sure_places g.valid hc hb ha (Ne.symm hne) (by omega)
        omega
    have C : ∀ is, okOrd ss p = is → TrueCalls n ss oa cap p ob cb a b w is 0 (wordI (cnt n (ss ++ [[a, b]])) (cnt n ss)) (wordI (cnt n (ss ++ [[b, a]])) (cnt n ss)) (befores (tab n ss) a n : Nat) (befores (tab n ss) b n : Nat) ((n : Int) - 1 - (behinds (tab n ss) a n : Nat)) ((n : Int) - 1 - (behinds (tab n ss) b n : Nat)) := fun is his =>
      { r29 := r29, r30 := r30, r35a := fun W _ v => r35 a ha W v, r35b := fun W _ v => r35 b hb W v, r31 := fun W hW => by have := r31 W hW; rw [his] at this; exact this
        rab := fun W hW => before_any n ss oa cap a b W hW.rows g hoa hcap ha hb hne hc0
        rba := fun W hW => before_any n ss oa cap b a W hW.rows g hoa hcap hb ha (Ne.symm hne) hc0
        ra := fun W hW => places_any n ss oa cap a W hW.rows g ha hc0
        rb := fun W hW => places_any n ss oa cap b W hW.rows g hb hc0
        rpa := hx a ha, rpb := hx b hb, rk := rk }
    cases hk : okOrd ss p
    · exact true_not h (C false hk) hlen hneI N (by omega) g.le
    · have ho := mem_all.2 ⟨hp, hk⟩
      have hpi := place_in g.valid ha ho
      refine true_is h (C true hk) hlen hneI N (by omega) g.le (by omega) (fun h3 => sure_all g.valid ha hb hne ((word_sure hc0).1 h3) ho) (fun h1 => ?_)
      have h0 := (word_never _ _).1 h1
      exact sure_all g.valid hb ha (Ne.symm hne) (by omega) ho
  · have hc0 : cnt n ss = 0 := (cnt_zero g.valid).2 hc
    have hk : okOrd ss p = false := by
      cases hk : okOrd ss p
      · rfl
      · have hm := mem_all.2 ⟨hp, hk⟩
        rw [all_cyc g.valid hc] at hm
        cases hm
    exact true_none h { r29 := r29, r30 := r30, r35a := fun W _ v => r35 a ha W v, r35b := fun W _ v => r35 b hb W v, r31 := fun W hW => by have := r31 W hW; rw [hk] at this; exact this
                        rab := fun W hW => before_none n ss oa cap a b W hW.rows g hoa ha hb hne hc0
                        rba := fun W hW => before_none n ss oa cap b a W hW.rows g hoa hb ha (Ne.symm hne) hc0
                        ra := fun W hW => places_none n ss oa cap a W hW.rows g ha hc0
                        rb := fun W hW => places_none n ss oa cap b W hW.rows g hb hc0
                        rpa := hx a ha, rpb := hx b hb, rk := rk } hlen hneI

set_option maxRecDepth 100000 in
set_option maxHeartbeats 4000000 in
theorem law6 {n : Int} {ls : List (List Int)} {oa : Option Addr} {cap : Nat} {o : List Int} {ob : Option Addr} {cb : Nat} {x y : Int} {w : World} (h : BArg w ls oa cap) (ho : LArg w o ob cb) (hx1 : -9223372036854775808 ≤ x) (hx2 : x ≤ 9223372036854775807) (hy1 : -9223372036854775808 ≤ y) (hy2 : y ≤ 9223372036854775807)
    (m : Int) (hm : w.cell? ⟨1, 0, none⟩ = some (.int .i64 m)) :
    Calls Tryz.prog 6 #[.agg #[.int .i64 n, .slice oa ls.length cap], .slice ob o.length cb, .int .i64 x, .int .i64 y] w fun e w' => e = .returned (.bool true) ∧ Ext w w' := by
  have hl := h.small
  have hlo := ho.small
  have hcb := ho.le
  have Hm := Lib.hid hm
  have Ho := Lib.hid ho.ints
  have B := Lib.hid (BxI.start (n := n) (cap := cap) h.rows)
  cases hr : shortB ls && boardB n ls
  · clear h ho hm hlo hcb
    go_enter Tryz.func6, Tryz.ntmps6
    go_wp2_with (first | (go_at_call 29; refine (B.out.right hl).mono ?_; rw [hr]; rintro e w9 ⟨rfl, hE9⟩; replace B := Lib.hid (B.out.next hE9); (try clear c0 c1); have c0 := B.out.c0; have c1 := B.out.c1; clear hE9) | (go_at_call 23; refine (B.out.known Hm.out).mono ?_; rintro e w9 ⟨rfl, hE9⟩; replace B := Lib.hid (B.out.next hE9); (try clear c0 c1); have c0 := B.out.c0; have c1 := B.out.c1; clear hE9))
    go_ret
    exact ⟨rfl, B.out.ext⟩
  · by_cases hlen : (8 : Int) < (o.length : Int)
    · clear h ho hm hlo hcb
      go_enter Tryz.func6, Tryz.ntmps6
      go_wp2_with (first | (go_at_call 29; refine (B.out.right hl).mono ?_; rw [hr]; rintro e w9 ⟨rfl, hE9⟩; replace B := Lib.hid (B.out.next hE9); (try clear c0 c1); have c0 := B.out.c0; have c1 := B.out.c1; clear hE9) | (go_at_call 23; refine (B.out.known Hm.out).mono ?_; rintro e w9 ⟨rfl, hE9⟩; replace B := Lib.hid (B.out.next hE9); (try clear c0 c1); have c0 := B.out.c0; have c1 := B.out.c1; clear hE9))
      go_ret
      exact ⟨rfl, B.out.ext⟩
    · have hr2 := hr
      rw [Bool.and_eq_true] at hr2
      have hn := board_small hr2.2
      have R30 := Lib.hid (fun (W : World) (hW : BxI n ls oa cap w W) (v : Value) => rOrder_any n v o ob cb W hn.1 hn.2 (Ho.out.ext hW.ext) hlo hcb)
      cases hob : orderB n o
      · simp only [hob] at R30
        clear h ho hm hlo hcb hn hr2
        go_enter Tryz.func6, Tryz.ntmps6
        go_wp2_with (first | (go_at_call 29; refine (B.out.right hl).mono ?_; rw [hr]; rintro e w9 ⟨rfl, hE9⟩; replace B := Lib.hid (B.out.next hE9); (try clear c0 c1); have c0 := B.out.c0; have c1 := B.out.c1; clear hE9) | (go_at_call 30; refine (R30.out _ B.out _).mono ?_; rintro e w9 ⟨rfl, hE9⟩; replace B := Lib.hid (B.out.next hE9); (try clear c0 c1); have c0 := B.out.c0; have c1 := B.out.c1; clear hE9) | (go_at_call 23; refine (B.out.known Hm.out).mono ?_; rintro e w9 ⟨rfl, hE9⟩; replace B := Lib.hid (B.out.next hE9); (try clear c0 c1); have c0 := B.out.c0; have c1 := B.out.c1; clear hE9))
        go_ret
        exact ⟨rfl, B.out.ext⟩
      · simp only [hob] at R30
        have R35 := Lib.hid (fun (W : World) (z : Int) (v : Value) => rName_any n z v W hn.1 hn.2)
        cases hx : inB x 0 (n - 1)
        · clear h ho hm hlo hcb hn hr2
          go_enter Tryz.func6, Tryz.ntmps6
          go_wp2_with (first | (go_at_call 29; refine (B.out.right hl).mono ?_; rw [hr]; rintro e w9 ⟨rfl, hE9⟩; replace B := Lib.hid (B.out.next hE9); (try clear c0 c1); have c0 := B.out.c0; have c1 := B.out.c1; clear hE9) | (go_at_call 30; refine (R30.out _ B.out _).mono ?_; rintro e w9 ⟨rfl, hE9⟩; replace B := Lib.hid (B.out.next hE9); (try clear c0 c1); have c0 := B.out.c0; have c1 := B.out.c1; clear hE9) | (go_at_call 35; refine (R35.out _ x _).mono ?_; rw [hx]; rintro e w9 ⟨rfl, hE9⟩; replace B := Lib.hid (B.out.next hE9); (try clear c0 c1); have c0 := B.out.c0; have c1 := B.out.c1; clear hE9) | (go_at_call 23; refine (B.out.known Hm.out).mono ?_; rintro e w9 ⟨rfl, hE9⟩; replace B := Lib.hid (B.out.next hE9); (try clear c0 c1); have c0 := B.out.c0; have c1 := B.out.c1; clear hE9))
          go_ret
          exact ⟨rfl, B.out.ext⟩
        · cases hy : inB y 0 (n - 1)
          · have T35 := Lib.hid trivial
            clear h ho hm hlo hcb hn hr2
            go_enter Tryz.func6, Tryz.ntmps6
            go_wp2_with (first | (go_at_call 29; refine (B.out.right hl).mono ?_; rw [hr]; rintro e w9 ⟨rfl, hE9⟩; replace B := Lib.hid (B.out.next hE9); (try clear c0 c1); have c0 := B.out.c0; have c1 := B.out.c1; clear hE9) | (go_at_call 30; refine (R30.out _ B.out _).mono ?_; rintro e w9 ⟨rfl, hE9⟩; replace B := Lib.hid (B.out.next hE9); (try clear c0 c1); have c0 := B.out.c0; have c1 := B.out.c1; clear hE9) | (go_at_call 35; have t0 := T35; clear t0 T35; refine (R35.out _ x _).mono ?_; rw [hx]; rintro e w9 ⟨rfl, hE9⟩; replace B := Lib.hid (B.out.next hE9); (try clear c0 c1); have c0 := B.out.c0; have c1 := B.out.c1; clear hE9) | (go_at_call 35; refine (R35.out _ y _).mono ?_; rw [hy]; rintro e w9 ⟨rfl, hE9⟩; replace B := Lib.hid (B.out.next hE9); (try clear c0 c1); have c0 := B.out.c0; have c1 := B.out.c1; clear hE9) | (go_at_call 23; refine (B.out.known Hm.out).mono ?_; rintro e w9 ⟨rfl, hE9⟩; replace B := Lib.hid (B.out.next hE9); (try clear c0 c1); have c0 := B.out.c0; have c1 := B.out.c1; clear hE9))
            go_ret
            exact ⟨rfl, B.out.ext⟩
          · by_cases hxy : x = y
            · have hxb : (x == y) = true := by simp [hxy]
              have T35 := Lib.hid trivial
              subst hxy
              clear h ho hm hlo hcb hn hr2
              go_enter Tryz.func6, Tryz.ntmps6
              go_wp2_with (first | (go_at_call 29; refine (B.out.right hl).mono ?_; rw [hr]; rintro e w9 ⟨rfl, hE9⟩; replace B := Lib.hid (B.out.next hE9); (try clear c0 c1); have c0 := B.out.c0; have c1 := B.out.c1; clear hE9) | (go_at_call 30; refine (R30.out _ B.out _).mono ?_; rintro e w9 ⟨rfl, hE9⟩; replace B := Lib.hid (B.out.next hE9); (try clear c0 c1); have c0 := B.out.c0; have c1 := B.out.c1; clear hE9) | (go_at_call 35; have t0 := T35; clear t0 T35; refine (R35.out _ x _).mono ?_; rw [hx]; rintro e w9 ⟨rfl, hE9⟩; replace B := Lib.hid (B.out.next hE9); (try clear c0 c1); have c0 := B.out.c0; have c1 := B.out.c1; clear hE9) | (go_at_call 35; refine (R35.out _ x _).mono ?_; rw [hx]; rintro e w9 ⟨rfl, hE9⟩; replace B := Lib.hid (B.out.next hE9); (try clear c0 c1); have c0 := B.out.c0; have c1 := B.out.c1; clear hE9) | (go_at_call 23; refine (B.out.known Hm.out).mono ?_; rintro e w9 ⟨rfl, hE9⟩; replace B := Lib.hid (B.out.next hE9); (try clear c0 c1); have c0 := B.out.c0; have c1 := B.out.c1; clear hE9))
              go_ret
              exact ⟨rfl, B.out.ext⟩
            · obtain ⟨n, ss, rfl, rfl, g⟩ := board_lift hr2.2
              obtain ⟨p, rfl, hp⟩ := order_lift hob
              obtain ⟨a, rfl, ha⟩ := name_lift hx
              obtain ⟨b, rfl, hb⟩ := name_lift hy
              have hcap := h.le
              rw [up_length] at hlen hcb
              rw [upp_length] at hcap
              rw [upp_length, up_length]
              exact law6b g hp h.rows Ho.out hl hcap h.none hcb hlen hr2.1 ha hb (fun e => hxy (by rw [e])) m Hm.out

end Go.Proofs.YtiehfpkcaoeieaaGreatDoor
