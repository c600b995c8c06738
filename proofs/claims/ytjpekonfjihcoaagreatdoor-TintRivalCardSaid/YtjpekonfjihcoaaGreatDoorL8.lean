/- The walk of TintRival: it answers true. No condition. -/
import Derived.Test.YtjpekonfjihcoaaGreatDoorM33
import Derived.Test.YtjpekonfjihcoaaGreatDoorLRight
import Derived.Test.YtjpekonfjihcoaaGreatDoorM39
import Derived.Test.YtjpekonfjihcoaaGreatDoorM8
import Derived.Test.YtjpekonfjihcoaaGreatDoorM27
import Derived.Test.YtjpekonfjihcoaaGreatDoorM25
namespace Go.TintM
end Go.TintM
set_option maxRecDepth 100000
set_option maxHeartbeats 64000000
set_option linter.unusedVariables false
set_option linter.unusedSimpArgs false
namespace Go.Proofs.YtjpekonfjihcoaaGreatDoor
open Go.RowKit Go.My Go.TintM

theorem find_not {α : Type} {P : α → Bool} {L : List α} {x : α} (h : L.find? P = none) (hx : x ∈ L) : P x = false := by
 have := List.find?_eq_none.1 h x hx
 simpa using this
theorem count_494 {s : Sh} (g : Fine s) : countOf s ≤ 494 :=
 Nat.le_trans (List.length_filter_le _ _) (allMix_len ⟨s.tins.length, by have := g.len2; omega⟩ g.len1).1
theorem not_soon {a b : List Nat} (h : ¬ sooner a b) : soonB a b = false := by
 cases hq : soonB a b with
 | false => rfl
 | true => exact absurd (soon_iff.1 hq) h

theorem law8_a {s : Sh} (g : Fine s) {m : List Nat} (hm : IsMix s m) (hy : (allMix s.tins.length).find? (mayOf s) = none) (hf : (allMix s.tins.length).find? (surely s) = none) {ot ol : Option Addr} {cap cl : Nat} {w : World} (h : TinsAt w ot (ofSh s).tins) (hi : IntsAt w ol (upL m)) (k : Int) (hk : w.cell? ⟨1, 0, none⟩ = some (.int .i64 k)) :
  Calls Tryz.prog 8 #[sheetV (ofSh s) ot cap, .slice ol m.length cl] w fun e w' => e = .returned (.bool true) ∧ Ext w w' := by
 have B := Lib.hid (LB.start (cap := cap) h)
 have R32 := Lib.hid (fun W (hW : LB (ofSh s) ot cap w W) => right_up g hm ot cap ol cl W hW.tins (hi.ext hW.ext))
 have Rk := Lib.hid (fun (W : World) (hW : LB (ofSh s) ot cap w W) => known_any W k (cell_ext hW.ext hk))
 have R40 := Lib.hid (fun W (hW : LB (ofSh s) ot cap w W) => sCount_any s g ot cap W hW.tins)
 have R45m := Lib.hid (fun W (hW : LB (ofSh s) ot cap w W) => word45 s g m hm ot cap ol cl W hW.tins (hi.ext hW.ext))
 have R45 := Lib.hid (fun x (hx : IsMix s x) W o c (hW : LB (ofSh s) ot cap w W) (hi : IntsAt W o (upL x)) => word45 s g x hx ot cap o c W hW.tins hi)
 have R25 := Lib.hid (fun x (hx : IsMix s x) W o c (hW : LB (ofSh s) ot cap w W) (hi : IntsAt W o (upL x)) => rmix_up g hx ot cap o c W hi)
 have R46m := Lib.hid (fun x (hx : IsMix s x) W o c (hW : LB (ofSh s) ot cap w W) (hj : IntsAt W o (upL x)) => soon_up g hm hx ol o cl c W (hi.ext hW.ext) hj)
 have R46 := Lib.hid (fun x y (hx : IsMix s x) (hy : IsMix s y) W o c o2 c2 (hj : IntsAt W o (upL x)) (hj2 : IntsAt W o2 (upL y)) => soon_up g hx hy o o2 c c2 W hj hj2)
 have R43 := Lib.hid (fun x (hx : IsMix s x) W o c (hW : LB (ofSh s) ot cap w W) (hj : IntsAt W o (upL x)) => tsame_up m x ol o cl c W (hi.ext hW.ext) hj (by have := hm.len; have := g.len2; omega) (by have := hx.len; have := g.len2; omega))
 have hmem := (mem_allMix g).2 hm
 have hc494 := count_494 g
 have hfn := @first_none s
 have hc1 : ∀ x, (allMix s.tins.length).find? (surely s) = some x → m ≠ x → surely s m = true → 1 < countOf s := fun x hx hne hs => ((first_rival g hx hm hs).2).resolve_left hne
 have hin := word_in s m
 have hw3 := @word_surely s m
 have Q38 := Lib.hid (fun W (hW : LB (ofSh s) ot cap w W) => (sFirst_any s g ot cap W hW.tins).mono fun e w' hp => found_s0 hf hp)
 have Q39 := Lib.hid (fun W (hW : LB (ofSh s) ot cap w W) => (sMay_any s g ot cap W hW.tins).mono fun e w' hp => found_s0 hy hp)
 have hq : wordOf s m = 1 := by simpa [mayOf] using find_not hy hmem
 have hc : countOf s = 0 := hfn.1 hf
 rw [hq] at R45m
 simp only [hc] at R40
 clear hf hy hq hc
 clear g hm h hi hk hmem hc494 hfn hc1 hin hw3
 have T1 := Lib.hid trivial
 go_enter Tryz.func8, Tryz.ntmps8
 go_wp2_with (first | (go_at_call 32; refine (R32.out _ B.out).mono ?_; rintro e w9 ⟨rfl, hE9⟩; replace B := Lib.hid (B.out.next hE9); (try clear c0 c1 c2 c3 c4 c5 c6 c7 c8 c9 c10 c11 c12); have c0 := B.out.box 0 _ rfl; have c1 := B.out.box 1 _ rfl; have c2 := B.out.box 2 _ rfl; have c3 := B.out.box 3 _ rfl; have c4 := B.out.box 4 _ rfl; have c5 := B.out.box 5 _ rfl; have c6 := B.out.box 6 _ rfl; have c7 := B.out.box 7 _ rfl; have c8 := B.out.box 8 _ rfl; have c9 := B.out.box 9 _ rfl; have c10 := B.out.box 10 _ rfl; have c11 := B.out.box 11 _ rfl; have c12 := B.out.box 12 _ rfl; clear hE9) | (go_at_call 38; refine (Q38.out _ B.out).mono ?_; rintro e w9 ⟨rfl, hE9⟩; replace B := Lib.hid (B.out.next hE9); (try clear c0 c1 c2 c3 c4 c5 c6 c7 c8 c9 c10 c11 c12); have c0 := B.out.box 0 _ rfl; have c1 := B.out.box 1 _ rfl; have c2 := B.out.box 2 _ rfl; have c3 := B.out.box 3 _ rfl; have c4 := B.out.box 4 _ rfl; have c5 := B.out.box 5 _ rfl; have c6 := B.out.box 6 _ rfl; have c7 := B.out.box 7 _ rfl; have c8 := B.out.box 8 _ rfl; have c9 := B.out.box 9 _ rfl; have c10 := B.out.box 10 _ rfl; have c11 := B.out.box 11 _ rfl; have c12 := B.out.box 12 _ rfl; clear hE9) | (go_at_call 39; refine (Q39.out _ B.out).mono ?_; rintro e w9 ⟨rfl, hE9⟩; replace B := Lib.hid (B.out.next hE9); (try clear c0 c1 c2 c3 c4 c5 c6 c7 c8 c9 c10 c11 c12); have c0 := B.out.box 0 _ rfl; have c1 := B.out.box 1 _ rfl; have c2 := B.out.box 2 _ rfl; have c3 := B.out.box 3 _ rfl; have c4 := B.out.box 4 _ rfl; have c5 := B.out.box 5 _ rfl; have c6 := B.out.box 6 _ rfl; have c7 := B.out.box 7 _ rfl; have c8 := B.out.box 8 _ rfl; have c9 := B.out.box 9 _ rfl; have c10 := B.out.box 10 _ rfl; have c11 := B.out.box 11 _ rfl; have c12 := B.out.box 12 _ rfl; clear hE9) | (go_at_call 40; refine (R40.out _ B.out).mono ?_; rintro e w9 ⟨rfl, hE9⟩; replace B := Lib.hid (B.out.next hE9); (try clear c0 c1 c2 c3 c4 c5 c6 c7 c8 c9 c10 c11 c12); have c0 := B.out.box 0 _ rfl; have c1 := B.out.box 1 _ rfl; have c2 := B.out.box 2 _ rfl; have c3 := B.out.box 3 _ rfl; have c4 := B.out.box 4 _ rfl; have c5 := B.out.box 5 _ rfl; have c6 := B.out.box 6 _ rfl; have c7 := B.out.box 7 _ rfl; have c8 := B.out.box 8 _ rfl; have c9 := B.out.box 9 _ rfl; have c10 := B.out.box 10 _ rfl; have c11 := B.out.box 11 _ rfl; have c12 := B.out.box 12 _ rfl; clear hE9) | (go_at_call 45; have t0 := T1; clear t0 T1; refine (R45m.out _ B.out).mono ?_; rintro e w9 ⟨rfl, hE9⟩; replace B := Lib.hid (B.out.next hE9); (try clear c0 c1 c2 c3 c4 c5 c6 c7 c8 c9 c10 c11 c12); have c0 := B.out.box 0 _ rfl; have c1 := B.out.box 1 _ rfl; have c2 := B.out.box 2 _ rfl; have c3 := B.out.box 3 _ rfl; have c4 := B.out.box 4 _ rfl; have c5 := B.out.box 5 _ rfl; have c6 := B.out.box 6 _ rfl; have c7 := B.out.box 7 _ rfl; have c8 := B.out.box 8 _ rfl; have c9 := B.out.box 9 _ rfl; have c10 := B.out.box 10 _ rfl; have c11 := B.out.box 11 _ rfl; have c12 := B.out.box 12 _ rfl; clear hE9) | (go_at_call 22; refine (Rk.out _ B.out).mono ?_; rintro e w9 ⟨rfl, hE9⟩; replace B := Lib.hid (B.out.next hE9); (try clear c0 c1 c2 c3 c4 c5 c6 c7 c8 c9 c10 c11 c12); have c0 := B.out.box 0 _ rfl; have c1 := B.out.box 1 _ rfl; have c2 := B.out.box 2 _ rfl; have c3 := B.out.box 3 _ rfl; have c4 := B.out.box 4 _ rfl; have c5 := B.out.box 5 _ rfl; have c6 := B.out.box 6 _ rfl; have c7 := B.out.box 7 _ rfl; have c8 := B.out.box 8 _ rfl; have c9 := B.out.box 9 _ rfl; have c10 := B.out.box 10 _ rfl; have c11 := B.out.box 11 _ rfl; have c12 := B.out.box 12 _ rfl; clear hE9))
 go_ret
 exact ⟨rfl, B.out.ext⟩

theorem law8_b {s : Sh} (g : Fine s) {m : List Nat} (hm : IsMix s m) {y : List Nat} (hy : (allMix s.tins.length).find? (mayOf s) = some y) (hf : (allMix s.tins.length).find? (surely s) = none) (hq : wordOf s m = 1) {ot ol : Option Addr} {cap cl : Nat} {w : World} (h : TinsAt w ot (ofSh s).tins) (hi : IntsAt w ol (upL m)) (k : Int) (hk : w.cell? ⟨1, 0, none⟩ = some (.int .i64 k)) :
  Calls Tryz.prog 8 #[sheetV (ofSh s) ot cap, .slice ol m.length cl] w fun e w' => e = .returned (.bool true) ∧ Ext w w' := by
 have B := Lib.hid (LB.start (cap := cap) h)
 have R32 := Lib.hid (fun W (hW : LB (ofSh s) ot cap w W) => right_up g hm ot cap ol cl W hW.tins (hi.ext hW.ext))
 have Rk := Lib.hid (fun (W : World) (hW : LB (ofSh s) ot cap w W) => known_any W k (cell_ext hW.ext hk))
 have R40 := Lib.hid (fun W (hW : LB (ofSh s) ot cap w W) => sCount_any s g ot cap W hW.tins)
 have R45m := Lib.hid (fun W (hW : LB (ofSh s) ot cap w W) => word45 s g m hm ot cap ol cl W hW.tins (hi.ext hW.ext))
 have R45 := Lib.hid (fun x (hx : IsMix s x) W o c (hW : LB (ofSh s) ot cap w W) (hi : IntsAt W o (upL x)) => word45 s g x hx ot cap o c W hW.tins hi)
 have R25 := Lib.hid (fun x (hx : IsMix s x) W o c (hW : LB (ofSh s) ot cap w W) (hi : IntsAt W o (upL x)) => rmix_up g hx ot cap o c W hi)
 have R46m := Lib.hid (fun x (hx : IsMix s x) W o c (hW : LB (ofSh s) ot cap w W) (hj : IntsAt W o (upL x)) => soon_up g hm hx ol o cl c W (hi.ext hW.ext) hj)
 have R46 := Lib.hid (fun x y (hx : IsMix s x) (hy : IsMix s y) W o c o2 c2 (hj : IntsAt W o (upL x)) (hj2 : IntsAt W o2 (upL y)) => soon_up g hx hy o o2 c c2 W hj hj2)
 have R43 := Lib.hid (fun x (hx : IsMix s x) W o c (hW : LB (ofSh s) ot cap w W) (hj : IntsAt W o (upL x)) => tsame_up m x ol o cl c W (hi.ext hW.ext) hj (by have := hm.len; have := g.len2; omega) (by have := hx.len; have := g.len2; omega))
 have hmem := (mem_allMix g).2 hm
 have hc494 := count_494 g
 have hfn := @first_none s
 have hc1 : ∀ x, (allMix s.tins.length).find? (surely s) = some x → m ≠ x → surely s m = true → 1 < countOf s := fun x hx hne hs => ((first_rival g hx hm hs).2).resolve_left hne
 have hin := word_in s m
 have hw3 := @word_surely s m
 have Q39 := Lib.hid (fun W (hW : LB (ofSh s) ot cap w W) => (sMay_any s g ot cap W hW.tins).mono fun e w' hp => found_s1 hy hp)
 have hyx := (mem_allMix g).1 (List.mem_of_find?_eq_some hy)
 have hyq : (wordOf s y == 1) = false := by have := List.find?_some hy; simpa [mayOf] using this
 have S25y := Lib.hid (R25.out y hyx)
 have S45y := Lib.hid (R45.out y hyx)
 have Q38 := Lib.hid (fun W (hW : LB (ofSh s) ot cap w W) => (sFirst_any s g ot cap W hW.tins).mono fun e w' hp => found_s0 hf hp)
 have hc : countOf s = 0 := hfn.1 hf
 simp only [hc] at R40
 clear hc
 rw [hq] at R45m
 clear hf hy hq hyx R45 R25 R46m R46 R43
 clear g hm h hi hk hmem hc494 hfn hc1 hin hw3
 generalize wordOf s y = qy at *
 have T1 := Lib.hid trivial
 have T2 := Lib.hid trivial
 have T3 := Lib.hid trivial
 go_enter Tryz.func8, Tryz.ntmps8
 go_wp2_with (first | (go_at_call 32; refine (R32.out _ B.out).mono ?_; rintro e w9 ⟨rfl, hE9⟩; replace B := Lib.hid (B.out.next hE9); (try clear c0 c1 c2 c3 c4 c5 c6 c7 c8 c9 c10 c11 c12); have c0 := B.out.box 0 _ rfl; have c1 := B.out.box 1 _ rfl; have c2 := B.out.box 2 _ rfl; have c3 := B.out.box 3 _ rfl; have c4 := B.out.box 4 _ rfl; have c5 := B.out.box 5 _ rfl; have c6 := B.out.box 6 _ rfl; have c7 := B.out.box 7 _ rfl; have c8 := B.out.box 8 _ rfl; have c9 := B.out.box 9 _ rfl; have c10 := B.out.box 10 _ rfl; have c11 := B.out.box 11 _ rfl; have c12 := B.out.box 12 _ rfl; clear hE9) | (go_at_call 38; refine (Q38.out _ B.out).mono ?_; rintro e w9 ⟨rfl, hE9⟩; replace B := Lib.hid (B.out.next hE9); (try clear c0 c1 c2 c3 c4 c5 c6 c7 c8 c9 c10 c11 c12); have c0 := B.out.box 0 _ rfl; have c1 := B.out.box 1 _ rfl; have c2 := B.out.box 2 _ rfl; have c3 := B.out.box 3 _ rfl; have c4 := B.out.box 4 _ rfl; have c5 := B.out.box 5 _ rfl; have c6 := B.out.box 6 _ rfl; have c7 := B.out.box 7 _ rfl; have c8 := B.out.box 8 _ rfl; have c9 := B.out.box 9 _ rfl; have c10 := B.out.box 10 _ rfl; have c11 := B.out.box 11 _ rfl; have c12 := B.out.box 12 _ rfl; clear hE9) | (go_at_call 39; refine (Q39.out _ B.out).mono ?_; rintro e w9 ⟨⟨oy, cy, rfl, hj⟩, hE9⟩; replace B := Lib.hid (B.out.next hE9); (try clear c0 c1 c2 c3 c4 c5 c6 c7 c8 c9 c10 c11 c12); have c0 := B.out.box 0 _ rfl; have c1 := B.out.box 1 _ rfl; have c2 := B.out.box 2 _ rfl; have c3 := B.out.box 3 _ rfl; have c4 := B.out.box 4 _ rfl; have c5 := B.out.box 5 _ rfl; have c6 := B.out.box 6 _ rfl; have c7 := B.out.box 7 _ rfl; have c8 := B.out.box 8 _ rfl; have c9 := B.out.box 9 _ rfl; have c10 := B.out.box 10 _ rfl; have c11 := B.out.box 11 _ rfl; have c12 := B.out.box 12 _ rfl; have Hy := Lib.hid hj; clear hj; clear hE9) | (go_at_call 40; refine (R40.out _ B.out).mono ?_; rintro e w9 ⟨rfl, hE9⟩; replace B := Lib.hid (B.out.next hE9); (try clear c0 c1 c2 c3 c4 c5 c6 c7 c8 c9 c10 c11 c12); have c0 := B.out.box 0 _ rfl; have c1 := B.out.box 1 _ rfl; have c2 := B.out.box 2 _ rfl; have c3 := B.out.box 3 _ rfl; have c4 := B.out.box 4 _ rfl; have c5 := B.out.box 5 _ rfl; have c6 := B.out.box 6 _ rfl; have c7 := B.out.box 7 _ rfl; have c8 := B.out.box 8 _ rfl; have c9 := B.out.box 9 _ rfl; have c10 := B.out.box 10 _ rfl; have c11 := B.out.box 11 _ rfl; have c12 := B.out.box 12 _ rfl; replace Hy := Lib.hid (Hy.out.ext hE9); clear hE9) | (go_at_call 45; have t0 := T1; clear t0 T1; refine (R45m.out _ B.out).mono ?_; rintro e w9 ⟨rfl, hE9⟩; replace B := Lib.hid (B.out.next hE9); (try clear c0 c1 c2 c3 c4 c5 c6 c7 c8 c9 c10 c11 c12); have c0 := B.out.box 0 _ rfl; have c1 := B.out.box 1 _ rfl; have c2 := B.out.box 2 _ rfl; have c3 := B.out.box 3 _ rfl; have c4 := B.out.box 4 _ rfl; have c5 := B.out.box 5 _ rfl; have c6 := B.out.box 6 _ rfl; have c7 := B.out.box 7 _ rfl; have c8 := B.out.box 8 _ rfl; have c9 := B.out.box 9 _ rfl; have c10 := B.out.box 10 _ rfl; have c11 := B.out.box 11 _ rfl; have c12 := B.out.box 12 _ rfl; replace Hy := Lib.hid (Hy.out.ext hE9); clear hE9) | (go_at_call 25; have t0 := T2; clear t0 T2; refine (S25y.out _ oy cy B.out Hy.out).mono ?_; rintro e w9 ⟨rfl, hE9⟩; replace B := Lib.hid (B.out.next hE9); (try clear c0 c1 c2 c3 c4 c5 c6 c7 c8 c9 c10 c11 c12); have c0 := B.out.box 0 _ rfl; have c1 := B.out.box 1 _ rfl; have c2 := B.out.box 2 _ rfl; have c3 := B.out.box 3 _ rfl; have c4 := B.out.box 4 _ rfl; have c5 := B.out.box 5 _ rfl; have c6 := B.out.box 6 _ rfl; have c7 := B.out.box 7 _ rfl; have c8 := B.out.box 8 _ rfl; have c9 := B.out.box 9 _ rfl; have c10 := B.out.box 10 _ rfl; have c11 := B.out.box 11 _ rfl; have c12 := B.out.box 12 _ rfl; replace Hy := Lib.hid (Hy.out.ext hE9); clear hE9) | (go_at_call 45; have t0 := T3; clear t0 T3; refine (S45y.out _ oy cy B.out Hy.out).mono ?_; rintro e w9 ⟨rfl, hE9⟩; replace B := Lib.hid (B.out.next hE9); (try clear c0 c1 c2 c3 c4 c5 c6 c7 c8 c9 c10 c11 c12); have c0 := B.out.box 0 _ rfl; have c1 := B.out.box 1 _ rfl; have c2 := B.out.box 2 _ rfl; have c3 := B.out.box 3 _ rfl; have c4 := B.out.box 4 _ rfl; have c5 := B.out.box 5 _ rfl; have c6 := B.out.box 6 _ rfl; have c7 := B.out.box 7 _ rfl; have c8 := B.out.box 8 _ rfl; have c9 := B.out.box 9 _ rfl; have c10 := B.out.box 10 _ rfl; have c11 := B.out.box 11 _ rfl; have c12 := B.out.box 12 _ rfl; replace Hy := Lib.hid (Hy.out.ext hE9); clear hE9) | (go_at_call 22; refine (Rk.out _ B.out).mono ?_; rintro e w9 ⟨rfl, hE9⟩; replace B := Lib.hid (B.out.next hE9); (try clear c0 c1 c2 c3 c4 c5 c6 c7 c8 c9 c10 c11 c12); have c0 := B.out.box 0 _ rfl; have c1 := B.out.box 1 _ rfl; have c2 := B.out.box 2 _ rfl; have c3 := B.out.box 3 _ rfl; have c4 := B.out.box 4 _ rfl; have c5 := B.out.box 5 _ rfl; have c6 := B.out.box 6 _ rfl; have c7 := B.out.box 7 _ rfl; have c8 := B.out.box 8 _ rfl; have c9 := B.out.box 9 _ rfl; have c10 := B.out.box 10 _ rfl; have c11 := B.out.box 11 _ rfl; have c12 := B.out.box 12 _ rfl; clear hE9))
 go_ret
 exact ⟨rfl, B.out.ext⟩

theorem law8_c {s : Sh} (g : Fine s) {m : List Nat} (hm : IsMix s m) {y : List Nat} (hy : (allMix s.tins.length).find? (mayOf s) = some y) (hf : (allMix s.tins.length).find? (surely s) = none) (hq : wordOf s m = 2) {ot ol : Option Addr} {cap cl : Nat} {w : World} (h : TinsAt w ot (ofSh s).tins) (hi : IntsAt w ol (upL m)) (k : Int) (hk : w.cell? ⟨1, 0, none⟩ = some (.int .i64 k)) :
  Calls Tryz.prog 8 #[sheetV (ofSh s) ot cap, .slice ol m.length cl] w fun e w' => e = .returned (.bool true) ∧ Ext w w' := by
 have B := Lib.hid (LB.start (cap := cap) h)
 have R32 := Lib.hid (fun W (hW : LB (ofSh s) ot cap w W) => right_up g hm ot cap ol cl W hW.tins (hi.ext hW.ext))
 have Rk := Lib.hid (fun (W : World) (hW : LB (ofSh s) ot cap w W) => known_any W k (cell_ext hW.ext hk))
 have R40 := Lib.hid (fun W (hW : LB (ofSh s) ot cap w W) => sCount_any s g ot cap W hW.tins)
 have R45m := Lib.hid (fun W (hW : LB (ofSh s) ot cap w W) => word45 s g m hm ot cap ol cl W hW.tins (hi.ext hW.ext))
 have R45 := Lib.hid (fun x (hx : IsMix s x) W o c (hW : LB (ofSh s) ot cap w W) (hi : IntsAt W o (upL x)) => word45 s g x hx ot cap o c W hW.tins hi)
 have R25 := Lib.hid (fun x (hx : IsMix s x) W o c (hW : LB (ofSh s) ot cap w W) (hi : IntsAt W o (upL x)) => rmix_up g hx ot cap o c W hi)
 have R46m := Lib.hid (fun x (hx : IsMix s x) W o c (hW : LB (ofSh s) ot cap w W) (hj : IntsAt W o (upL x)) => soon_up g hm hx ol o cl c W (hi.ext hW.ext) hj)
 have R46 := Lib.hid (fun x y (hx : IsMix s x) (hy : IsMix s y) W o c o2 c2 (hj : IntsAt W o (upL x)) (hj2 : IntsAt W o2 (upL y)) => soon_up g hx hy o o2 c c2 W hj hj2)
 have R43 := Lib.hid (fun x (hx : IsMix s x) W o c (hW : LB (ofSh s) ot cap w W) (hj : IntsAt W o (upL x)) => tsame_up m x ol o cl c W (hi.ext hW.ext) hj (by have := hm.len; have := g.len2; omega) (by have := hx.len; have := g.len2; omega))
 have hmem := (mem_allMix g).2 hm
 have hc494 := count_494 g
 have hfn := @first_none s
 have hc1 : ∀ x, (allMix s.tins.length).find? (surely s) = some x → m ≠ x → surely s m = true → 1 < countOf s := fun x hx hne hs => ((first_rival g hx hm hs).2).resolve_left hne
 have hin := word_in s m
 have hw3 := @word_surely s m
 have Q39 := Lib.hid (fun W (hW : LB (ofSh s) ot cap w W) => (sMay_any s g ot cap W hW.tins).mono fun e w' hp => found_s1 hy hp)
 have hyx := (mem_allMix g).1 (List.mem_of_find?_eq_some hy)
 have hyq : (wordOf s y == 1) = false := by have := List.find?_some hy; simpa [mayOf] using this
 have S25y := Lib.hid (R25.out y hyx)
 have S45y := Lib.hid (R45.out y hyx)
 have hns : soonB m y = false := not_soon (may_rival g hy hm (by omega))
 have S46my := Lib.hid (R46m.out y hyx)
 rw [hns] at S46my
 clear hns
 have Q38 := Lib.hid (fun W (hW : LB (ofSh s) ot cap w W) => (sFirst_any s g ot cap W hW.tins).mono fun e w' hp => found_s0 hf hp)
 have hc : countOf s = 0 := hfn.1 hf
 simp only [hc] at R40
 clear hc
 rw [hq] at R45m
 clear hf hy hq hyx R45 R25 R46m R46 R43
 clear g hm h hi hk hmem hc494 hfn hc1 hin hw3
 generalize wordOf s y = qy at *
 have T1 := Lib.hid trivial
 have T2 := Lib.hid trivial
 have T3 := Lib.hid trivial
 have T4 := Lib.hid trivial
 go_enter Tryz.func8, Tryz.ntmps8
 go_wp2_with (first | (go_at_call 32; refine (R32.out _ B.out).mono ?_; rintro e w9 ⟨rfl, hE9⟩; replace B := Lib.hid (B.out.next hE9); (try clear c0 c1 c2 c3 c4 c5 c6 c7 c8 c9 c10 c11 c12); have c0 := B.out.box 0 _ rfl; have c1 := B.out.box 1 _ rfl; have c2 := B.out.box 2 _ rfl; have c3 := B.out.box 3 _ rfl; have c4 := B.out.box 4 _ rfl; have c5 := B.out.box 5 _ rfl; have c6 := B.out.box 6 _ rfl; have c7 := B.out.box 7 _ rfl; have c8 := B.out.box 8 _ rfl; have c9 := B.out.box 9 _ rfl; have c10 := B.out.box 10 _ rfl; have c11 := B.out.box 11 _ rfl; have c12 := B.out.box 12 _ rfl; clear hE9) | (go_at_call 38; refine (Q38.out _ B.out).mono ?_; rintro e w9 ⟨rfl, hE9⟩; replace B := Lib.hid (B.out.next hE9); (try clear c0 c1 c2 c3 c4 c5 c6 c7 c8 c9 c10 c11 c12); have c0 := B.out.box 0 _ rfl; have c1 := B.out.box 1 _ rfl; have c2 := B.out.box 2 _ rfl; have c3 := B.out.box 3 _ rfl; have c4 := B.out.box 4 _ rfl; have c5 := B.out.box 5 _ rfl; have c6 := B.out.box 6 _ rfl; have c7 := B.out.box 7 _ rfl; have c8 := B.out.box 8 _ rfl; have c9 := B.out.box 9 _ rfl; have c10 := B.out.box 10 _ rfl; have c11 := B.out.box 11 _ rfl; have c12 := B.out.box 12 _ rfl; clear hE9) | (go_at_call 39; refine (Q39.out _ B.out).mono ?_; rintro e w9 ⟨⟨oy, cy, rfl, hj⟩, hE9⟩; replace B := Lib.hid (B.out.next hE9); (try clear c0 c1 c2 c3 c4 c5 c6 c7 c8 c9 c10 c11 c12); have c0 := B.out.box 0 _ rfl; have c1 := B.out.box 1 _ rfl; have c2 := B.out.box 2 _ rfl; have c3 := B.out.box 3 _ rfl; have c4 := B.out.box 4 _ rfl; have c5 := B.out.box 5 _ rfl; have c6 := B.out.box 6 _ rfl; have c7 := B.out.box 7 _ rfl; have c8 := B.out.box 8 _ rfl; have c9 := B.out.box 9 _ rfl; have c10 := B.out.box 10 _ rfl; have c11 := B.out.box 11 _ rfl; have c12 := B.out.box 12 _ rfl; have Hy := Lib.hid hj; clear hj; clear hE9) | (go_at_call 40; refine (R40.out _ B.out).mono ?_; rintro e w9 ⟨rfl, hE9⟩; replace B := Lib.hid (B.out.next hE9); (try clear c0 c1 c2 c3 c4 c5 c6 c7 c8 c9 c10 c11 c12); have c0 := B.out.box 0 _ rfl; have c1 := B.out.box 1 _ rfl; have c2 := B.out.box 2 _ rfl; have c3 := B.out.box 3 _ rfl; have c4 := B.out.box 4 _ rfl; have c5 := B.out.box 5 _ rfl; have c6 := B.out.box 6 _ rfl; have c7 := B.out.box 7 _ rfl; have c8 := B.out.box 8 _ rfl; have c9 := B.out.box 9 _ rfl; have c10 := B.out.box 10 _ rfl; have c11 := B.out.box 11 _ rfl; have c12 := B.out.box 12 _ rfl; replace Hy := Lib.hid (Hy.out.ext hE9); clear hE9) | (go_at_call 45; have t0 := T1; clear t0 T1; refine (R45m.out _ B.out).mono ?_; rintro e w9 ⟨rfl, hE9⟩; replace B := Lib.hid (B.out.next hE9); (try clear c0 c1 c2 c3 c4 c5 c6 c7 c8 c9 c10 c11 c12); have c0 := B.out.box 0 _ rfl; have c1 := B.out.box 1 _ rfl; have c2 := B.out.box 2 _ rfl; have c3 := B.out.box 3 _ rfl; have c4 := B.out.box 4 _ rfl; have c5 := B.out.box 5 _ rfl; have c6 := B.out.box 6 _ rfl; have c7 := B.out.box 7 _ rfl; have c8 := B.out.box 8 _ rfl; have c9 := B.out.box 9 _ rfl; have c10 := B.out.box 10 _ rfl; have c11 := B.out.box 11 _ rfl; have c12 := B.out.box 12 _ rfl; replace Hy := Lib.hid (Hy.out.ext hE9); clear hE9) | (go_at_call 25; have t0 := T2; clear t0 T2; refine (S25y.out _ oy cy B.out Hy.out).mono ?_; rintro e w9 ⟨rfl, hE9⟩; replace B := Lib.hid (B.out.next hE9); (try clear c0 c1 c2 c3 c4 c5 c6 c7 c8 c9 c10 c11 c12); have c0 := B.out.box 0 _ rfl; have c1 := B.out.box 1 _ rfl; have c2 := B.out.box 2 _ rfl; have c3 := B.out.box 3 _ rfl; have c4 := B.out.box 4 _ rfl; have c5 := B.out.box 5 _ rfl; have c6 := B.out.box 6 _ rfl; have c7 := B.out.box 7 _ rfl; have c8 := B.out.box 8 _ rfl; have c9 := B.out.box 9 _ rfl; have c10 := B.out.box 10 _ rfl; have c11 := B.out.box 11 _ rfl; have c12 := B.out.box 12 _ rfl; replace Hy := Lib.hid (Hy.out.ext hE9); clear hE9) | (go_at_call 45; have t0 := T3; clear t0 T3; refine (S45y.out _ oy cy B.out Hy.out).mono ?_; rintro e w9 ⟨rfl, hE9⟩; replace B := Lib.hid (B.out.next hE9); (try clear c0 c1 c2 c3 c4 c5 c6 c7 c8 c9 c10 c11 c12); have c0 := B.out.box 0 _ rfl; have c1 := B.out.box 1 _ rfl; have c2 := B.out.box 2 _ rfl; have c3 := B.out.box 3 _ rfl; have c4 := B.out.box 4 _ rfl; have c5 := B.out.box 5 _ rfl; have c6 := B.out.box 6 _ rfl; have c7 := B.out.box 7 _ rfl; have c8 := B.out.box 8 _ rfl; have c9 := B.out.box 9 _ rfl; have c10 := B.out.box 10 _ rfl; have c11 := B.out.box 11 _ rfl; have c12 := B.out.box 12 _ rfl; replace Hy := Lib.hid (Hy.out.ext hE9); clear hE9) | (go_at_call 46; have t0 := T4; clear t0 T4; refine (S46my.out _ oy cy B.out Hy.out).mono ?_; rintro e w9 ⟨rfl, hE9⟩; replace B := Lib.hid (B.out.next hE9); (try clear c0 c1 c2 c3 c4 c5 c6 c7 c8 c9 c10 c11 c12); have c0 := B.out.box 0 _ rfl; have c1 := B.out.box 1 _ rfl; have c2 := B.out.box 2 _ rfl; have c3 := B.out.box 3 _ rfl; have c4 := B.out.box 4 _ rfl; have c5 := B.out.box 5 _ rfl; have c6 := B.out.box 6 _ rfl; have c7 := B.out.box 7 _ rfl; have c8 := B.out.box 8 _ rfl; have c9 := B.out.box 9 _ rfl; have c10 := B.out.box 10 _ rfl; have c11 := B.out.box 11 _ rfl; have c12 := B.out.box 12 _ rfl; replace Hy := Lib.hid (Hy.out.ext hE9); clear hE9) | (go_at_call 22; refine (Rk.out _ B.out).mono ?_; rintro e w9 ⟨rfl, hE9⟩; replace B := Lib.hid (B.out.next hE9); (try clear c0 c1 c2 c3 c4 c5 c6 c7 c8 c9 c10 c11 c12); have c0 := B.out.box 0 _ rfl; have c1 := B.out.box 1 _ rfl; have c2 := B.out.box 2 _ rfl; have c3 := B.out.box 3 _ rfl; have c4 := B.out.box 4 _ rfl; have c5 := B.out.box 5 _ rfl; have c6 := B.out.box 6 _ rfl; have c7 := B.out.box 7 _ rfl; have c8 := B.out.box 8 _ rfl; have c9 := B.out.box 9 _ rfl; have c10 := B.out.box 10 _ rfl; have c11 := B.out.box 11 _ rfl; have c12 := B.out.box 12 _ rfl; clear hE9))
 go_ret
 exact ⟨rfl, B.out.ext⟩

theorem law8_d {s : Sh} (g : Fine s) {m : List Nat} (hm : IsMix s m) {y : List Nat} (hy : (allMix s.tins.length).find? (mayOf s) = some y) {x : List Nat} (hf : (allMix s.tins.length).find? (surely s) = some x) (hq : wordOf s m = 1) {ot ol : Option Addr} {cap cl : Nat} {w : World} (h : TinsAt w ot (ofSh s).tins) (hi : IntsAt w ol (upL m)) (k : Int) (hk : w.cell? ⟨1, 0, none⟩ = some (.int .i64 k)) :
  Calls Tryz.prog 8 #[sheetV (ofSh s) ot cap, .slice ol m.length cl] w fun e w' => e = .returned (.bool true) ∧ Ext w w' := by
 have B := Lib.hid (LB.start (cap := cap) h)
 have R32 := Lib.hid (fun W (hW : LB (ofSh s) ot cap w W) => right_up g hm ot cap ol cl W hW.tins (hi.ext hW.ext))
 have Rk := Lib.hid (fun (W : World) (hW : LB (ofSh s) ot cap w W) => known_any W k (cell_ext hW.ext hk))
 have R40 := Lib.hid (fun W (hW : LB (ofSh s) ot cap w W) => sCount_any s g ot cap W hW.tins)
 have R45m := Lib.hid (fun W (hW : LB (ofSh s) ot cap w W) => word45 s g m hm ot cap ol cl W hW.tins (hi.ext hW.ext))
 have R45 := Lib.hid (fun x (hx : IsMix s x) W o c (hW : LB (ofSh s) ot cap w W) (hi : IntsAt W o (upL x)) => word45 s g x hx ot cap o c W hW.tins hi)
 have R25 := Lib.hid (fun x (hx : IsMix s x) W o c (hW : LB (ofSh s) ot cap w W) (hi : IntsAt W o (upL x)) => rmix_up g hx ot cap o c W hi)
 have R46m := Lib.hid (fun x (hx : IsMix s x) W o c (hW : LB (ofSh s) ot cap w W) (hj : IntsAt W o (upL x)) => soon_up g hm hx ol o cl c W (hi.ext hW.ext) hj)
 have R46 := Lib.hid (fun x y (hx : IsMix s x) (hy : IsMix s y) W o c o2 c2 (hj : IntsAt W o (upL x)) (hj2 : IntsAt W o2 (upL y)) => soon_up g hx hy o o2 c c2 W hj hj2)
 have R43 := Lib.hid (fun x (hx : IsMix s x) W o c (hW : LB (ofSh s) ot cap w W) (hj : IntsAt W o (upL x)) => tsame_up m x ol o cl c W (hi.ext hW.ext) hj (by have := hm.len; have := g.len2; omega) (by have := hx.len; have := g.len2; omega))
 have hmem := (mem_allMix g).2 hm
 have hc494 := count_494 g
 have hfn := @first_none s
 have hc1 : ∀ x, (allMix s.tins.length).find? (surely s) = some x → m ≠ x → surely s m = true → 1 < countOf s := fun x hx hne hs => ((first_rival g hx hm hs).2).resolve_left hne
 have hin := word_in s m
 have hw3 := @word_surely s m
 have Q39 := Lib.hid (fun W (hW : LB (ofSh s) ot cap w W) => (sMay_any s g ot cap W hW.tins).mono fun e w' hp => found_s1 hy hp)
 have hyx := (mem_allMix g).1 (List.mem_of_find?_eq_some hy)
 have hyq : (wordOf s y == 1) = false := by have := List.find?_some hy; simpa [mayOf] using this
 have S25y := Lib.hid (R25.out y hyx)
 have S45y := Lib.hid (R45.out y hyx)
 have Q38 := Lib.hid (fun W (hW : LB (ofSh s) ot cap w W) => (sFirst_any s g ot cap W hW.tins).mono fun e w' hp => found_s1 hf hp)
 have hxx := (mem_allMix g).1 (List.mem_of_find?_eq_some hf)
 have hxs : surely s x = true := List.find?_some hf
 have hx3 : wordOf s x = 3 := word_surely.2 hxs
 have S25x := Lib.hid (R25.out x hxx)
 have S45x := Lib.hid (R45.out x hxx)
 rw [hx3] at S45x
 have S46xy := Lib.hid (R46.out x y hxx hyx)
 rw [not_soon (may_rival g hy hxx (by omega))] at S46xy
 have hcp : 0 < countOf s := Nat.pos_of_ne_zero fun e => by have := hfn.2 e; rw [firstOf, hf] at this; cases this
 have hcI1 : (0 : Int) < (countOf s : Int) := by omega
 have hcI2 : ¬ (494 : Int) < (countOf s : Int) := by omega
 have hcI3 : ¬ (countOf s : Int) < 0 := by omega
 rw [hq] at R45m
 clear hf hy hq hyx R45 R25 R46m R46 R43 hxx hxs hx3 hcp
 clear g hm h hi hk hmem hc494 hfn hc1 hin hw3
 generalize wordOf s y = qy at *
 generalize countOf s = c at *
 have T1 := Lib.hid trivial
 have T2 := Lib.hid trivial
 have T3 := Lib.hid trivial
 have T4 := Lib.hid trivial
 have T5 := Lib.hid trivial
 have T6 := Lib.hid trivial
 go_enter Tryz.func8, Tryz.ntmps8
 go_wp2_with (first | (go_at_call 32; refine (R32.out _ B.out).mono ?_; rintro e w9 ⟨rfl, hE9⟩; replace B := Lib.hid (B.out.next hE9); (try clear c0 c1 c2 c3 c4 c5 c6 c7 c8 c9 c10 c11 c12); have c0 := B.out.box 0 _ rfl; have c1 := B.out.box 1 _ rfl; have c2 := B.out.box 2 _ rfl; have c3 := B.out.box 3 _ rfl; have c4 := B.out.box 4 _ rfl; have c5 := B.out.box 5 _ rfl; have c6 := B.out.box 6 _ rfl; have c7 := B.out.box 7 _ rfl; have c8 := B.out.box 8 _ rfl; have c9 := B.out.box 9 _ rfl; have c10 := B.out.box 10 _ rfl; have c11 := B.out.box 11 _ rfl; have c12 := B.out.box 12 _ rfl; clear hE9) | (go_at_call 38; refine (Q38.out _ B.out).mono ?_; rintro e w9 ⟨⟨ox, cx, rfl, hj⟩, hE9⟩; replace B := Lib.hid (B.out.next hE9); (try clear c0 c1 c2 c3 c4 c5 c6 c7 c8 c9 c10 c11 c12); have c0 := B.out.box 0 _ rfl; have c1 := B.out.box 1 _ rfl; have c2 := B.out.box 2 _ rfl; have c3 := B.out.box 3 _ rfl; have c4 := B.out.box 4 _ rfl; have c5 := B.out.box 5 _ rfl; have c6 := B.out.box 6 _ rfl; have c7 := B.out.box 7 _ rfl; have c8 := B.out.box 8 _ rfl; have c9 := B.out.box 9 _ rfl; have c10 := B.out.box 10 _ rfl; have c11 := B.out.box 11 _ rfl; have c12 := B.out.box 12 _ rfl; have Hx := Lib.hid hj; clear hj; clear hE9) | (go_at_call 39; refine (Q39.out _ B.out).mono ?_; rintro e w9 ⟨⟨oy, cy, rfl, hj⟩, hE9⟩; replace B := Lib.hid (B.out.next hE9); (try clear c0 c1 c2 c3 c4 c5 c6 c7 c8 c9 c10 c11 c12); have c0 := B.out.box 0 _ rfl; have c1 := B.out.box 1 _ rfl; have c2 := B.out.box 2 _ rfl; have c3 := B.out.box 3 _ rfl; have c4 := B.out.box 4 _ rfl; have c5 := B.out.box 5 _ rfl; have c6 := B.out.box 6 _ rfl; have c7 := B.out.box 7 _ rfl; have c8 := B.out.box 8 _ rfl; have c9 := B.out.box 9 _ rfl; have c10 := B.out.box 10 _ rfl; have c11 := B.out.box 11 _ rfl; have c12 := B.out.box 12 _ rfl; replace Hx := Lib.hid (Hx.out.ext hE9); have Hy := Lib.hid hj; clear hj; clear hE9) | (go_at_call 40; refine (R40.out _ B.out).mono ?_; rintro e w9 ⟨rfl, hE9⟩; replace B := Lib.hid (B.out.next hE9); (try clear c0 c1 c2 c3 c4 c5 c6 c7 c8 c9 c10 c11 c12); have c0 := B.out.box 0 _ rfl; have c1 := B.out.box 1 _ rfl; have c2 := B.out.box 2 _ rfl; have c3 := B.out.box 3 _ rfl; have c4 := B.out.box 4 _ rfl; have c5 := B.out.box 5 _ rfl; have c6 := B.out.box 6 _ rfl; have c7 := B.out.box 7 _ rfl; have c8 := B.out.box 8 _ rfl; have c9 := B.out.box 9 _ rfl; have c10 := B.out.box 10 _ rfl; have c11 := B.out.box 11 _ rfl; have c12 := B.out.box 12 _ rfl; replace Hx := Lib.hid (Hx.out.ext hE9); replace Hy := Lib.hid (Hy.out.ext hE9); clear hE9) | (go_at_call 45; have t0 := T1; clear t0 T1; refine (R45m.out _ B.out).mono ?_; rintro e w9 ⟨rfl, hE9⟩; replace B := Lib.hid (B.out.next hE9); (try clear c0 c1 c2 c3 c4 c5 c6 c7 c8 c9 c10 c11 c12); have c0 := B.out.box 0 _ rfl; have c1 := B.out.box 1 _ rfl; have c2 := B.out.box 2 _ rfl; have c3 := B.out.box 3 _ rfl; have c4 := B.out.box 4 _ rfl; have c5 := B.out.box 5 _ rfl; have c6 := B.out.box 6 _ rfl; have c7 := B.out.box 7 _ rfl; have c8 := B.out.box 8 _ rfl; have c9 := B.out.box 9 _ rfl; have c10 := B.out.box 10 _ rfl; have c11 := B.out.box 11 _ rfl; have c12 := B.out.box 12 _ rfl; replace Hx := Lib.hid (Hx.out.ext hE9); replace Hy := Lib.hid (Hy.out.ext hE9); clear hE9) | (go_at_call 25; have t0 := T2; clear t0 T2; refine (S25y.out _ oy cy B.out Hy.out).mono ?_; rintro e w9 ⟨rfl, hE9⟩; replace B := Lib.hid (B.out.next hE9); (try clear c0 c1 c2 c3 c4 c5 c6 c7 c8 c9 c10 c11 c12); have c0 := B.out.box 0 _ rfl; have c1 := B.out.box 1 _ rfl; have c2 := B.out.box 2 _ rfl; have c3 := B.out.box 3 _ rfl; have c4 := B.out.box 4 _ rfl; have c5 := B.out.box 5 _ rfl; have c6 := B.out.box 6 _ rfl; have c7 := B.out.box 7 _ rfl; have c8 := B.out.box 8 _ rfl; have c9 := B.out.box 9 _ rfl; have c10 := B.out.box 10 _ rfl; have c11 := B.out.box 11 _ rfl; have c12 := B.out.box 12 _ rfl; replace Hx := Lib.hid (Hx.out.ext hE9); replace Hy := Lib.hid (Hy.out.ext hE9); clear hE9) | (go_at_call 45; have t0 := T3; clear t0 T3; refine (S45y.out _ oy cy B.out Hy.out).mono ?_; rintro e w9 ⟨rfl, hE9⟩; replace B := Lib.hid (B.out.next hE9); (try clear c0 c1 c2 c3 c4 c5 c6 c7 c8 c9 c10 c11 c12); have c0 := B.out.box 0 _ rfl; have c1 := B.out.box 1 _ rfl; have c2 := B.out.box 2 _ rfl; have c3 := B.out.box 3 _ rfl; have c4 := B.out.box 4 _ rfl; have c5 := B.out.box 5 _ rfl; have c6 := B.out.box 6 _ rfl; have c7 := B.out.box 7 _ rfl; have c8 := B.out.box 8 _ rfl; have c9 := B.out.box 9 _ rfl; have c10 := B.out.box 10 _ rfl; have c11 := B.out.box 11 _ rfl; have c12 := B.out.box 12 _ rfl; replace Hx := Lib.hid (Hx.out.ext hE9); replace Hy := Lib.hid (Hy.out.ext hE9); clear hE9) | (go_at_call 25; have t0 := T4; clear t0 T4; refine (S25x.out _ ox cx B.out Hx.out).mono ?_; rintro e w9 ⟨rfl, hE9⟩; replace B := Lib.hid (B.out.next hE9); (try clear c0 c1 c2 c3 c4 c5 c6 c7 c8 c9 c10 c11 c12); have c0 := B.out.box 0 _ rfl; have c1 := B.out.box 1 _ rfl; have c2 := B.out.box 2 _ rfl; have c3 := B.out.box 3 _ rfl; have c4 := B.out.box 4 _ rfl; have c5 := B.out.box 5 _ rfl; have c6 := B.out.box 6 _ rfl; have c7 := B.out.box 7 _ rfl; have c8 := B.out.box 8 _ rfl; have c9 := B.out.box 9 _ rfl; have c10 := B.out.box 10 _ rfl; have c11 := B.out.box 11 _ rfl; have c12 := B.out.box 12 _ rfl; replace Hx := Lib.hid (Hx.out.ext hE9); replace Hy := Lib.hid (Hy.out.ext hE9); clear hE9) | (go_at_call 46; have t0 := T5; clear t0 T5; refine (S46xy.out _ ox cx oy cy Hx.out Hy.out).mono ?_; rintro e w9 ⟨rfl, hE9⟩; replace B := Lib.hid (B.out.next hE9); (try clear c0 c1 c2 c3 c4 c5 c6 c7 c8 c9 c10 c11 c12); have c0 := B.out.box 0 _ rfl; have c1 := B.out.box 1 _ rfl; have c2 := B.out.box 2 _ rfl; have c3 := B.out.box 3 _ rfl; have c4 := B.out.box 4 _ rfl; have c5 := B.out.box 5 _ rfl; have c6 := B.out.box 6 _ rfl; have c7 := B.out.box 7 _ rfl; have c8 := B.out.box 8 _ rfl; have c9 := B.out.box 9 _ rfl; have c10 := B.out.box 10 _ rfl; have c11 := B.out.box 11 _ rfl; have c12 := B.out.box 12 _ rfl; replace Hx := Lib.hid (Hx.out.ext hE9); replace Hy := Lib.hid (Hy.out.ext hE9); clear hE9) | (go_at_call 45; have t0 := T6; clear t0 T6; refine (S45x.out _ ox cx B.out Hx.out).mono ?_; rintro e w9 ⟨rfl, hE9⟩; replace B := Lib.hid (B.out.next hE9); (try clear c0 c1 c2 c3 c4 c5 c6 c7 c8 c9 c10 c11 c12); have c0 := B.out.box 0 _ rfl; have c1 := B.out.box 1 _ rfl; have c2 := B.out.box 2 _ rfl; have c3 := B.out.box 3 _ rfl; have c4 := B.out.box 4 _ rfl; have c5 := B.out.box 5 _ rfl; have c6 := B.out.box 6 _ rfl; have c7 := B.out.box 7 _ rfl; have c8 := B.out.box 8 _ rfl; have c9 := B.out.box 9 _ rfl; have c10 := B.out.box 10 _ rfl; have c11 := B.out.box 11 _ rfl; have c12 := B.out.box 12 _ rfl; replace Hx := Lib.hid (Hx.out.ext hE9); replace Hy := Lib.hid (Hy.out.ext hE9); clear hE9) | (go_at_call 22; refine (Rk.out _ B.out).mono ?_; rintro e w9 ⟨rfl, hE9⟩; replace B := Lib.hid (B.out.next hE9); (try clear c0 c1 c2 c3 c4 c5 c6 c7 c8 c9 c10 c11 c12); have c0 := B.out.box 0 _ rfl; have c1 := B.out.box 1 _ rfl; have c2 := B.out.box 2 _ rfl; have c3 := B.out.box 3 _ rfl; have c4 := B.out.box 4 _ rfl; have c5 := B.out.box 5 _ rfl; have c6 := B.out.box 6 _ rfl; have c7 := B.out.box 7 _ rfl; have c8 := B.out.box 8 _ rfl; have c9 := B.out.box 9 _ rfl; have c10 := B.out.box 10 _ rfl; have c11 := B.out.box 11 _ rfl; have c12 := B.out.box 12 _ rfl; clear hE9))
 go_ret
 exact ⟨rfl, B.out.ext⟩

theorem law8_e {s : Sh} (g : Fine s) {m : List Nat} (hm : IsMix s m) {y : List Nat} (hy : (allMix s.tins.length).find? (mayOf s) = some y) {x : List Nat} (hf : (allMix s.tins.length).find? (surely s) = some x) (hq : wordOf s m = 2) {ot ol : Option Addr} {cap cl : Nat} {w : World} (h : TinsAt w ot (ofSh s).tins) (hi : IntsAt w ol (upL m)) (k : Int) (hk : w.cell? ⟨1, 0, none⟩ = some (.int .i64 k)) :
  Calls Tryz.prog 8 #[sheetV (ofSh s) ot cap, .slice ol m.length cl] w fun e w' => e = .returned (.bool true) ∧ Ext w w' := by
 have B := Lib.hid (LB.start (cap := cap) h)
 have R32 := Lib.hid (fun W (hW : LB (ofSh s) ot cap w W) => right_up g hm ot cap ol cl W hW.tins (hi.ext hW.ext))
 have Rk := Lib.hid (fun (W : World) (hW : LB (ofSh s) ot cap w W) => known_any W k (cell_ext hW.ext hk))
 have R40 := Lib.hid (fun W (hW : LB (ofSh s) ot cap w W) => sCount_any s g ot cap W hW.tins)
 have R45m := Lib.hid (fun W (hW : LB (ofSh s) ot cap w W) => word45 s g m hm ot cap ol cl W hW.tins (hi.ext hW.ext))
 have R45 := Lib.hid (fun x (hx : IsMix s x) W o c (hW : LB (ofSh s) ot cap w W) (hi : IntsAt W o (upL x)) => word45 s g x hx ot cap o c W hW.tins hi)
 have R25 := Lib.hid (fun x (hx : IsMix s x) W o c (hW : LB (ofSh s) ot cap w W) (hi : IntsAt W o (upL x)) => rmix_up g hx ot cap o c W hi)
 have R46m := Lib.hid (fun x (hx : IsMix s x) W o c (hW : LB (ofSh s) ot cap w W) (hj : IntsAt W o (upL x)) => soon_up g hm hx ol o cl c W (hi.ext hW.ext) hj)
 have R46 := Lib.hid (fun x y (hx : IsMix s x) (hy : IsMix s y) W o c o2 c2 (hj : IntsAt W o (upL x)) (hj2 : IntsAt W o2 (upL y)) => soon_up g hx hy o o2 c c2 W hj hj2)
 have R43 := Lib.hid (fun x (hx : IsMix s x) W o c (hW : LB (ofSh s) ot cap w W) (hj : IntsAt W o (upL x)) => tsame_up m x ol o cl c W (hi.ext hW.ext) hj (by have := hm.len; have := g.len2; omega) (by have := hx.len; have := g.len2; omega))
 have hmem := (mem_allMix g).2 hm
 have hc494 := count_494 g
 have hfn := @first_none s
 have hc1 : ∀ x, (allMix s.tins.length).find? (surely s) = some x → m ≠ x → surely s m = true → 1 < countOf s := fun x hx hne hs => ((first_rival g hx hm hs).2).resolve_left hne
 have hin := word_in s m
 have hw3 := @word_surely s m
 have Q39 := Lib.hid (fun W (hW : LB (ofSh s) ot cap w W) => (sMay_any s g ot cap W hW.tins).mono fun e w' hp => found_s1 hy hp)
 have hyx := (mem_allMix g).1 (List.mem_of_find?_eq_some hy)
 have hyq : (wordOf s y == 1) = false := by have := List.find?_some hy; simpa [mayOf] using this
 have S25y := Lib.hid (R25.out y hyx)
 have S45y := Lib.hid (R45.out y hyx)
 have hns : soonB m y = false := not_soon (may_rival g hy hm (by omega))
 have S46my := Lib.hid (R46m.out y hyx)
 rw [hns] at S46my
 clear hns
 have Q38 := Lib.hid (fun W (hW : LB (ofSh s) ot cap w W) => (sFirst_any s g ot cap W hW.tins).mono fun e w' hp => found_s1 hf hp)
 have hxx := (mem_allMix g).1 (List.mem_of_find?_eq_some hf)
 have hxs : surely s x = true := List.find?_some hf
 have hx3 : wordOf s x = 3 := word_surely.2 hxs
 have S25x := Lib.hid (R25.out x hxx)
 have S45x := Lib.hid (R45.out x hxx)
 rw [hx3] at S45x
 have S46xy := Lib.hid (R46.out x y hxx hyx)
 rw [not_soon (may_rival g hy hxx (by omega))] at S46xy
 have hcp : 0 < countOf s := Nat.pos_of_ne_zero fun e => by have := hfn.2 e; rw [firstOf, hf] at this; cases this
 have hcI1 : (0 : Int) < (countOf s : Int) := by omega
 have hcI2 : ¬ (494 : Int) < (countOf s : Int) := by omega
 have hcI3 : ¬ (countOf s : Int) < 0 := by omega
 rw [hq] at R45m
 clear hf hy hq hyx R45 R25 R46m R46 R43 hxx hxs hx3 hcp
 clear g hm h hi hk hmem hc494 hfn hc1 hin hw3
 generalize wordOf s y = qy at *
 generalize countOf s = c at *
 have T1 := Lib.hid trivial
 have T2 := Lib.hid trivial
 have T3 := Lib.hid trivial
 have T4 := Lib.hid trivial
 have T5 := Lib.hid trivial
 have T6 := Lib.hid trivial
 have T7 := Lib.hid trivial
 go_enter Tryz.func8, Tryz.ntmps8
 go_wp2_with (first | (go_at_call 32; refine (R32.out _ B.out).mono ?_; rintro e w9 ⟨rfl, hE9⟩; replace B := Lib.hid (B.out.next hE9); (try clear c0 c1 c2 c3 c4 c5 c6 c7 c8 c9 c10 c11 c12); have c0 := B.out.box 0 _ rfl; have c1 := B.out.box 1 _ rfl; have c2 := B.out.box 2 _ rfl; have c3 := B.out.box 3 _ rfl; have c4 := B.out.box 4 _ rfl; have c5 := B.out.box 5 _ rfl; have c6 := B.out.box 6 _ rfl; have c7 := B.out.box 7 _ rfl; have c8 := B.out.box 8 _ rfl; have c9 := B.out.box 9 _ rfl; have c10 := B.out.box 10 _ rfl; have c11 := B.out.box 11 _ rfl; have c12 := B.out.box 12 _ rfl; clear hE9) | (go_at_call 38; refine (Q38.out _ B.out).mono ?_; rintro e w9 ⟨⟨ox, cx, rfl, hj⟩, hE9⟩; replace B := Lib.hid (B.out.next hE9); (try clear c0 c1 c2 c3 c4 c5 c6 c7 c8 c9 c10 c11 c12); have c0 := B.out.box 0 _ rfl; have c1 := B.out.box 1 _ rfl; have c2 := B.out.box 2 _ rfl; have c3 := B.out.box 3 _ rfl; have c4 := B.out.box 4 _ rfl; have c5 := B.out.box 5 _ rfl; have c6 := B.out.box 6 _ rfl; have c7 := B.out.box 7 _ rfl; have c8 := B.out.box 8 _ rfl; have c9 := B.out.box 9 _ rfl; have c10 := B.out.box 10 _ rfl; have c11 := B.out.box 11 _ rfl; have c12 := B.out.box 12 _ rfl; have Hx := Lib.hid hj; clear hj; clear hE9) | (go_at_call 39; refine (Q39.out _ B.out).mono ?_; rintro e w9 ⟨⟨oy, cy, rfl, hj⟩, hE9⟩; replace B := Lib.hid (B.out.next hE9); (try clear c0 c1 c2 c3 c4 c5 c6 c7 c8 c9 c10 c11 c12); have c0 := B.out.box 0 _ rfl; have c1 := B.out.box 1 _ rfl; have c2 := B.out.box 2 _ rfl; have c3 := B.out.box 3 _ rfl; have c4 := B.out.box 4 _ rfl; have c5 := B.out.box 5 _ rfl; have c6 := B.out.box 6 _ rfl; have c7 := B.out.box 7 _ rfl; have c8 := B.out.box 8 _ rfl; have c9 := B.out.box 9 _ rfl; have c10 := B.out.box 10 _ rfl; have c11 := B.out.box 11 _ rfl; have c12 := B.out.box 12 _ rfl; replace Hx := Lib.hid (Hx.out.ext hE9); have Hy := Lib.hid hj; clear hj; clear hE9) | (go_at_call 40; refine (R40.out _ B.out).mono ?_; rintro e w9 ⟨rfl, hE9⟩; replace B := Lib.hid (B.out.next hE9); (try clear c0 c1 c2 c3 c4 c5 c6 c7 c8 c9 c10 c11 c12); have c0 := B.out.box 0 _ rfl; have c1 := B.out.box 1 _ rfl; have c2 := B.out.box 2 _ rfl; have c3 := B.out.box 3 _ rfl; have c4 := B.out.box 4 _ rfl; have c5 := B.out.box 5 _ rfl; have c6 := B.out.box 6 _ rfl; have c7 := B.out.box 7 _ rfl; have c8 := B.out.box 8 _ rfl; have c9 := B.out.box 9 _ rfl; have c10 := B.out.box 10 _ rfl; have c11 := B.out.box 11 _ rfl; have c12 := B.out.box 12 _ rfl; replace Hx := Lib.hid (Hx.out.ext hE9); replace Hy := Lib.hid (Hy.out.ext hE9); clear hE9) | (go_at_call 45; have t0 := T1; clear t0 T1; refine (R45m.out _ B.out).mono ?_; rintro e w9 ⟨rfl, hE9⟩; replace B := Lib.hid (B.out.next hE9); (try clear c0 c1 c2 c3 c4 c5 c6 c7 c8 c9 c10 c11 c12); have c0 := B.out.box 0 _ rfl; have c1 := B.out.box 1 _ rfl; have c2 := B.out.box 2 _ rfl; have c3 := B.out.box 3 _ rfl; have c4 := B.out.box 4 _ rfl; have c5 := B.out.box 5 _ rfl; have c6 := B.out.box 6 _ rfl; have c7 := B.out.box 7 _ rfl; have c8 := B.out.box 8 _ rfl; have c9 := B.out.box 9 _ rfl; have c10 := B.out.box 10 _ rfl; have c11 := B.out.box 11 _ rfl; have c12 := B.out.box 12 _ rfl; replace Hx := Lib.hid (Hx.out.ext hE9); replace Hy := Lib.hid (Hy.out.ext hE9); clear hE9) | (go_at_call 25; have t0 := T2; clear t0 T2; refine (S25y.out _ oy cy B.out Hy.out).mono ?_; rintro e w9 ⟨rfl, hE9⟩; replace B := Lib.hid (B.out.next hE9); (try clear c0 c1 c2 c3 c4 c5 c6 c7 c8 c9 c10 c11 c12); have c0 := B.out.box 0 _ rfl; have c1 := B.out.box 1 _ rfl; have c2 := B.out.box 2 _ rfl; have c3 := B.out.box 3 _ rfl; have c4 := B.out.box 4 _ rfl; have c5 := B.out.box 5 _ rfl; have c6 := B.out.box 6 _ rfl; have c7 := B.out.box 7 _ rfl; have c8 := B.out.box 8 _ rfl; have c9 := B.out.box 9 _ rfl; have c10 := B.out.box 10 _ rfl; have c11 := B.out.box 11 _ rfl; have c12 := B.out.box 12 _ rfl; replace Hx := Lib.hid (Hx.out.ext hE9); replace Hy := Lib.hid (Hy.out.ext hE9); clear hE9) | (go_at_call 45; have t0 := T3; clear t0 T3; refine (S45y.out _ oy cy B.out Hy.out).mono ?_; rintro e w9 ⟨rfl, hE9⟩; replace B := Lib.hid (B.out.next hE9); (try clear c0 c1 c2 c3 c4 c5 c6 c7 c8 c9 c10 c11 c12); have c0 := B.out.box 0 _ rfl; have c1 := B.out.box 1 _ rfl; have c2 := B.out.box 2 _ rfl; have c3 := B.out.box 3 _ rfl; have c4 := B.out.box 4 _ rfl; have c5 := B.out.box 5 _ rfl; have c6 := B.out.box 6 _ rfl; have c7 := B.out.box 7 _ rfl; have c8 := B.out.box 8 _ rfl; have c9 := B.out.box 9 _ rfl; have c10 := B.out.box 10 _ rfl; have c11 := B.out.box 11 _ rfl; have c12 := B.out.box 12 _ rfl; replace Hx := Lib.hid (Hx.out.ext hE9); replace Hy := Lib.hid (Hy.out.ext hE9); clear hE9) | (go_at_call 46; have t0 := T4; clear t0 T4; refine (S46my.out _ oy cy B.out Hy.out).mono ?_; rintro e w9 ⟨rfl, hE9⟩; replace B := Lib.hid (B.out.next hE9); (try clear c0 c1 c2 c3 c4 c5 c6 c7 c8 c9 c10 c11 c12); have c0 := B.out.box 0 _ rfl; have c1 := B.out.box 1 _ rfl; have c2 := B.out.box 2 _ rfl; have c3 := B.out.box 3 _ rfl; have c4 := B.out.box 4 _ rfl; have c5 := B.out.box 5 _ rfl; have c6 := B.out.box 6 _ rfl; have c7 := B.out.box 7 _ rfl; have c8 := B.out.box 8 _ rfl; have c9 := B.out.box 9 _ rfl; have c10 := B.out.box 10 _ rfl; have c11 := B.out.box 11 _ rfl; have c12 := B.out.box 12 _ rfl; replace Hx := Lib.hid (Hx.out.ext hE9); replace Hy := Lib.hid (Hy.out.ext hE9); clear hE9) | (go_at_call 25; have t0 := T5; clear t0 T5; refine (S25x.out _ ox cx B.out Hx.out).mono ?_; rintro e w9 ⟨rfl, hE9⟩; replace B := Lib.hid (B.out.next hE9); (try clear c0 c1 c2 c3 c4 c5 c6 c7 c8 c9 c10 c11 c12); have c0 := B.out.box 0 _ rfl; have c1 := B.out.box 1 _ rfl; have c2 := B.out.box 2 _ rfl; have c3 := B.out.box 3 _ rfl; have c4 := B.out.box 4 _ rfl; have c5 := B.out.box 5 _ rfl; have c6 := B.out.box 6 _ rfl; have c7 := B.out.box 7 _ rfl; have c8 := B.out.box 8 _ rfl; have c9 := B.out.box 9 _ rfl; have c10 := B.out.box 10 _ rfl; have c11 := B.out.box 11 _ rfl; have c12 := B.out.box 12 _ rfl; replace Hx := Lib.hid (Hx.out.ext hE9); replace Hy := Lib.hid (Hy.out.ext hE9); clear hE9) | (go_at_call 46; have t0 := T6; clear t0 T6; refine (S46xy.out _ ox cx oy cy Hx.out Hy.out).mono ?_; rintro e w9 ⟨rfl, hE9⟩; replace B := Lib.hid (B.out.next hE9); (try clear c0 c1 c2 c3 c4 c5 c6 c7 c8 c9 c10 c11 c12); have c0 := B.out.box 0 _ rfl; have c1 := B.out.box 1 _ rfl; have c2 := B.out.box 2 _ rfl; have c3 := B.out.box 3 _ rfl; have c4 := B.out.box 4 _ rfl; have c5 := B.out.box 5 _ rfl; have c6 := B.out.box 6 _ rfl; have c7 := B.out.box 7 _ rfl; have c8 := B.out.box 8 _ rfl; have c9 := B.out.box 9 _ rfl; have c10 := B.out.box 10 _ rfl; have c11 := B.out.box 11 _ rfl; have c12 := B.out.box 12 _ rfl; replace Hx := Lib.hid (Hx.out.ext hE9); replace Hy := Lib.hid (Hy.out.ext hE9); clear hE9) | (go_at_call 45; have t0 := T7; clear t0 T7; refine (S45x.out _ ox cx B.out Hx.out).mono ?_; rintro e w9 ⟨rfl, hE9⟩; replace B := Lib.hid (B.out.next hE9); (try clear c0 c1 c2 c3 c4 c5 c6 c7 c8 c9 c10 c11 c12); have c0 := B.out.box 0 _ rfl; have c1 := B.out.box 1 _ rfl; have c2 := B.out.box 2 _ rfl; have c3 := B.out.box 3 _ rfl; have c4 := B.out.box 4 _ rfl; have c5 := B.out.box 5 _ rfl; have c6 := B.out.box 6 _ rfl; have c7 := B.out.box 7 _ rfl; have c8 := B.out.box 8 _ rfl; have c9 := B.out.box 9 _ rfl; have c10 := B.out.box 10 _ rfl; have c11 := B.out.box 11 _ rfl; have c12 := B.out.box 12 _ rfl; replace Hx := Lib.hid (Hx.out.ext hE9); replace Hy := Lib.hid (Hy.out.ext hE9); clear hE9) | (go_at_call 22; refine (Rk.out _ B.out).mono ?_; rintro e w9 ⟨rfl, hE9⟩; replace B := Lib.hid (B.out.next hE9); (try clear c0 c1 c2 c3 c4 c5 c6 c7 c8 c9 c10 c11 c12); have c0 := B.out.box 0 _ rfl; have c1 := B.out.box 1 _ rfl; have c2 := B.out.box 2 _ rfl; have c3 := B.out.box 3 _ rfl; have c4 := B.out.box 4 _ rfl; have c5 := B.out.box 5 _ rfl; have c6 := B.out.box 6 _ rfl; have c7 := B.out.box 7 _ rfl; have c8 := B.out.box 8 _ rfl; have c9 := B.out.box 9 _ rfl; have c10 := B.out.box 10 _ rfl; have c11 := B.out.box 11 _ rfl; have c12 := B.out.box 12 _ rfl; clear hE9))
 go_ret
 exact ⟨rfl, B.out.ext⟩

theorem law8_f {s : Sh} (g : Fine s) {m : List Nat} (hm : IsMix s m) {y : List Nat} (hy : (allMix s.tins.length).find? (mayOf s) = some y) {x : List Nat} (hf : (allMix s.tins.length).find? (surely s) = some x) (hq : wordOf s m = 3) (hmx : m = x) {ot ol : Option Addr} {cap cl : Nat} {w : World} (h : TinsAt w ot (ofSh s).tins) (hi : IntsAt w ol (upL m)) (k : Int) (hk : w.cell? ⟨1, 0, none⟩ = some (.int .i64 k)) :
  Calls Tryz.prog 8 #[sheetV (ofSh s) ot cap, .slice ol m.length cl] w fun e w' => e = .returned (.bool true) ∧ Ext w w' := by
 have B := Lib.hid (LB.start (cap := cap) h)
 have R32 := Lib.hid (fun W (hW : LB (ofSh s) ot cap w W) => right_up g hm ot cap ol cl W hW.tins (hi.ext hW.ext))
 have Rk := Lib.hid (fun (W : World) (hW : LB (ofSh s) ot cap w W) => known_any W k (cell_ext hW.ext hk))
 have R40 := Lib.hid (fun W (hW : LB (ofSh s) ot cap w W) => sCount_any s g ot cap W hW.tins)
 have R45m := Lib.hid (fun W (hW : LB (ofSh s) ot cap w W) => word45 s g m hm ot cap ol cl W hW.tins (hi.ext hW.ext))
 have R45 := Lib.hid (fun x (hx : IsMix s x) W o c (hW : LB (ofSh s) ot cap w W) (hi : IntsAt W o (upL x)) => word45 s g x hx ot cap o c W hW.tins hi)
 have R25 := Lib.hid (fun x (hx : IsMix s x) W o c (hW : LB (ofSh s) ot cap w W) (hi : IntsAt W o (upL x)) => rmix_up g hx ot cap o c W hi)
 have R46m := Lib.hid (fun x (hx : IsMix s x) W o c (hW : LB (ofSh s) ot cap w W) (hj : IntsAt W o (upL x)) => soon_up g hm hx ol o cl c W (hi.ext hW.ext) hj)
 have R46 := Lib.hid (fun x y (hx : IsMix s x) (hy : IsMix s y) W o c o2 c2 (hj : IntsAt W o (upL x)) (hj2 : IntsAt W o2 (upL y)) => soon_up g hx hy o o2 c c2 W hj hj2)
 have R43 := Lib.hid (fun x (hx : IsMix s x) W o c (hW : LB (ofSh s) ot cap w W) (hj : IntsAt W o (upL x)) => tsame_up m x ol o cl c W (hi.ext hW.ext) hj (by have := hm.len; have := g.len2; omega) (by have := hx.len; have := g.len2; omega))
 have hmem := (mem_allMix g).2 hm
 have hc494 := count_494 g
 have hfn := @first_none s
 have hc1 : ∀ x, (allMix s.tins.length).find? (surely s) = some x → m ≠ x → surely s m = true → 1 < countOf s := fun x hx hne hs => ((first_rival g hx hm hs).2).resolve_left hne
 have hin := word_in s m
 have hw3 := @word_surely s m
 have Q39 := Lib.hid (fun W (hW : LB (ofSh s) ot cap w W) => (sMay_any s g ot cap W hW.tins).mono fun e w' hp => found_s1 hy hp)
 have hyx := (mem_allMix g).1 (List.mem_of_find?_eq_some hy)
 have hyq : (wordOf s y == 1) = false := by have := List.find?_some hy; simpa [mayOf] using this
 have S25y := Lib.hid (R25.out y hyx)
 have S45y := Lib.hid (R45.out y hyx)
 have hns : soonB m y = false := not_soon (may_rival g hy hm (by omega))
 have S46my := Lib.hid (R46m.out y hyx)
 rw [hns] at S46my
 clear hns
 have Q38 := Lib.hid (fun W (hW : LB (ofSh s) ot cap w W) => (sFirst_any s g ot cap W hW.tins).mono fun e w' hp => found_s1 hf hp)
 have hxx := (mem_allMix g).1 (List.mem_of_find?_eq_some hf)
 have hxs : surely s x = true := List.find?_some hf
 have hx3 : wordOf s x = 3 := word_surely.2 hxs
 have S25x := Lib.hid (R25.out x hxx)
 have S45x := Lib.hid (R45.out x hxx)
 rw [hx3] at S45x
 have S46xy := Lib.hid (R46.out x y hxx hyx)
 rw [not_soon (may_rival g hy hxx (by omega))] at S46xy
 have hcp : 0 < countOf s := Nat.pos_of_ne_zero fun e => by have := hfn.2 e; rw [firstOf, hf] at this; cases this
 have S46mx := Lib.hid (R46m.out x hxx)
 rw [not_soon (first_rival g hf hm (hw3.1 hq)).1] at S46mx
 have S43 := Lib.hid (R43.out x hxx)
 rw [decide_eq_true hmx] at S43
 have hcI1 : (0 : Int) < (countOf s : Int) := by omega
 have hcI2 : ¬ (494 : Int) < (countOf s : Int) := by omega
 have hcI3 : ¬ (countOf s : Int) < 0 := by omega
 rw [hq] at R45m
 clear hf hy hq hyx R45 R25 R46m R46 R43 hxx hxs hx3 hcp hmx
 clear g hm h hi hk hmem hc494 hfn hc1 hin hw3
 generalize wordOf s y = qy at *
 generalize countOf s = c at *
 have T1 := Lib.hid trivial
 have T2 := Lib.hid trivial
 have T3 := Lib.hid trivial
 have T4 := Lib.hid trivial
 have T5 := Lib.hid trivial
 have T6 := Lib.hid trivial
 have T7 := Lib.hid trivial
 have T8 := Lib.hid trivial
 go_enter Tryz.func8, Tryz.ntmps8
 go_wp2_with (first | (go_at_call 32; refine (R32.out _ B.out).mono ?_; rintro e w9 ⟨rfl, hE9⟩; replace B := Lib.hid (B.out.next hE9); (try clear c0 c1 c2 c3 c4 c5 c6 c7 c8 c9 c10 c11 c12); have c0 := B.out.box 0 _ rfl; have c1 := B.out.box 1 _ rfl; have c2 := B.out.box 2 _ rfl; have c3 := B.out.box 3 _ rfl; have c4 := B.out.box 4 _ rfl; have c5 := B.out.box 5 _ rfl; have c6 := B.out.box 6 _ rfl; have c7 := B.out.box 7 _ rfl; have c8 := B.out.box 8 _ rfl; have c9 := B.out.box 9 _ rfl; have c10 := B.out.box 10 _ rfl; have c11 := B.out.box 11 _ rfl; have c12 := B.out.box 12 _ rfl; clear hE9) | (go_at_call 38; refine (Q38.out _ B.out).mono ?_; rintro e w9 ⟨⟨ox, cx, rfl, hj⟩, hE9⟩; replace B := Lib.hid (B.out.next hE9); (try clear c0 c1 c2 c3 c4 c5 c6 c7 c8 c9 c10 c11 c12); have c0 := B.out.box 0 _ rfl; have c1 := B.out.box 1 _ rfl; have c2 := B.out.box 2 _ rfl; have c3 := B.out.box 3 _ rfl; have c4 := B.out.box 4 _ rfl; have c5 := B.out.box 5 _ rfl; have c6 := B.out.box 6 _ rfl; have c7 := B.out.box 7 _ rfl; have c8 := B.out.box 8 _ rfl; have c9 := B.out.box 9 _ rfl; have c10 := B.out.box 10 _ rfl; have c11 := B.out.box 11 _ rfl; have c12 := B.out.box 12 _ rfl; have Hx := Lib.hid hj; clear hj; clear hE9) | (go_at_call 39; refine (Q39.out _ B.out).mono ?_; rintro e w9 ⟨⟨oy, cy, rfl, hj⟩, hE9⟩; replace B := Lib.hid (B.out.next hE9); (try clear c0 c1 c2 c3 c4 c5 c6 c7 c8 c9 c10 c11 c12); have c0 := B.out.box 0 _ rfl; have c1 := B.out.box 1 _ rfl; have c2 := B.out.box 2 _ rfl; have c3 := B.out.box 3 _ rfl; have c4 := B.out.box 4 _ rfl; have c5 := B.out.box 5 _ rfl; have c6 := B.out.box 6 _ rfl; have c7 := B.out.box 7 _ rfl; have c8 := B.out.box 8 _ rfl; have c9 := B.out.box 9 _ rfl; have c10 := B.out.box 10 _ rfl; have c11 := B.out.box 11 _ rfl; have c12 := B.out.box 12 _ rfl; replace Hx := Lib.hid (Hx.out.ext hE9); have Hy := Lib.hid hj; clear hj; clear hE9) | (go_at_call 40; refine (R40.out _ B.out).mono ?_; rintro e w9 ⟨rfl, hE9⟩; replace B := Lib.hid (B.out.next hE9); (try clear c0 c1 c2 c3 c4 c5 c6 c7 c8 c9 c10 c11 c12); have c0 := B.out.box 0 _ rfl; have c1 := B.out.box 1 _ rfl; have c2 := B.out.box 2 _ rfl; have c3 := B.out.box 3 _ rfl; have c4 := B.out.box 4 _ rfl; have c5 := B.out.box 5 _ rfl; have c6 := B.out.box 6 _ rfl; have c7 := B.out.box 7 _ rfl; have c8 := B.out.box 8 _ rfl; have c9 := B.out.box 9 _ rfl; have c10 := B.out.box 10 _ rfl; have c11 := B.out.box 11 _ rfl; have c12 := B.out.box 12 _ rfl; replace Hx := Lib.hid (Hx.out.ext hE9); replace Hy := Lib.hid (Hy.out.ext hE9); clear hE9) | (go_at_call 45; have t0 := T1; clear t0 T1; refine (R45m.out _ B.out).mono ?_; rintro e w9 ⟨rfl, hE9⟩; replace B := Lib.hid (B.out.next hE9); (try clear c0 c1 c2 c3 c4 c5 c6 c7 c8 c9 c10 c11 c12); have c0 := B.out.box 0 _ rfl; have c1 := B.out.box 1 _ rfl; have c2 := B.out.box 2 _ rfl; have c3 := B.out.box 3 _ rfl; have c4 := B.out.box 4 _ rfl; have c5 := B.out.box 5 _ rfl; have c6 := B.out.box 6 _ rfl; have c7 := B.out.box 7 _ rfl; have c8 := B.out.box 8 _ rfl; have c9 := B.out.box 9 _ rfl; have c10 := B.out.box 10 _ rfl; have c11 := B.out.box 11 _ rfl; have c12 := B.out.box 12 _ rfl; replace Hx := Lib.hid (Hx.out.ext hE9); replace Hy := Lib.hid (Hy.out.ext hE9); clear hE9) | (go_at_call 25; have t0 := T2; clear t0 T2; refine (S25y.out _ oy cy B.out Hy.out).mono ?_; rintro e w9 ⟨rfl, hE9⟩; replace B := Lib.hid (B.out.next hE9); (try clear c0 c1 c2 c3 c4 c5 c6 c7 c8 c9 c10 c11 c12); have c0 := B.out.box 0 _ rfl; have c1 := B.out.box 1 _ rfl; have c2 := B.out.box 2 _ rfl; have c3 := B.out.box 3 _ rfl; have c4 := B.out.box 4 _ rfl; have c5 := B.out.box 5 _ rfl; have c6 := B.out.box 6 _ rfl; have c7 := B.out.box 7 _ rfl; have c8 := B.out.box 8 _ rfl; have c9 := B.out.box 9 _ rfl; have c10 := B.out.box 10 _ rfl; have c11 := B.out.box 11 _ rfl; have c12 := B.out.box 12 _ rfl; replace Hx := Lib.hid (Hx.out.ext hE9); replace Hy := Lib.hid (Hy.out.ext hE9); clear hE9) | (go_at_call 45; have t0 := T3; clear t0 T3; refine (S45y.out _ oy cy B.out Hy.out).mono ?_; rintro e w9 ⟨rfl, hE9⟩; replace B := Lib.hid (B.out.next hE9); (try clear c0 c1 c2 c3 c4 c5 c6 c7 c8 c9 c10 c11 c12); have c0 := B.out.box 0 _ rfl; have c1 := B.out.box 1 _ rfl; have c2 := B.out.box 2 _ rfl; have c3 := B.out.box 3 _ rfl; have c4 := B.out.box 4 _ rfl; have c5 := B.out.box 5 _ rfl; have c6 := B.out.box 6 _ rfl; have c7 := B.out.box 7 _ rfl; have c8 := B.out.box 8 _ rfl; have c9 := B.out.box 9 _ rfl; have c10 := B.out.box 10 _ rfl; have c11 := B.out.box 11 _ rfl; have c12 := B.out.box 12 _ rfl; replace Hx := Lib.hid (Hx.out.ext hE9); replace Hy := Lib.hid (Hy.out.ext hE9); clear hE9) | (go_at_call 46; have t0 := T4; clear t0 T4; refine (S46my.out _ oy cy B.out Hy.out).mono ?_; rintro e w9 ⟨rfl, hE9⟩; replace B := Lib.hid (B.out.next hE9); (try clear c0 c1 c2 c3 c4 c5 c6 c7 c8 c9 c10 c11 c12); have c0 := B.out.box 0 _ rfl; have c1 := B.out.box 1 _ rfl; have c2 := B.out.box 2 _ rfl; have c3 := B.out.box 3 _ rfl; have c4 := B.out.box 4 _ rfl; have c5 := B.out.box 5 _ rfl; have c6 := B.out.box 6 _ rfl; have c7 := B.out.box 7 _ rfl; have c8 := B.out.box 8 _ rfl; have c9 := B.out.box 9 _ rfl; have c10 := B.out.box 10 _ rfl; have c11 := B.out.box 11 _ rfl; have c12 := B.out.box 12 _ rfl; replace Hx := Lib.hid (Hx.out.ext hE9); replace Hy := Lib.hid (Hy.out.ext hE9); clear hE9) | (go_at_call 25; have t0 := T5; clear t0 T5; refine (S25x.out _ ox cx B.out Hx.out).mono ?_; rintro e w9 ⟨rfl, hE9⟩; replace B := Lib.hid (B.out.next hE9); (try clear c0 c1 c2 c3 c4 c5 c6 c7 c8 c9 c10 c11 c12); have c0 := B.out.box 0 _ rfl; have c1 := B.out.box 1 _ rfl; have c2 := B.out.box 2 _ rfl; have c3 := B.out.box 3 _ rfl; have c4 := B.out.box 4 _ rfl; have c5 := B.out.box 5 _ rfl; have c6 := B.out.box 6 _ rfl; have c7 := B.out.box 7 _ rfl; have c8 := B.out.box 8 _ rfl; have c9 := B.out.box 9 _ rfl; have c10 := B.out.box 10 _ rfl; have c11 := B.out.box 11 _ rfl; have c12 := B.out.box 12 _ rfl; replace Hx := Lib.hid (Hx.out.ext hE9); replace Hy := Lib.hid (Hy.out.ext hE9); clear hE9) | (go_at_call 46; have t0 := T6; clear t0 T6; refine (S46xy.out _ ox cx oy cy Hx.out Hy.out).mono ?_; rintro e w9 ⟨rfl, hE9⟩; replace B := Lib.hid (B.out.next hE9); (try clear c0 c1 c2 c3 c4 c5 c6 c7 c8 c9 c10 c11 c12); have c0 := B.out.box 0 _ rfl; have c1 := B.out.box 1 _ rfl; have c2 := B.out.box 2 _ rfl; have c3 := B.out.box 3 _ rfl; have c4 := B.out.box 4 _ rfl; have c5 := B.out.box 5 _ rfl; have c6 := B.out.box 6 _ rfl; have c7 := B.out.box 7 _ rfl; have c8 := B.out.box 8 _ rfl; have c9 := B.out.box 9 _ rfl; have c10 := B.out.box 10 _ rfl; have c11 := B.out.box 11 _ rfl; have c12 := B.out.box 12 _ rfl; replace Hx := Lib.hid (Hx.out.ext hE9); replace Hy := Lib.hid (Hy.out.ext hE9); clear hE9) | (go_at_call 45; have t0 := T7; clear t0 T7; refine (S45x.out _ ox cx B.out Hx.out).mono ?_; rintro e w9 ⟨rfl, hE9⟩; replace B := Lib.hid (B.out.next hE9); (try clear c0 c1 c2 c3 c4 c5 c6 c7 c8 c9 c10 c11 c12); have c0 := B.out.box 0 _ rfl; have c1 := B.out.box 1 _ rfl; have c2 := B.out.box 2 _ rfl; have c3 := B.out.box 3 _ rfl; have c4 := B.out.box 4 _ rfl; have c5 := B.out.box 5 _ rfl; have c6 := B.out.box 6 _ rfl; have c7 := B.out.box 7 _ rfl; have c8 := B.out.box 8 _ rfl; have c9 := B.out.box 9 _ rfl; have c10 := B.out.box 10 _ rfl; have c11 := B.out.box 11 _ rfl; have c12 := B.out.box 12 _ rfl; replace Hx := Lib.hid (Hx.out.ext hE9); replace Hy := Lib.hid (Hy.out.ext hE9); clear hE9) | (go_at_call 46; have t0 := T8; clear t0 T8; refine (S46mx.out _ ox cx B.out Hx.out).mono ?_; rintro e w9 ⟨rfl, hE9⟩; replace B := Lib.hid (B.out.next hE9); (try clear c0 c1 c2 c3 c4 c5 c6 c7 c8 c9 c10 c11 c12); have c0 := B.out.box 0 _ rfl; have c1 := B.out.box 1 _ rfl; have c2 := B.out.box 2 _ rfl; have c3 := B.out.box 3 _ rfl; have c4 := B.out.box 4 _ rfl; have c5 := B.out.box 5 _ rfl; have c6 := B.out.box 6 _ rfl; have c7 := B.out.box 7 _ rfl; have c8 := B.out.box 8 _ rfl; have c9 := B.out.box 9 _ rfl; have c10 := B.out.box 10 _ rfl; have c11 := B.out.box 11 _ rfl; have c12 := B.out.box 12 _ rfl; replace Hx := Lib.hid (Hx.out.ext hE9); replace Hy := Lib.hid (Hy.out.ext hE9); clear hE9) | (go_at_call 43; refine (S43.out _ ox cx B.out Hx.out).mono ?_; rintro e w9 ⟨rfl, hE9⟩; replace B := Lib.hid (B.out.next hE9); (try clear c0 c1 c2 c3 c4 c5 c6 c7 c8 c9 c10 c11 c12); have c0 := B.out.box 0 _ rfl; have c1 := B.out.box 1 _ rfl; have c2 := B.out.box 2 _ rfl; have c3 := B.out.box 3 _ rfl; have c4 := B.out.box 4 _ rfl; have c5 := B.out.box 5 _ rfl; have c6 := B.out.box 6 _ rfl; have c7 := B.out.box 7 _ rfl; have c8 := B.out.box 8 _ rfl; have c9 := B.out.box 9 _ rfl; have c10 := B.out.box 10 _ rfl; have c11 := B.out.box 11 _ rfl; have c12 := B.out.box 12 _ rfl; clear hE9) | (go_at_call 22; refine (Rk.out _ B.out).mono ?_; rintro e w9 ⟨rfl, hE9⟩; replace B := Lib.hid (B.out.next hE9); (try clear c0 c1 c2 c3 c4 c5 c6 c7 c8 c9 c10 c11 c12); have c0 := B.out.box 0 _ rfl; have c1 := B.out.box 1 _ rfl; have c2 := B.out.box 2 _ rfl; have c3 := B.out.box 3 _ rfl; have c4 := B.out.box 4 _ rfl; have c5 := B.out.box 5 _ rfl; have c6 := B.out.box 6 _ rfl; have c7 := B.out.box 7 _ rfl; have c8 := B.out.box 8 _ rfl; have c9 := B.out.box 9 _ rfl; have c10 := B.out.box 10 _ rfl; have c11 := B.out.box 11 _ rfl; have c12 := B.out.box 12 _ rfl; clear hE9))
 go_ret
 exact ⟨rfl, B.out.ext⟩

theorem law8_g {s : Sh} (g : Fine s) {m : List Nat} (hm : IsMix s m) {y : List Nat} (hy : (allMix s.tins.length).find? (mayOf s) = some y) {x : List Nat} (hf : (allMix s.tins.length).find? (surely s) = some x) (hq : wordOf s m = 3) (hmx : ¬ m = x) {ot ol : Option Addr} {cap cl : Nat} {w : World} (h : TinsAt w ot (ofSh s).tins) (hi : IntsAt w ol (upL m)) (k : Int) (hk : w.cell? ⟨1, 0, none⟩ = some (.int .i64 k)) :
  Calls Tryz.prog 8 #[sheetV (ofSh s) ot cap, .slice ol m.length cl] w fun e w' => e = .returned (.bool true) ∧ Ext w w' := by
 have B := Lib.hid (LB.start (cap := cap) h)
 have R32 := Lib.hid (fun W (hW : LB (ofSh s) ot cap w W) => right_up g hm ot cap ol cl W hW.tins (hi.ext hW.ext))
 have Rk := Lib.hid (fun (W : World) (hW : LB (ofSh s) ot cap w W) => known_any W k (cell_ext hW.ext hk))
 have R40 := Lib.hid (fun W (hW : LB (ofSh s) ot cap w W) => sCount_any s g ot cap W hW.tins)
 have R45m := Lib.hid (fun W (hW : LB (ofSh s) ot cap w W) => word45 s g m hm ot cap ol cl W hW.tins (hi.ext hW.ext))
 have R45 := Lib.hid (fun x (hx : IsMix s x) W o c (hW : LB (ofSh s) ot cap w W) (hi : IntsAt W o (upL x)) => word45 s g x hx ot cap o c W hW.tins hi)
 have R25 := Lib.hid (fun x (hx : IsMix s x) W o c (hW : LB (ofSh s) ot cap w W) (hi : IntsAt W o (upL x)) => rmix_up g hx ot cap o c W hi)
 have R46m := Lib.hid (fun x (hx : IsMix s x) W o c (hW : LB (ofSh s) ot cap w W) (hj : IntsAt W o (upL x)) => soon_up g hm hx ol o cl c W (hi.ext hW.ext) hj)
 have R46 := Lib.hid (fun x y (hx : IsMix s x) (hy : IsMix s y) W o c o2 c2 (hj : IntsAt W o (upL x)) (hj2 : IntsAt W o2 (upL y)) => soon_up g hx hy o o2 c c2 W hj hj2)
 have R43 := Lib.hid (fun x (hx : IsMix s x) W o c (hW : LB (ofSh s) ot cap w W) (hj : IntsAt W o (upL x)) => tsame_up m x ol o cl c W (hi.ext hW.ext) hj (by have := hm.len; have := g.len2; omega) (by have := hx.len; have := g.len2; omega))
 have hmem := (mem_allMix g).2 hm
 have hc494 := count_494 g
 have hfn := @first_none s
 have hc1 : ∀ x, (allMix s.tins.length).find? (surely s) = some x → m ≠ x → surely s m = true → 1 < countOf s := fun x hx hne hs => ((first_rival g hx hm hs).2).resolve_left hne
 have hin := word_in s m
 have hw3 := @word_surely s m
 have Q39 := Lib.hid (fun W (hW : LB (ofSh s) ot cap w W) => (sMay_any s g ot cap W hW.tins).mono fun e w' hp => found_s1 hy hp)
 have hyx := (mem_allMix g).1 (List.mem_of_find?_eq_some hy)
 have hyq : (wordOf s y == 1) = false := by have := List.find?_some hy; simpa [mayOf] using this
 have S25y := Lib.hid (R25.out y hyx)
 have S45y := Lib.hid (R45.out y hyx)
 have hns : soonB m y = false := not_soon (may_rival g hy hm (by omega))
 have S46my := Lib.hid (R46m.out y hyx)
 rw [hns] at S46my
 clear hns
 have Q38 := Lib.hid (fun W (hW : LB (ofSh s) ot cap w W) => (sFirst_any s g ot cap W hW.tins).mono fun e w' hp => found_s1 hf hp)
 have hxx := (mem_allMix g).1 (List.mem_of_find?_eq_some hf)
 have hxs : surely s x = true := List.find?_some hf
 have hx3 : wordOf s x = 3 := word_surely.2 hxs
 have S25x := Lib.hid (R25.out x hxx)
 have S45x := Lib.hid (R45.out x hxx)
 rw [hx3] at S45x
 have S46xy := Lib.hid (R46.out x y hxx hyx)
 rw [not_soon (may_rival g hy hxx (by omega))] at S46xy
 have hcp : 0 < countOf s := Nat.pos_of_ne_zero fun e => by have := hfn.2 e; rw [firstOf, hf] at this; cases this
 have S46mx := Lib.hid (R46m.out x hxx)
 rw [not_soon (first_rival g hf hm (hw3.1 hq)).1] at S46mx
 have S43 := Lib.hid (R43.out x hxx)
 rw [decide_eq_false hmx] at S43
 have hc2 : (1 : Int) < (countOf s : Int) := by have := hc1 x hf hmx (hw3.1 hq); omega
 have hcI1 : (0 : Int) < (countOf s : Int) := by omega
 have hcI2 : ¬ (494 : Int) < (countOf s : Int) := by omega
 have hcI3 : ¬ (countOf s : Int) < 0 := by omega
 rw [hq] at R45m
 clear hf hy hq hyx R45 R25 R46m R46 R43 hxx hxs hx3 hcp hmx
 clear g hm h hi hk hmem hc494 hfn hc1 hin hw3
 generalize wordOf s y = qy at *
 generalize countOf s = c at *
 have T1 := Lib.hid trivial
 have T2 := Lib.hid trivial
 have T3 := Lib.hid trivial
 have T4 := Lib.hid trivial
 have T5 := Lib.hid trivial
 have T6 := Lib.hid trivial
 have T7 := Lib.hid trivial
 have T8 := Lib.hid trivial
 go_enter Tryz.func8, Tryz.ntmps8
 go_wp2_with (first | (go_at_call 32; refine (R32.out _ B.out).mono ?_; rintro e w9 ⟨rfl, hE9⟩; replace B := Lib.hid (B.out.next hE9); (try clear c0 c1 c2 c3 c4 c5 c6 c7 c8 c9 c10 c11 c12); have c0 := B.out.box 0 _ rfl; have c1 := B.out.box 1 _ rfl; have c2 := B.out.box 2 _ rfl; have c3 := B.out.box 3 _ rfl; have c4 := B.out.box 4 _ rfl; have c5 := B.out.box 5 _ rfl; have c6 := B.out.box 6 _ rfl; have c7 := B.out.box 7 _ rfl; have c8 := B.out.box 8 _ rfl; have c9 := B.out.box 9 _ rfl; have c10 := B.out.box 10 _ rfl; have c11 := B.out.box 11 _ rfl; have c12 := B.out.box 12 _ rfl; clear hE9) | (go_at_call 38; refine (Q38.out _ B.out).mono ?_; rintro e w9 ⟨⟨ox, cx, rfl, hj⟩, hE9⟩; replace B := Lib.hid (B.out.next hE9); (try clear c0 c1 c2 c3 c4 c5 c6 c7 c8 c9 c10 c11 c12); have c0 := B.out.box 0 _ rfl; have c1 := B.out.box 1 _ rfl; have c2 := B.out.box 2 _ rfl; have c3 := B.out.box 3 _ rfl; have c4 := B.out.box 4 _ rfl; have c5 := B.out.box 5 _ rfl; have c6 := B.out.box 6 _ rfl; have c7 := B.out.box 7 _ rfl; have c8 := B.out.box 8 _ rfl; have c9 := B.out.box 9 _ rfl; have c10 := B.out.box 10 _ rfl; have c11 := B.out.box 11 _ rfl; have c12 := B.out.box 12 _ rfl; have Hx := Lib.hid hj; clear hj; clear hE9) | (go_at_call 39; refine (Q39.out _ B.out).mono ?_; rintro e w9 ⟨⟨oy, cy, rfl, hj⟩, hE9⟩; replace B := Lib.hid (B.out.next hE9); (try clear c0 c1 c2 c3 c4 c5 c6 c7 c8 c9 c10 c11 c12); have c0 := B.out.box 0 _ rfl; have c1 := B.out.box 1 _ rfl; have c2 := B.out.box 2 _ rfl; have c3 := B.out.box 3 _ rfl; have c4 := B.out.box 4 _ rfl; have c5 := B.out.box 5 _ rfl; have c6 := B.out.box 6 _ rfl; have c7 := B.out.box 7 _ rfl; have c8 := B.out.box 8 _ rfl; have c9 := B.out.box 9 _ rfl; have c10 := B.out.box 10 _ rfl; have c11 := B.out.box 11 _ rfl; have c12 := B.out.box 12 _ rfl; replace Hx := Lib.hid (Hx.out.ext hE9); have Hy := Lib.hid hj; clear hj; clear hE9) | (go_at_call 40; refine (R40.out _ B.out).mono ?_; rintro e w9 ⟨rfl, hE9⟩; replace B := Lib.hid (B.out.next hE9); (try clear c0 c1 c2 c3 c4 c5 c6 c7 c8 c9 c10 c11 c12); have c0 := B.out.box 0 _ rfl; have c1 := B.out.box 1 _ rfl; have c2 := B.out.box 2 _ rfl; have c3 := B.out.box 3 _ rfl; have c4 := B.out.box 4 _ rfl; have c5 := B.out.box 5 _ rfl; have c6 := B.out.box 6 _ rfl; have c7 := B.out.box 7 _ rfl; have c8 := B.out.box 8 _ rfl; have c9 := B.out.box 9 _ rfl; have c10 := B.out.box 10 _ rfl; have c11 := B.out.box 11 _ rfl; have c12 := B.out.box 12 _ rfl; replace Hx := Lib.hid (Hx.out.ext hE9); replace Hy := Lib.hid (Hy.out.ext hE9); clear hE9) | (go_at_call 45; have t0 := T1; clear t0 T1; refine (R45m.out _ B.out).mono ?_; rintro e w9 ⟨rfl, hE9⟩; replace B := Lib.hid (B.out.next hE9); (try clear c0 c1 c2 c3 c4 c5 c6 c7 c8 c9 c10 c11 c12); have c0 := B.out.box 0 _ rfl; have c1 := B.out.box 1 _ rfl; have c2 := B.out.box 2 _ rfl; have c3 := B.out.box 3 _ rfl; have c4 := B.out.box 4 _ rfl; have c5 := B.out.box 5 _ rfl; have c6 := B.out.box 6 _ rfl; have c7 := B.out.box 7 _ rfl; have c8 := B.out.box 8 _ rfl; have c9 := B.out.box 9 _ rfl; have c10 := B.out.box 10 _ rfl; have c11 := B.out.box 11 _ rfl; have c12 := B.out.box 12 _ rfl; replace Hx := Lib.hid (Hx.out.ext hE9); replace Hy := Lib.hid (Hy.out.ext hE9); clear hE9) | (go_at_call 25; have t0 := T2; clear t0 T2; refine (S25y.out _ oy cy B.out Hy.out).mono ?_; rintro e w9 ⟨rfl, hE9⟩; replace B := Lib.hid (B.out.next hE9); (try clear c0 c1 c2 c3 c4 c5 c6 c7 c8 c9 c10 c11 c12); have c0 := B.out.box 0 _ rfl; have c1 := B.out.box 1 _ rfl; have c2 := B.out.box 2 _ rfl; have c3 := B.out.box 3 _ rfl; have c4 := B.out.box 4 _ rfl; have c5 := B.out.box 5 _ rfl; have c6 := B.out.box 6 _ rfl; have c7 := B.out.box 7 _ rfl; have c8 := B.out.box 8 _ rfl; have c9 := B.out.box 9 _ rfl; have c10 := B.out.box 10 _ rfl; have c11 := B.out.box 11 _ rfl; have c12 := B.out.box 12 _ rfl; replace Hx := Lib.hid (Hx.out.ext hE9); replace Hy := Lib.hid (Hy.out.ext hE9); clear hE9) | (go_at_call 45; have t0 := T3; clear t0 T3; refine (S45y.out _ oy cy B.out Hy.out).mono ?_; rintro e w9 ⟨rfl, hE9⟩; replace B := Lib.hid (B.out.next hE9); (try clear c0 c1 c2 c3 c4 c5 c6 c7 c8 c9 c10 c11 c12); have c0 := B.out.box 0 _ rfl; have c1 := B.out.box 1 _ rfl; have c2 := B.out.box 2 _ rfl; have c3 := B.out.box 3 _ rfl; have c4 := B.out.box 4 _ rfl; have c5 := B.out.box 5 _ rfl; have c6 := B.out.box 6 _ rfl; have c7 := B.out.box 7 _ rfl; have c8 := B.out.box 8 _ rfl; have c9 := B.out.box 9 _ rfl; have c10 := B.out.box 10 _ rfl; have c11 := B.out.box 11 _ rfl; have c12 := B.out.box 12 _ rfl; replace Hx := Lib.hid (Hx.out.ext hE9); replace Hy := Lib.hid (Hy.out.ext hE9); clear hE9) | (go_at_call 46; have t0 := T4; clear t0 T4; refine (S46my.out _ oy cy B.out Hy.out).mono ?_; rintro e w9 ⟨rfl, hE9⟩; replace B := Lib.hid (B.out.next hE9); (try clear c0 c1 c2 c3 c4 c5 c6 c7 c8 c9 c10 c11 c12); have c0 := B.out.box 0 _ rfl; have c1 := B.out.box 1 _ rfl; have c2 := B.out.box 2 _ rfl; have c3 := B.out.box 3 _ rfl; have c4 := B.out.box 4 _ rfl; have c5 := B.out.box 5 _ rfl; have c6 := B.out.box 6 _ rfl; have c7 := B.out.box 7 _ rfl; have c8 := B.out.box 8 _ rfl; have c9 := B.out.box 9 _ rfl; have c10 := B.out.box 10 _ rfl; have c11 := B.out.box 11 _ rfl; have c12 := B.out.box 12 _ rfl; replace Hx := Lib.hid (Hx.out.ext hE9); replace Hy := Lib.hid (Hy.out.ext hE9); clear hE9) | (go_at_call 25; have t0 := T5; clear t0 T5; refine (S25x.out _ ox cx B.out Hx.out).mono ?_; rintro e w9 ⟨rfl, hE9⟩; replace B := Lib.hid (B.out.next hE9); (try clear c0 c1 c2 c3 c4 c5 c6 c7 c8 c9 c10 c11 c12); have c0 := B.out.box 0 _ rfl; have c1 := B.out.box 1 _ rfl; have c2 := B.out.box 2 _ rfl; have c3 := B.out.box 3 _ rfl; have c4 := B.out.box 4 _ rfl; have c5 := B.out.box 5 _ rfl; have c6 := B.out.box 6 _ rfl; have c7 := B.out.box 7 _ rfl; have c8 := B.out.box 8 _ rfl; have c9 := B.out.box 9 _ rfl; have c10 := B.out.box 10 _ rfl; have c11 := B.out.box 11 _ rfl; have c12 := B.out.box 12 _ rfl; replace Hx := Lib.hid (Hx.out.ext hE9); replace Hy := Lib.hid (Hy.out.ext hE9); clear hE9) | (go_at_call 46; have t0 := T6; clear t0 T6; refine (S46xy.out _ ox cx oy cy Hx.out Hy.out).mono ?_; rintro e w9 ⟨rfl, hE9⟩; replace B := Lib.hid (B.out.next hE9); (try clear c0 c1 c2 c3 c4 c5 c6 c7 c8 c9 c10 c11 c12); have c0 := B.out.box 0 _ rfl; have c1 := B.out.box 1 _ rfl; have c2 := B.out.box 2 _ rfl; have c3 := B.out.box 3 _ rfl; have c4 := B.out.box 4 _ rfl; have c5 := B.out.box 5 _ rfl; have c6 := B.out.box 6 _ rfl; have c7 := B.out.box 7 _ rfl; have c8 := B.out.box 8 _ rfl; have c9 := B.out.box 9 _ rfl; have c10 := B.out.box 10 _ rfl; have c11 := B.out.box 11 _ rfl; have c12 := B.out.box 12 _ rfl; replace Hx := Lib.hid (Hx.out.ext hE9); replace Hy := Lib.hid (Hy.out.ext hE9); clear hE9) | (go_at_call 45; have t0 := T7; clear t0 T7; refine (S45x.out _ ox cx B.out Hx.out).mono ?_; rintro e w9 ⟨rfl, hE9⟩; replace B := Lib.hid (B.out.next hE9); (try clear c0 c1 c2 c3 c4 c5 c6 c7 c8 c9 c10 c11 c12); have c0 := B.out.box 0 _ rfl; have c1 := B.out.box 1 _ rfl; have c2 := B.out.box 2 _ rfl; have c3 := B.out.box 3 _ rfl; have c4 := B.out.box 4 _ rfl; have c5 := B.out.box 5 _ rfl; have c6 := B.out.box 6 _ rfl; have c7 := B.out.box 7 _ rfl; have c8 := B.out.box 8 _ rfl; have c9 := B.out.box 9 _ rfl; have c10 := B.out.box 10 _ rfl; have c11 := B.out.box 11 _ rfl; have c12 := B.out.box 12 _ rfl; replace Hx := Lib.hid (Hx.out.ext hE9); replace Hy := Lib.hid (Hy.out.ext hE9); clear hE9) | (go_at_call 46; have t0 := T8; clear t0 T8; refine (S46mx.out _ ox cx B.out Hx.out).mono ?_; rintro e w9 ⟨rfl, hE9⟩; replace B := Lib.hid (B.out.next hE9); (try clear c0 c1 c2 c3 c4 c5 c6 c7 c8 c9 c10 c11 c12); have c0 := B.out.box 0 _ rfl; have c1 := B.out.box 1 _ rfl; have c2 := B.out.box 2 _ rfl; have c3 := B.out.box 3 _ rfl; have c4 := B.out.box 4 _ rfl; have c5 := B.out.box 5 _ rfl; have c6 := B.out.box 6 _ rfl; have c7 := B.out.box 7 _ rfl; have c8 := B.out.box 8 _ rfl; have c9 := B.out.box 9 _ rfl; have c10 := B.out.box 10 _ rfl; have c11 := B.out.box 11 _ rfl; have c12 := B.out.box 12 _ rfl; replace Hx := Lib.hid (Hx.out.ext hE9); replace Hy := Lib.hid (Hy.out.ext hE9); clear hE9) | (go_at_call 43; refine (S43.out _ ox cx B.out Hx.out).mono ?_; rintro e w9 ⟨rfl, hE9⟩; replace B := Lib.hid (B.out.next hE9); (try clear c0 c1 c2 c3 c4 c5 c6 c7 c8 c9 c10 c11 c12); have c0 := B.out.box 0 _ rfl; have c1 := B.out.box 1 _ rfl; have c2 := B.out.box 2 _ rfl; have c3 := B.out.box 3 _ rfl; have c4 := B.out.box 4 _ rfl; have c5 := B.out.box 5 _ rfl; have c6 := B.out.box 6 _ rfl; have c7 := B.out.box 7 _ rfl; have c8 := B.out.box 8 _ rfl; have c9 := B.out.box 9 _ rfl; have c10 := B.out.box 10 _ rfl; have c11 := B.out.box 11 _ rfl; have c12 := B.out.box 12 _ rfl; clear hE9) | (go_at_call 22; refine (Rk.out _ B.out).mono ?_; rintro e w9 ⟨rfl, hE9⟩; replace B := Lib.hid (B.out.next hE9); (try clear c0 c1 c2 c3 c4 c5 c6 c7 c8 c9 c10 c11 c12); have c0 := B.out.box 0 _ rfl; have c1 := B.out.box 1 _ rfl; have c2 := B.out.box 2 _ rfl; have c3 := B.out.box 3 _ rfl; have c4 := B.out.box 4 _ rfl; have c5 := B.out.box 5 _ rfl; have c6 := B.out.box 6 _ rfl; have c7 := B.out.box 7 _ rfl; have c8 := B.out.box 8 _ rfl; have c9 := B.out.box 9 _ rfl; have c10 := B.out.box 10 _ rfl; have c11 := B.out.box 11 _ rfl; have c12 := B.out.box 12 _ rfl; clear hE9))
 go_ret
 exact ⟨rfl, B.out.ext⟩

theorem law8g {s : Sh} (g : Fine s) {m : List Nat} (hm : IsMix s m) {ot ol : Option Addr} {cap cl : Nat} {w : World} (h : TinsAt w ot (ofSh s).tins) (hi : IntsAt w ol (upL m)) (k : Int) (hk : w.cell? ⟨1, 0, none⟩ = some (.int .i64 k)) :
  Calls Tryz.prog 8 #[sheetV (ofSh s) ot cap, .slice ol m.length cl] w fun e w' => e = .returned (.bool true) ∧ Ext w w' := by
 have hmem := (mem_allMix g).2 hm
 have hin := word_in s m
 have hw3 := @word_surely s m
 cases hy : (allMix s.tins.length).find? (mayOf s) with
 | none =>
  have hf : (allMix s.tins.length).find? (surely s) = none := by
   cases hf : (allMix s.tins.length).find? (surely s) with
   | none => rfl
   | some x =>
    obtain ⟨z, hz⟩ := Go.TintM.first_may (s := s) hf
    exact absurd (hz.symm.trans hy) (by simp)
  exact law8_a g hm hy hf h hi k hk
 | some y =>
  cases hf : (allMix s.tins.length).find? (surely s) with
  | none =>
   have h3 : wordOf s m ≠ 3 := fun e => by have := find_not hf hmem; rw [hw3.1 e] at this; cases this
   rcases (show wordOf s m = 1 ∨ wordOf s m = 2 by omega) with hq | hq
   ·exact law8_b g hm hy hf hq h hi k hk
   ·exact law8_c g hm hy hf hq h hi k hk
  | some x =>
   rcases (show wordOf s m = 1 ∨ wordOf s m = 2 ∨ wordOf s m = 3 by omega) with hq | hq | hq
   ·exact law8_d g hm hy hf hq h hi k hk
   ·exact law8_e g hm hy hf hq h hi k hk
   ·by_cases hmx : m = x
    ·exact law8_f g hm hy hf hq hmx h hi k hk
    ·exact law8_g g hm hy hf hq hmx h hi k hk


theorem law8 {S : SI} {l : List Int} {ot ol : Option Addr} {cap cl : Nat} {w : World} (h : SArg w S ot cap) (hl : LArg w l ol cl) (k : Int) (hk : w.cell? ⟨1, 0, none⟩ = some (.int .i64 k)) :
  Calls Tryz.prog 8 #[sheetV S ot cap, .slice ol l.length cl] w fun e w' => e = .returned (.bool true) ∧ Ext w w' := by
 cases hr : rightB S l
 ·have B := Lib.hid (LB.start (cap := cap) h.tins)
  have R32 := Lib.hid (fun W (hW : LB S ot cap w W) => right_any S ot cap l ol cl W hW.tins h.small (hl.ints.ext hW.ext) hl.small)
  rw [hr] at R32
  have Rk := Lib.hid (fun (W : World) (hW : LB S ot cap w W) => known_any W k (cell_ext hW.ext hk))
  clear h hl hk hr
  go_enter Tryz.func8, Tryz.ntmps8
  go_wp2_with (first | (go_at_call 32; refine (R32.out _ B.out).mono ?_; rintro e w9 ⟨rfl, hE9⟩; replace B := Lib.hid (B.out.next hE9); (try clear c0 c1 c2 c3 c4 c5 c6 c7 c8 c9 c10 c11 c12); have c0 := B.out.box 0 _ rfl; have c1 := B.out.box 1 _ rfl; have c2 := B.out.box 2 _ rfl; have c3 := B.out.box 3 _ rfl; have c4 := B.out.box 4 _ rfl; have c5 := B.out.box 5 _ rfl; have c6 := B.out.box 6 _ rfl; have c7 := B.out.box 7 _ rfl; have c8 := B.out.box 8 _ rfl; have c9 := B.out.box 9 _ rfl; have c10 := B.out.box 10 _ rfl; have c11 := B.out.box 11 _ rfl; have c12 := B.out.box 12 _ rfl; clear hE9) | (go_at_call 22; refine (Rk.out _ B.out).mono ?_; rintro e w9 ⟨rfl, hE9⟩; replace B := Lib.hid (B.out.next hE9); (try clear c0 c1 c2 c3 c4 c5 c6 c7 c8 c9 c10 c11 c12); have c0 := B.out.box 0 _ rfl; have c1 := B.out.box 1 _ rfl; have c2 := B.out.box 2 _ rfl; have c3 := B.out.box 3 _ rfl; have c4 := B.out.box 4 _ rfl; have c5 := B.out.box 5 _ rfl; have c6 := B.out.box 6 _ rfl; have c7 := B.out.box 7 _ rfl; have c8 := B.out.box 8 _ rfl; have c9 := B.out.box 9 _ rfl; have c10 := B.out.box 10 _ rfl; have c11 := B.out.box 11 _ rfl; have c12 := B.out.box 12 _ rfl; clear hE9))
  go_ret
  exact ⟨rfl, B.out.ext⟩
 ·obtain ⟨s, m, rfl, g, rfl, hm⟩ := right_lift h hr
  rw [upL_length]
  exact law8g g hm h.tins hl.ints k hk

end Go.Proofs.YtjpekonfjihcoaaGreatDoor
