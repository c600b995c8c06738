/- The walk of TintEnough: it answers true. No condition. -/
import Derived.Test.YtjpekonfjihcoaaGreatDoorM33
import Derived.Test.YtjpekonfjihcoaaGreatDoorM27
import Derived.Test.YtjpekonfjihcoaaGreatDoorOnly
import Derived.Test.YtjpekonfjihcoaaGreatDoorM39
import Derived.Test.YtjpekonfjihcoaaGreatDoorR16
import Derived.Test.YtjpekonfjihcoaaGreatDoorM8
import Derived.Test.YtjpekonfjihcoaaGreatDoorM24
import Derived.Test.YtjpekonfjihcoaaGreatDoorM4
import Derived.Test.YtjpekonfjihcoaaGreatDoorM3
namespace Go.TintM
end Go.TintM
set_option maxRecDepth 100000
set_option maxHeartbeats 64000000
set_option linter.unusedVariables false
set_option linter.unusedSimpArgs false
namespace Go.Proofs.YtjpekonfjihcoaaGreatDoor
open Go.RowKit Go.My Go.TintM

theorem ris_at {N : Nat} {l : List Int} (h : risB N l = true) {k : Nat} (hk : k < l.length) : (0 ≤ l.getD k 0 ∧ l.getD k 0 ≤ (N : Int) - 1) ∧ (0 < k → l.getD (k - 1) 0 < l.getD k 0) := by
 rw [risB, List.all_eq_true] at h
 have := h k (List.mem_range.2 hk)
 simp only [risOk, inB, Bool.and_eq_true, Bool.or_eq_true, decide_eq_true_eq] at this
 exact ⟨this.1, fun h0 => this.2.resolve_left (by omega)⟩
theorem rising_pair {ts : List Nat} (h : ∀ k, 0 < k → k < ts.length → ts.getD (k - 1) 0 < ts.getD k 0) : ts.Pairwise (· < ·) := by
 have key : ∀ j, j < ts.length → ∀ i, i < j → ts.getD i 0 < ts.getD j 0 := by
  intro j
  induction j with
  | zero => intro _ i hi; omega
  | succ j ih =>
   intro hj i hi
   have h1 := h (j + 1) (by omega) hj
   rw [Nat.add_sub_cancel] at h1
   by_cases e : i = j
   ·rw [e]; exact h1
   ·have := ih (by omega) i (by omega); omega
 rw [List.pairwise_iff_getElem]
 intro i j hi hj hij
 have := key j hj i hij
 simpa [List.getD, hi, hj] using this
theorem rising_len {ts : List Nat} {N : Nat} (h : ts.Pairwise (· < ·)) (hN : ∀ t ∈ ts, t < N) : ts.length ≤ N := by
 have key : ∀ j (hj : j < ts.length), j ≤ ts[j] := by
  intro j
  induction j with
  | zero => intro _; omega
  | succ j ih =>
   intro hj
   have h1 := List.pairwise_iff_getElem.1 h j (j + 1) (by omega) hj (by omega)
   have := ih (by omega)
   omega
 by_cases h0 : ts.length = 0
 ·omega
 ·have h1 := key (ts.length - 1) (by omega)
  have h2 := hN _ (List.getElem_mem (show ts.length - 1 < ts.length by omega))
  omega
theorem ris_lift {N : Nat} {l : List Int} (h : risB N l = true) : ∃ ts : List Nat, l = upL ts ∧ ts.Pairwise (· < ·) ∧ ∀ t ∈ ts, t < N := by
 obtain ⟨ts, rfl⟩ := upL_lift (l := l) (fun x hx => by
  obtain ⟨i, hi, rfl⟩ := List.getElem_of_mem hx
  have := (ris_at h hi).1.1
  simpa [List.getD, hi] using this)
 have hg : ∀ k, (upL ts).getD k 0 = ((ts.getD k 0 : Nat) : Int) := fun k => by
  simp only [upL, List.getD_eq_getElem?_getD, List.getElem?_map]
  cases ts[k]? <;> rfl
 refine ⟨ts, rfl, rising_pair fun k h0 hk => ?_, fun t ht => ?_⟩
 ·have := (ris_at h (k := k) (by rw [upL_length]; exact hk)).2 h0
  rw [hg, hg] at this
  omega
 ·obtain ⟨i, hi, rfl⟩ := List.getElem_of_mem ht
  have := (ris_at h (k := i) (by rw [upL_length]; exact hi)).1.2
  rw [hg] at this
  have e : ts.getD i 0 = ts[i] := by simp [List.getD, hi]
  rw [e] at this
  omega
theorem ris_of {N : Nat} {ts : List Nat} (h : ts.Pairwise (· < ·)) (hN : ∀ t ∈ ts, t < N) : risB N (upL ts) = true := by
 have hg : ∀ k, (upL ts).getD k 0 = ((ts.getD k 0 : Nat) : Int) := fun k => by
  simp only [upL, List.getD_eq_getElem?_getD, List.getElem?_map]
  cases ts[k]? <;> rfl
 refine ris_yes fun k hk => ?_
 rw [upL_length] at hk
 have e : ∀ j (hj : j < ts.length), ts.getD j 0 = ts[j] := fun j hj => by simp [List.getD, hj]
 simp only [risOk, inB, Bool.and_eq_true, Bool.or_eq_true, decide_eq_true_eq, hg]
 rw [e k hk]
 have h1 := hN _ (List.getElem_mem hk)
 refine ⟨⟨by omega, by omega⟩, ?_⟩
 by_cases h0 : k = 0
 ·exact .inl h0
 ·right
  rw [e (k - 1) (by omega)]
  have := List.pairwise_iff_getElem.1 h (k - 1) k (by omega) hk (by omega)
  omega

/-- First of some tins alone. -/
theorem first_only {s : Sh} (g : Fine s) {ts : List Nat} (hp : ts.Pairwise (· < ·)) (hN : ∀ t ∈ ts, t < s.tins.length) (h1 : 1 ≤ ts.length) (oa : Option Addr) (ca : Nat) (w : World) (h : TinsAt w oa (ofSh (onlyT s ts)).tins) :
  Calls Tryz.prog 38 #[sheetV (ofSh (onlyT s ts)) oa ca] w fun e w' => FoundIn (onlyT s ts) (surely (onlyT s ts)) w e w' :=
 sFirst_any (onlyT s ts) (only_good g hN h1 (by have := rising_len hp hN; have := g.len2; omega)) oa ca w h

theorem law12g {s : Sh} (g : Fine s) {ts : List Nat} (hp : ts.Pairwise (· < ·)) (hN : ∀ t ∈ ts, t < s.tins.length) (h1 : 1 ≤ ts.length) (h6 : ts.length ≤ 6) {ot ol : Option Addr} {cap cl : Nat} {w : World} (h : TinsAt w ot (ofSh s).tins) (hi : IntsAt w ol (upL ts)) (k : Int) (hk : w.cell? ⟨1, 0, none⟩ = some (.int .i64 k)) :
  Calls Tryz.prog 12 #[sheetV (ofSh s) ot cap, .slice ol ts.length cl] w fun e w' => e = .returned (.bool true) ∧ Ext w w' := by
 have B := Lib.hid (LB.start (cap := cap) h)
 have hsm : (ofSh s).tins.length ≤ 9223372036854775807 := by rw [tins_len]; have := g.len2; omega
 have R21 := Lib.hid (fun W => short_any (ofSh s) ot cap W hsm)
 rw [decide_eq_true (show (ofSh s).tins.length ≤ 6 by rw [tins_len]; have := g.len2; omega)] at R21
 have R24 := Lib.hid (fun W (hW : LB (ofSh s) ot cap w W) => rSheet_any (ofSh s) ot cap W hW.tins hsm)
 simp only [sheet_of g] at R24
 have Rk := Lib.hid (fun (W : World) (hW : LB (ofSh s) ot cap w W) => known_any W k (cell_ext hW.ext hk))
 have R52 := Lib.hid (fun W (hW : LB (ofSh s) ot cap w W) => rRising_any (ofSh s) ot cap (upL ts) ol cl W (hi.ext hW.ext) (by rw [upL_length]; omega) (by rw [tins_len]; have := g.len2; omega))
 rw [tins_len, ris_of hp hN, upL_length] at R52
 have R53 := Lib.hid (fun W (hW : LB (ofSh s) ot cap w W) => only_any s ts hN (by omega) ot cap ol cl W hW.tins (hi.ext hW.ext))
 have Rf := Lib.hid (fun W oa ca (hr : TinsAt W oa (ofSh (onlyT s ts)).tins) => first_only g hp hN h1 oa ca W hr)
 have R38 := Lib.hid (fun W (hW : LB (ofSh s) ot cap w W) => sFirst_any s g ot cap W hW.tins)
 have hof := only_first g (sorted_nodup hp) hN h1 (by have := rising_len hp hN; have := g.len2; omega)
 have h6I : ¬ (6 : Int) < (ts.length : Int) := by omega
 have h0I : ((ts.length : Int) == 0) = false := by rw [beq_eq_false_iff_ne]; omega
 have hfn : needsOf s = none → (allMix s.tins.length).find? (surely s) = none := fun hn => List.find?_eq_none.2 fun m hm => by
  have := (needs_none g).1 hn m ((mem_allMix g).1 hm); simp [this]
 cases hn : needsOf s with
 | none =>
  have Q50 := Lib.hid (fun W (hW : LB (ofSh s) ot cap w W) => (sNeeds_any s g ot cap W hW.tins).mono fun e w' (hp : NeedIn s W e w') => (show e = .returned (.tuple #[.slice none 0 0, .int .i64 5]) ∧ Ext W w' by obtain ⟨hE, hf⟩ := hp; rw [hn] at hf; exact ⟨hf, hE⟩))
  have Q38 := Lib.hid (fun W (hW : LB (ofSh s) ot cap w W) => (R38.out W hW).mono fun e w' hp => found_s0 (hfn hn) hp)
  have hg : (allMix (onlyT s ts).tins.length).find? (surely (onlyT s ts)) = none := by
   cases hg : (allMix (onlyT s ts).tins.length).find? (surely (onlyT s ts)) with
   | none => rfl
   | some f =>
    obtain ⟨m, h1, h2, _⟩ := hof.1 ⟨f, hg⟩
    rw [(needs_none g).1 hn m h1] at h2; cases h2
  have Qf := Lib.hid (fun W oa ca (hr : TinsAt W oa (ofSh (onlyT s ts)).tins) => (Rf.out W oa ca hr).mono fun e w' hp => found_s0 hg hp)
  clear g hp hN h1 h6 h hi hk hsm hof hfn hn hg R38 Rf
  have T1 := Lib.hid trivial
  have T2 := Lib.hid trivial
  go_enter Tryz.func12, Tryz.ntmps12
  go_wp2_with (first | (go_at_call 21; refine (R21.out _).mono ?_; rintro e w9 ⟨rfl, hE9⟩; replace B := Lib.hid (B.out.next hE9); (try clear c0 c1 c2 c3 c4 c5 c6 c7 c8 c9 c10 c11 c12); have c0 := B.out.box 0 _ rfl; have c1 := B.out.box 1 _ rfl; have c2 := B.out.box 2 _ rfl; have c3 := B.out.box 3 _ rfl; have c4 := B.out.box 4 _ rfl; have c5 := B.out.box 5 _ rfl; have c6 := B.out.box 6 _ rfl; have c7 := B.out.box 7 _ rfl; have c8 := B.out.box 8 _ rfl; have c9 := B.out.box 9 _ rfl; have c10 := B.out.box 10 _ rfl; have c11 := B.out.box 11 _ rfl; have c12 := B.out.box 12 _ rfl; clear hE9) | (go_at_call 24; refine (R24.out _ B.out).mono ?_; rintro e w9 ⟨rfl, hE9⟩; replace B := Lib.hid (B.out.next hE9); (try clear c0 c1 c2 c3 c4 c5 c6 c7 c8 c9 c10 c11 c12); have c0 := B.out.box 0 _ rfl; have c1 := B.out.box 1 _ rfl; have c2 := B.out.box 2 _ rfl; have c3 := B.out.box 3 _ rfl; have c4 := B.out.box 4 _ rfl; have c5 := B.out.box 5 _ rfl; have c6 := B.out.box 6 _ rfl; have c7 := B.out.box 7 _ rfl; have c8 := B.out.box 8 _ rfl; have c9 := B.out.box 9 _ rfl; have c10 := B.out.box 10 _ rfl; have c11 := B.out.box 11 _ rfl; have c12 := B.out.box 12 _ rfl; clear hE9) | (go_at_call 52; refine (R52.out _ B.out).mono ?_; rintro e w9 ⟨rfl, hE9⟩; replace B := Lib.hid (B.out.next hE9); (try clear c0 c1 c2 c3 c4 c5 c6 c7 c8 c9 c10 c11 c12); have c0 := B.out.box 0 _ rfl; have c1 := B.out.box 1 _ rfl; have c2 := B.out.box 2 _ rfl; have c3 := B.out.box 3 _ rfl; have c4 := B.out.box 4 _ rfl; have c5 := B.out.box 5 _ rfl; have c6 := B.out.box 6 _ rfl; have c7 := B.out.box 7 _ rfl; have c8 := B.out.box 8 _ rfl; have c9 := B.out.box 9 _ rfl; have c10 := B.out.box 10 _ rfl; have c11 := B.out.box 11 _ rfl; have c12 := B.out.box 12 _ rfl; clear hE9) | (go_at_call 50; refine (Q50.out _ B.out).mono ?_; rintro e w9 ⟨rfl, hE9⟩; replace B := Lib.hid (B.out.next hE9); (try clear c0 c1 c2 c3 c4 c5 c6 c7 c8 c9 c10 c11 c12); have c0 := B.out.box 0 _ rfl; have c1 := B.out.box 1 _ rfl; have c2 := B.out.box 2 _ rfl; have c3 := B.out.box 3 _ rfl; have c4 := B.out.box 4 _ rfl; have c5 := B.out.box 5 _ rfl; have c6 := B.out.box 6 _ rfl; have c7 := B.out.box 7 _ rfl; have c8 := B.out.box 8 _ rfl; have c9 := B.out.box 9 _ rfl; have c10 := B.out.box 10 _ rfl; have c11 := B.out.box 11 _ rfl; have c12 := B.out.box 12 _ rfl; clear hE9) | (go_at_call 38; have t0 := T1; clear t0 T1; refine (Q38.out _ B.out).mono ?_; rintro e w9 ⟨rfl, hE9⟩; replace B := Lib.hid (B.out.next hE9); (try clear c0 c1 c2 c3 c4 c5 c6 c7 c8 c9 c10 c11 c12); have c0 := B.out.box 0 _ rfl; have c1 := B.out.box 1 _ rfl; have c2 := B.out.box 2 _ rfl; have c3 := B.out.box 3 _ rfl; have c4 := B.out.box 4 _ rfl; have c5 := B.out.box 5 _ rfl; have c6 := B.out.box 6 _ rfl; have c7 := B.out.box 7 _ rfl; have c8 := B.out.box 8 _ rfl; have c9 := B.out.box 9 _ rfl; have c10 := B.out.box 10 _ rfl; have c11 := B.out.box 11 _ rfl; have c12 := B.out.box 12 _ rfl; clear hE9) | (go_at_call 53; refine (R53.out _ B.out).mono ?_; rintro e w9 ⟨⟨ox, cx, rfl, hr⟩, hE9⟩; replace B := Lib.hid (B.out.next hE9); (try clear c0 c1 c2 c3 c4 c5 c6 c7 c8 c9 c10 c11 c12); have c0 := B.out.box 0 _ rfl; have c1 := B.out.box 1 _ rfl; have c2 := B.out.box 2 _ rfl; have c3 := B.out.box 3 _ rfl; have c4 := B.out.box 4 _ rfl; have c5 := B.out.box 5 _ rfl; have c6 := B.out.box 6 _ rfl; have c7 := B.out.box 7 _ rfl; have c8 := B.out.box 8 _ rfl; have c9 := B.out.box 9 _ rfl; have c10 := B.out.box 10 _ rfl; have c11 := B.out.box 11 _ rfl; have c12 := B.out.box 12 _ rfl; have Hx := Lib.hid hr; clear hr; clear hE9) | (go_at_call 38; have t0 := T2; clear t0 T2; refine (Qf.out _ ox cx Hx.out).mono ?_; rintro e w9 ⟨rfl, hE9⟩; replace B := Lib.hid (B.out.next hE9); (try clear c0 c1 c2 c3 c4 c5 c6 c7 c8 c9 c10 c11 c12); have c0 := B.out.box 0 _ rfl; have c1 := B.out.box 1 _ rfl; have c2 := B.out.box 2 _ rfl; have c3 := B.out.box 3 _ rfl; have c4 := B.out.box 4 _ rfl; have c5 := B.out.box 5 _ rfl; have c6 := B.out.box 6 _ rfl; have c7 := B.out.box 7 _ rfl; have c8 := B.out.box 8 _ rfl; have c9 := B.out.box 9 _ rfl; have c10 := B.out.box 10 _ rfl; have c11 := B.out.box 11 _ rfl; have c12 := B.out.box 12 _ rfl; clear hE9) | (go_at_call 22; refine (Rk.out _ B.out).mono ?_; rintro e w9 ⟨rfl, hE9⟩; replace B := Lib.hid (B.out.next hE9); (try clear c0 c1 c2 c3 c4 c5 c6 c7 c8 c9 c10 c11 c12); have c0 := B.out.box 0 _ rfl; have c1 := B.out.box 1 _ rfl; have c2 := B.out.box 2 _ rfl; have c3 := B.out.box 3 _ rfl; have c4 := B.out.box 4 _ rfl; have c5 := B.out.box 5 _ rfl; have c6 := B.out.box 6 _ rfl; have c7 := B.out.box 7 _ rfl; have c8 := B.out.box 8 _ rfl; have c9 := B.out.box 9 _ rfl; have c10 := B.out.box 10 _ rfl; have c11 := B.out.box 11 _ rfl; have c12 := B.out.box 12 _ rfl; clear hE9))
  go_ret
  exact ⟨rfl, B.out.ext⟩
 | some nl =>
  obtain ⟨mn, hmn1, hmn2, hmn3⟩ := needs_mem g hn
  have hnp : nl.Pairwise (· < ·) := by rw [← hmn3]; exact used_sorted mn
  have hnN : ∀ t ∈ nl, t < s.tins.length := fun t ht => by rw [← hmn3] at ht; have := (mem_used.1 ht).1; have := hmn1.len; omega
  have hn1 : 1 ≤ nl.length := by rw [← hmn3]; exact used_pos hmn1
  have hn4 := rising_len hnp hnN
  have hof2 := (only_first g (sorted_nodup hnp) hnN hn1 (by have := g.len2; omega)).2 ⟨mn, hmn1, hmn2, fun i hi => by rw [hmn3] at hi; exact hi⟩
  have hff : ∃ f, (allMix s.tins.length).find? (surely s) = some f := by
   cases hf : (allMix s.tins.length).find? (surely s) with
   | some f => exact ⟨f, rfl⟩
   | none => have := List.find?_eq_none.1 hf mn ((mem_allMix g).2 hmn1); rw [hmn2] at this; exact absurd rfl this
  obtain ⟨f, hf⟩ := hff
  obtain ⟨f2, hf2⟩ := hof2
  have Q50 := Lib.hid (fun W (hW : LB (ofSh s) ot cap w W) => (sNeeds_any s g ot cap W hW.tins).mono fun e w' (hp : NeedIn s W e w') => (show (∃ ol cl, e = .returned (.tuple #[.slice ol nl.length cl, .int .i64 0]) ∧ IntsAt w' ol (upL nl)) ∧ Ext W w' by
   obtain ⟨hE, hf⟩ := hp
   rw [hn] at hf
   obtain ⟨v, h1, ol, cl, rfl, _, _, _, h4⟩ := hf
   exact ⟨⟨ol, cl, by rw [h1, upL_length], h4⟩, hE⟩))
  have Q38 := Lib.hid (fun W (hW : LB (ofSh s) ot cap w W) => (R38.out W hW).mono fun e w' hp => found_s1 hf hp)
  have R52n := Lib.hid (fun W o c (hW : LB (ofSh s) ot cap w W) (hj : IntsAt W o (upL nl)) => rRising_any (ofSh s) ot cap (upL nl) o c W hj (by rw [upL_length]; have := g.len2; omega) (by rw [tins_len]; have := g.len2; omega))
  rw [tins_len, ris_of hnp hnN, upL_length] at R52n
  have R53n := Lib.hid (fun W o c (hW : LB (ofSh s) ot cap w W) (hj : IntsAt W o (upL nl)) => only_any s nl hnN (by have := g.len2; omega) ot cap o c W hW.tins hj)
  have Qn := Lib.hid (fun W oa ca (hr : TinsAt W oa (ofSh (onlyT s nl)).tins) => (first_only g hnp hnN hn1 oa ca W hr).mono fun e w' hp => found_s1 hf2 hp)
  have hnI1 : ((nl.length : Int) == 0) = false := by rw [beq_eq_false_iff_ne]; omega
  have hnI2 : ¬ ((ofSh s).tins.length : Int) < (nl.length : Int) := by rw [tins_len]; omega
  have R54 := Lib.hid (fun W o c (hW : LB (ofSh s) ot cap w W) (hj : IntsAt W o (upL nl)) => tbefore_any ts nl ol o cl c W (hi.ext hW.ext) hj (by omega) (by have := g.len2; omega))
  have hriv := fun hm => needs_rival g hn hp hm
  cases hg : (allMix (onlyT s ts).tins.length).find? (surely (onlyT s ts)) with
  | none =>
   have Qf := Lib.hid (fun W oa ca (hr : TinsAt W oa (ofSh (onlyT s ts)).tins) => (Rf.out W oa ca hr).mono fun e w' hp => found_s0 hg hp)
   clear g hp hN h1 h6 h hi hk hsm hof hfn hn hg R38 Rf hmn1 hmn2 hmn3 hnp hnN hn1 hn4 hf hf2 R54 hriv
   have T1 := Lib.hid trivial
   have T2 := Lib.hid trivial
   have T3 := Lib.hid trivial
   have T4 := Lib.hid trivial
   have T5 := Lib.hid trivial
   have T6 := Lib.hid trivial
   have T7 := Lib.hid trivial
   go_enter Tryz.func12, Tryz.ntmps12
   go_wp2_with (first | (go_at_call 21; refine (R21.out _).mono ?_; rintro e w9 ⟨rfl, hE9⟩; replace B := Lib.hid (B.out.next hE9); (try clear c0 c1 c2 c3 c4 c5 c6 c7 c8 c9 c10 c11 c12); have c0 := B.out.box 0 _ rfl; have c1 := B.out.box 1 _ rfl; have c2 := B.out.box 2 _ rfl; have c3 := B.out.box 3 _ rfl; have c4 := B.out.box 4 _ rfl; have c5 := B.out.box 5 _ rfl; have c6 := B.out.box 6 _ rfl; have c7 := B.out.box 7 _ rfl; have c8 := B.out.box 8 _ rfl; have c9 := B.out.box 9 _ rfl; have c10 := B.out.box 10 _ rfl; have c11 := B.out.box 11 _ rfl; have c12 := B.out.box 12 _ rfl; clear hE9) | (go_at_call 24; refine (R24.out _ B.out).mono ?_; rintro e w9 ⟨rfl, hE9⟩; replace B := Lib.hid (B.out.next hE9); (try clear c0 c1 c2 c3 c4 c5 c6 c7 c8 c9 c10 c11 c12); have c0 := B.out.box 0 _ rfl; have c1 := B.out.box 1 _ rfl; have c2 := B.out.box 2 _ rfl; have c3 := B.out.box 3 _ rfl; have c4 := B.out.box 4 _ rfl; have c5 := B.out.box 5 _ rfl; have c6 := B.out.box 6 _ rfl; have c7 := B.out.box 7 _ rfl; have c8 := B.out.box 8 _ rfl; have c9 := B.out.box 9 _ rfl; have c10 := B.out.box 10 _ rfl; have c11 := B.out.box 11 _ rfl; have c12 := B.out.box 12 _ rfl; clear hE9) | (go_at_call 52; have t0 := T4; clear t0 T4; refine (R52.out _ B.out).mono ?_; rintro e w9 ⟨rfl, hE9⟩; replace B := Lib.hid (B.out.next hE9); (try clear c0 c1 c2 c3 c4 c5 c6 c7 c8 c9 c10 c11 c12); have c0 := B.out.box 0 _ rfl; have c1 := B.out.box 1 _ rfl; have c2 := B.out.box 2 _ rfl; have c3 := B.out.box 3 _ rfl; have c4 := B.out.box 4 _ rfl; have c5 := B.out.box 5 _ rfl; have c6 := B.out.box 6 _ rfl; have c7 := B.out.box 7 _ rfl; have c8 := B.out.box 8 _ rfl; have c9 := B.out.box 9 _ rfl; have c10 := B.out.box 10 _ rfl; have c11 := B.out.box 11 _ rfl; have c12 := B.out.box 12 _ rfl; clear hE9) | (go_at_call 50; refine (Q50.out _ B.out).mono ?_; rintro e w9 ⟨⟨on, cn, rfl, hj⟩, hE9⟩; replace B := Lib.hid (B.out.next hE9); (try clear c0 c1 c2 c3 c4 c5 c6 c7 c8 c9 c10 c11 c12); have c0 := B.out.box 0 _ rfl; have c1 := B.out.box 1 _ rfl; have c2 := B.out.box 2 _ rfl; have c3 := B.out.box 3 _ rfl; have c4 := B.out.box 4 _ rfl; have c5 := B.out.box 5 _ rfl; have c6 := B.out.box 6 _ rfl; have c7 := B.out.box 7 _ rfl; have c8 := B.out.box 8 _ rfl; have c9 := B.out.box 9 _ rfl; have c10 := B.out.box 10 _ rfl; have c11 := B.out.box 11 _ rfl; have c12 := B.out.box 12 _ rfl; have Hn := Lib.hid hj; clear hj; clear hE9) | (go_at_call 38; have t0 := T1; clear t0 T1; refine (Q38.out _ B.out).mono ?_; rintro e w9 ⟨⟨og, cg, rfl, hj⟩, hE9⟩; replace B := Lib.hid (B.out.next hE9); (try clear c0 c1 c2 c3 c4 c5 c6 c7 c8 c9 c10 c11 c12); have c0 := B.out.box 0 _ rfl; have c1 := B.out.box 1 _ rfl; have c2 := B.out.box 2 _ rfl; have c3 := B.out.box 3 _ rfl; have c4 := B.out.box 4 _ rfl; have c5 := B.out.box 5 _ rfl; have c6 := B.out.box 6 _ rfl; have c7 := B.out.box 7 _ rfl; have c8 := B.out.box 8 _ rfl; have c9 := B.out.box 9 _ rfl; have c10 := B.out.box 10 _ rfl; have c11 := B.out.box 11 _ rfl; have c12 := B.out.box 12 _ rfl; replace Hn := Lib.hid (Hn.out.ext hE9); clear hj; clear hE9) | (go_at_call 53; have t0 := T5; clear t0 T5; refine (R53.out _ B.out).mono ?_; rintro e w9 ⟨⟨ox, cx, rfl, hr⟩, hE9⟩; replace B := Lib.hid (B.out.next hE9); (try clear c0 c1 c2 c3 c4 c5 c6 c7 c8 c9 c10 c11 c12); have c0 := B.out.box 0 _ rfl; have c1 := B.out.box 1 _ rfl; have c2 := B.out.box 2 _ rfl; have c3 := B.out.box 3 _ rfl; have c4 := B.out.box 4 _ rfl; have c5 := B.out.box 5 _ rfl; have c6 := B.out.box 6 _ rfl; have c7 := B.out.box 7 _ rfl; have c8 := B.out.box 8 _ rfl; have c9 := B.out.box 9 _ rfl; have c10 := B.out.box 10 _ rfl; have c11 := B.out.box 11 _ rfl; have c12 := B.out.box 12 _ rfl; replace Hn := Lib.hid (Hn.out.ext hE9); have Hx := Lib.hid hr; clear hr; clear hE9) | (go_at_call 38; have t0 := T2; clear t0 T2; refine (Qf.out _ ox cx Hx.out).mono ?_; rintro e w9 ⟨rfl, hE9⟩; replace B := Lib.hid (B.out.next hE9); (try clear c0 c1 c2 c3 c4 c5 c6 c7 c8 c9 c10 c11 c12); have c0 := B.out.box 0 _ rfl; have c1 := B.out.box 1 _ rfl; have c2 := B.out.box 2 _ rfl; have c3 := B.out.box 3 _ rfl; have c4 := B.out.box 4 _ rfl; have c5 := B.out.box 5 _ rfl; have c6 := B.out.box 6 _ rfl; have c7 := B.out.box 7 _ rfl; have c8 := B.out.box 8 _ rfl; have c9 := B.out.box 9 _ rfl; have c10 := B.out.box 10 _ rfl; have c11 := B.out.box 11 _ rfl; have c12 := B.out.box 12 _ rfl; replace Hn := Lib.hid (Hn.out.ext hE9); clear hE9) | (go_at_call 52; have t0 := T6; clear t0 T6; refine (R52n.out _ on cn B.out Hn.out).mono ?_; rintro e w9 ⟨rfl, hE9⟩; replace B := Lib.hid (B.out.next hE9); (try clear c0 c1 c2 c3 c4 c5 c6 c7 c8 c9 c10 c11 c12); have c0 := B.out.box 0 _ rfl; have c1 := B.out.box 1 _ rfl; have c2 := B.out.box 2 _ rfl; have c3 := B.out.box 3 _ rfl; have c4 := B.out.box 4 _ rfl; have c5 := B.out.box 5 _ rfl; have c6 := B.out.box 6 _ rfl; have c7 := B.out.box 7 _ rfl; have c8 := B.out.box 8 _ rfl; have c9 := B.out.box 9 _ rfl; have c10 := B.out.box 10 _ rfl; have c11 := B.out.box 11 _ rfl; have c12 := B.out.box 12 _ rfl; replace Hn := Lib.hid (Hn.out.ext hE9); clear hE9) | (go_at_call 53; have t0 := T7; clear t0 T7; refine (R53n.out _ on cn B.out Hn.out).mono ?_; rintro e w9 ⟨⟨oz, cz, rfl, hr⟩, hE9⟩; replace B := Lib.hid (B.out.next hE9); (try clear c0 c1 c2 c3 c4 c5 c6 c7 c8 c9 c10 c11 c12); have c0 := B.out.box 0 _ rfl; have c1 := B.out.box 1 _ rfl; have c2 := B.out.box 2 _ rfl; have c3 := B.out.box 3 _ rfl; have c4 := B.out.box 4 _ rfl; have c5 := B.out.box 5 _ rfl; have c6 := B.out.box 6 _ rfl; have c7 := B.out.box 7 _ rfl; have c8 := B.out.box 8 _ rfl; have c9 := B.out.box 9 _ rfl; have c10 := B.out.box 10 _ rfl; have c11 := B.out.box 11 _ rfl; have c12 := B.out.box 12 _ rfl; replace Hn := Lib.hid (Hn.out.ext hE9); have Hz := Lib.hid hr; clear hr; clear hE9) | (go_at_call 38; have t0 := T3; clear t0 T3; refine (Qn.out _ oz cz Hz.out).mono ?_; rintro e w9 ⟨⟨og2, cg2, rfl, hj⟩, hE9⟩; replace B := Lib.hid (B.out.next hE9); (try clear c0 c1 c2 c3 c4 c5 c6 c7 c8 c9 c10 c11 c12); have c0 := B.out.box 0 _ rfl; have c1 := B.out.box 1 _ rfl; have c2 := B.out.box 2 _ rfl; have c3 := B.out.box 3 _ rfl; have c4 := B.out.box 4 _ rfl; have c5 := B.out.box 5 _ rfl; have c6 := B.out.box 6 _ rfl; have c7 := B.out.box 7 _ rfl; have c8 := B.out.box 8 _ rfl; have c9 := B.out.box 9 _ rfl; have c10 := B.out.box 10 _ rfl; have c11 := B.out.box 11 _ rfl; have c12 := B.out.box 12 _ rfl; replace Hn := Lib.hid (Hn.out.ext hE9); clear hj; clear hE9) | (go_at_call 22; refine (Rk.out _ B.out).mono ?_; rintro e w9 ⟨rfl, hE9⟩; replace B := Lib.hid (B.out.next hE9); (try clear c0 c1 c2 c3 c4 c5 c6 c7 c8 c9 c10 c11 c12); have c0 := B.out.box 0 _ rfl; have c1 := B.out.box 1 _ rfl; have c2 := B.out.box 2 _ rfl; have c3 := B.out.box 3 _ rfl; have c4 := B.out.box 4 _ rfl; have c5 := B.out.box 5 _ rfl; have c6 := B.out.box 6 _ rfl; have c7 := B.out.box 7 _ rfl; have c8 := B.out.box 8 _ rfl; have c9 := B.out.box 9 _ rfl; have c10 := B.out.box 10 _ rfl; have c11 := B.out.box 11 _ rfl; have c12 := B.out.box 12 _ rfl; clear hE9))
   go_ret
   exact ⟨rfl, B.out.ext⟩
  | some fg =>
   have Qf := Lib.hid (fun W oa ca (hr : TinsAt W oa (ofSh (onlyT s ts)).tins) => (Rf.out W oa ca hr).mono fun e w' hp => found_s1 hg hp)
   obtain ⟨hr1, hr2⟩ := hriv (hof.1 ⟨fg, hg⟩)
   by_cases hlen : ts.length = nl.length
   ·rw [hr2 hlen] at R54
    have hl1 : ¬ (nl.length : Int) < (ts.length : Int) := by omega
    have hl2 : ((ts.length : Int) == (nl.length : Int)) = true := by rw [beq_iff_eq]; omega
    clear g hp hN h1 h6 h hi hk hsm hof hfn hn hg R38 Rf hmn1 hmn2 hmn3 hnp hnN hn1 hn4 hf hf2 hriv hr1 hr2 hlen
    have T1 := Lib.hid trivial
    have T2 := Lib.hid trivial
    have T3 := Lib.hid trivial
    have T4 := Lib.hid trivial
    have T5 := Lib.hid trivial
    have T6 := Lib.hid trivial
    have T7 := Lib.hid trivial
    go_enter Tryz.func12, Tryz.ntmps12
    go_wp2_with (first | (go_at_call 21; refine (R21.out _).mono ?_; rintro e w9 ⟨rfl, hE9⟩; replace B := Lib.hid (B.out.next hE9); (try clear c0 c1 c2 c3 c4 c5 c6 c7 c8 c9 c10 c11 c12); have c0 := B.out.box 0 _ rfl; have c1 := B.out.box 1 _ rfl; have c2 := B.out.box 2 _ rfl; have c3 := B.out.box 3 _ rfl; have c4 := B.out.box 4 _ rfl; have c5 := B.out.box 5 _ rfl; have c6 := B.out.box 6 _ rfl; have c7 := B.out.box 7 _ rfl; have c8 := B.out.box 8 _ rfl; have c9 := B.out.box 9 _ rfl; have c10 := B.out.box 10 _ rfl; have c11 := B.out.box 11 _ rfl; have c12 := B.out.box 12 _ rfl; clear hE9) | (go_at_call 24; refine (R24.out _ B.out).mono ?_; rintro e w9 ⟨rfl, hE9⟩; replace B := Lib.hid (B.out.next hE9); (try clear c0 c1 c2 c3 c4 c5 c6 c7 c8 c9 c10 c11 c12); have c0 := B.out.box 0 _ rfl; have c1 := B.out.box 1 _ rfl; have c2 := B.out.box 2 _ rfl; have c3 := B.out.box 3 _ rfl; have c4 := B.out.box 4 _ rfl; have c5 := B.out.box 5 _ rfl; have c6 := B.out.box 6 _ rfl; have c7 := B.out.box 7 _ rfl; have c8 := B.out.box 8 _ rfl; have c9 := B.out.box 9 _ rfl; have c10 := B.out.box 10 _ rfl; have c11 := B.out.box 11 _ rfl; have c12 := B.out.box 12 _ rfl; clear hE9) | (go_at_call 52; have t0 := T4; clear t0 T4; refine (R52.out _ B.out).mono ?_; rintro e w9 ⟨rfl, hE9⟩; replace B := Lib.hid (B.out.next hE9); (try clear c0 c1 c2 c3 c4 c5 c6 c7 c8 c9 c10 c11 c12); have c0 := B.out.box 0 _ rfl; have c1 := B.out.box 1 _ rfl; have c2 := B.out.box 2 _ rfl; have c3 := B.out.box 3 _ rfl; have c4 := B.out.box 4 _ rfl; have c5 := B.out.box 5 _ rfl; have c6 := B.out.box 6 _ rfl; have c7 := B.out.box 7 _ rfl; have c8 := B.out.box 8 _ rfl; have c9 := B.out.box 9 _ rfl; have c10 := B.out.box 10 _ rfl; have c11 := B.out.box 11 _ rfl; have c12 := B.out.box 12 _ rfl; clear hE9) | (go_at_call 50; refine (Q50.out _ B.out).mono ?_; rintro e w9 ⟨⟨on, cn, rfl, hj⟩, hE9⟩; replace B := Lib.hid (B.out.next hE9); (try clear c0 c1 c2 c3 c4 c5 c6 c7 c8 c9 c10 c11 c12); have c0 := B.out.box 0 _ rfl; have c1 := B.out.box 1 _ rfl; have c2 := B.out.box 2 _ rfl; have c3 := B.out.box 3 _ rfl; have c4 := B.out.box 4 _ rfl; have c5 := B.out.box 5 _ rfl; have c6 := B.out.box 6 _ rfl; have c7 := B.out.box 7 _ rfl; have c8 := B.out.box 8 _ rfl; have c9 := B.out.box 9 _ rfl; have c10 := B.out.box 10 _ rfl; have c11 := B.out.box 11 _ rfl; have c12 := B.out.box 12 _ rfl; have Hn := Lib.hid hj; clear hj; clear hE9) | (go_at_call 38; have t0 := T1; clear t0 T1; refine (Q38.out _ B.out).mono ?_; rintro e w9 ⟨⟨og, cg, rfl, hj⟩, hE9⟩; replace B := Lib.hid (B.out.next hE9); (try clear c0 c1 c2 c3 c4 c5 c6 c7 c8 c9 c10 c11 c12); have c0 := B.out.box 0 _ rfl; have c1 := B.out.box 1 _ rfl; have c2 := B.out.box 2 _ rfl; have c3 := B.out.box 3 _ rfl; have c4 := B.out.box 4 _ rfl; have c5 := B.out.box 5 _ rfl; have c6 := B.out.box 6 _ rfl; have c7 := B.out.box 7 _ rfl; have c8 := B.out.box 8 _ rfl; have c9 := B.out.box 9 _ rfl; have c10 := B.out.box 10 _ rfl; have c11 := B.out.box 11 _ rfl; have c12 := B.out.box 12 _ rfl; replace Hn := Lib.hid (Hn.out.ext hE9); clear hj; clear hE9) | (go_at_call 53; have t0 := T5; clear t0 T5; refine (R53.out _ B.out).mono ?_; rintro e w9 ⟨⟨ox, cx, rfl, hr⟩, hE9⟩; replace B := Lib.hid (B.out.next hE9); (try clear c0 c1 c2 c3 c4 c5 c6 c7 c8 c9 c10 c11 c12); have c0 := B.out.box 0 _ rfl; have c1 := B.out.box 1 _ rfl; have c2 := B.out.box 2 _ rfl; have c3 := B.out.box 3 _ rfl; have c4 := B.out.box 4 _ rfl; have c5 := B.out.box 5 _ rfl; have c6 := B.out.box 6 _ rfl; have c7 := B.out.box 7 _ rfl; have c8 := B.out.box 8 _ rfl; have c9 := B.out.box 9 _ rfl; have c10 := B.out.box 10 _ rfl; have c11 := B.out.box 11 _ rfl; have c12 := B.out.box 12 _ rfl; replace Hn := Lib.hid (Hn.out.ext hE9); have Hx := Lib.hid hr; clear hr; clear hE9) | (go_at_call 38; have t0 := T2; clear t0 T2; refine (Qf.out _ ox cx Hx.out).mono ?_; rintro e w9 ⟨⟨og, cg, rfl, hj⟩, hE9⟩; replace B := Lib.hid (B.out.next hE9); (try clear c0 c1 c2 c3 c4 c5 c6 c7 c8 c9 c10 c11 c12); have c0 := B.out.box 0 _ rfl; have c1 := B.out.box 1 _ rfl; have c2 := B.out.box 2 _ rfl; have c3 := B.out.box 3 _ rfl; have c4 := B.out.box 4 _ rfl; have c5 := B.out.box 5 _ rfl; have c6 := B.out.box 6 _ rfl; have c7 := B.out.box 7 _ rfl; have c8 := B.out.box 8 _ rfl; have c9 := B.out.box 9 _ rfl; have c10 := B.out.box 10 _ rfl; have c11 := B.out.box 11 _ rfl; have c12 := B.out.box 12 _ rfl; replace Hn := Lib.hid (Hn.out.ext hE9); clear hj; clear hE9) | (go_at_call 52; have t0 := T6; clear t0 T6; refine (R52n.out _ on cn B.out Hn.out).mono ?_; rintro e w9 ⟨rfl, hE9⟩; replace B := Lib.hid (B.out.next hE9); (try clear c0 c1 c2 c3 c4 c5 c6 c7 c8 c9 c10 c11 c12); have c0 := B.out.box 0 _ rfl; have c1 := B.out.box 1 _ rfl; have c2 := B.out.box 2 _ rfl; have c3 := B.out.box 3 _ rfl; have c4 := B.out.box 4 _ rfl; have c5 := B.out.box 5 _ rfl; have c6 := B.out.box 6 _ rfl; have c7 := B.out.box 7 _ rfl; have c8 := B.out.box 8 _ rfl; have c9 := B.out.box 9 _ rfl; have c10 := B.out.box 10 _ rfl; have c11 := B.out.box 11 _ rfl; have c12 := B.out.box 12 _ rfl; replace Hn := Lib.hid (Hn.out.ext hE9); clear hE9) | (go_at_call 53; have t0 := T7; clear t0 T7; refine (R53n.out _ on cn B.out Hn.out).mono ?_; rintro e w9 ⟨⟨oz, cz, rfl, hr⟩, hE9⟩; replace B := Lib.hid (B.out.next hE9); (try clear c0 c1 c2 c3 c4 c5 c6 c7 c8 c9 c10 c11 c12); have c0 := B.out.box 0 _ rfl; have c1 := B.out.box 1 _ rfl; have c2 := B.out.box 2 _ rfl; have c3 := B.out.box 3 _ rfl; have c4 := B.out.box 4 _ rfl; have c5 := B.out.box 5 _ rfl; have c6 := B.out.box 6 _ rfl; have c7 := B.out.box 7 _ rfl; have c8 := B.out.box 8 _ rfl; have c9 := B.out.box 9 _ rfl; have c10 := B.out.box 10 _ rfl; have c11 := B.out.box 11 _ rfl; have c12 := B.out.box 12 _ rfl; replace Hn := Lib.hid (Hn.out.ext hE9); have Hz := Lib.hid hr; clear hr; clear hE9) | (go_at_call 38; have t0 := T3; clear t0 T3; refine (Qn.out _ oz cz Hz.out).mono ?_; rintro e w9 ⟨⟨og2, cg2, rfl, hj⟩, hE9⟩; replace B := Lib.hid (B.out.next hE9); (try clear c0 c1 c2 c3 c4 c5 c6 c7 c8 c9 c10 c11 c12); have c0 := B.out.box 0 _ rfl; have c1 := B.out.box 1 _ rfl; have c2 := B.out.box 2 _ rfl; have c3 := B.out.box 3 _ rfl; have c4 := B.out.box 4 _ rfl; have c5 := B.out.box 5 _ rfl; have c6 := B.out.box 6 _ rfl; have c7 := B.out.box 7 _ rfl; have c8 := B.out.box 8 _ rfl; have c9 := B.out.box 9 _ rfl; have c10 := B.out.box 10 _ rfl; have c11 := B.out.box 11 _ rfl; have c12 := B.out.box 12 _ rfl; replace Hn := Lib.hid (Hn.out.ext hE9); clear hj; clear hE9) | (go_at_call 54; refine (R54.out _ on cn B.out Hn.out).mono ?_; rintro e w9 ⟨rfl, hE9⟩; replace B := Lib.hid (B.out.next hE9); (try clear c0 c1 c2 c3 c4 c5 c6 c7 c8 c9 c10 c11 c12); have c0 := B.out.box 0 _ rfl; have c1 := B.out.box 1 _ rfl; have c2 := B.out.box 2 _ rfl; have c3 := B.out.box 3 _ rfl; have c4 := B.out.box 4 _ rfl; have c5 := B.out.box 5 _ rfl; have c6 := B.out.box 6 _ rfl; have c7 := B.out.box 7 _ rfl; have c8 := B.out.box 8 _ rfl; have c9 := B.out.box 9 _ rfl; have c10 := B.out.box 10 _ rfl; have c11 := B.out.box 11 _ rfl; have c12 := B.out.box 12 _ rfl; clear hE9) | (go_at_call 22; refine (Rk.out _ B.out).mono ?_; rintro e w9 ⟨rfl, hE9⟩; replace B := Lib.hid (B.out.next hE9); (try clear c0 c1 c2 c3 c4 c5 c6 c7 c8 c9 c10 c11 c12); have c0 := B.out.box 0 _ rfl; have c1 := B.out.box 1 _ rfl; have c2 := B.out.box 2 _ rfl; have c3 := B.out.box 3 _ rfl; have c4 := B.out.box 4 _ rfl; have c5 := B.out.box 5 _ rfl; have c6 := B.out.box 6 _ rfl; have c7 := B.out.box 7 _ rfl; have c8 := B.out.box 8 _ rfl; have c9 := B.out.box 9 _ rfl; have c10 := B.out.box 10 _ rfl; have c11 := B.out.box 11 _ rfl; have c12 := B.out.box 12 _ rfl; clear hE9))
    go_ret
    exact ⟨rfl, B.out.ext⟩
   ·have hl1 : (nl.length : Int) < (ts.length : Int) := by omega
    clear g hp hN h1 h6 h hi hk hsm hof hfn hn hg R38 Rf hmn1 hmn2 hmn3 hnp hnN hn1 hn4 hf hf2 R54 hriv hr1 hr2 hlen
    have T1 := Lib.hid trivial
    have T2 := Lib.hid trivial
    have T3 := Lib.hid trivial
    have T4 := Lib.hid trivial
    have T5 := Lib.hid trivial
    have T6 := Lib.hid trivial
    have T7 := Lib.hid trivial
    go_enter Tryz.func12, Tryz.ntmps12
    go_wp2_with (first | (go_at_call 21; refine (R21.out _).mono ?_; rintro e w9 ⟨rfl, hE9⟩; replace B := Lib.hid (B.out.next hE9); (try clear c0 c1 c2 c3 c4 c5 c6 c7 c8 c9 c10 c11 c12); have c0 := B.out.box 0 _ rfl; have c1 := B.out.box 1 _ rfl; have c2 := B.out.box 2 _ rfl; have c3 := B.out.box 3 _ rfl; have c4 := B.out.box 4 _ rfl; have c5 := B.out.box 5 _ rfl; have c6 := B.out.box 6 _ rfl; have c7 := B.out.box 7 _ rfl; have c8 := B.out.box 8 _ rfl; have c9 := B.out.box 9 _ rfl; have c10 := B.out.box 10 _ rfl; have c11 := B.out.box 11 _ rfl; have c12 := B.out.box 12 _ rfl; clear hE9) | (go_at_call 24; refine (R24.out _ B.out).mono ?_; rintro e w9 ⟨rfl, hE9⟩; replace B := Lib.hid (B.out.next hE9); (try clear c0 c1 c2 c3 c4 c5 c6 c7 c8 c9 c10 c11 c12); have c0 := B.out.box 0 _ rfl; have c1 := B.out.box 1 _ rfl; have c2 := B.out.box 2 _ rfl; have c3 := B.out.box 3 _ rfl; have c4 := B.out.box 4 _ rfl; have c5 := B.out.box 5 _ rfl; have c6 := B.out.box 6 _ rfl; have c7 := B.out.box 7 _ rfl; have c8 := B.out.box 8 _ rfl; have c9 := B.out.box 9 _ rfl; have c10 := B.out.box 10 _ rfl; have c11 := B.out.box 11 _ rfl; have c12 := B.out.box 12 _ rfl; clear hE9) | (go_at_call 52; have t0 := T4; clear t0 T4; refine (R52.out _ B.out).mono ?_; rintro e w9 ⟨rfl, hE9⟩; replace B := Lib.hid (B.out.next hE9); (try clear c0 c1 c2 c3 c4 c5 c6 c7 c8 c9 c10 c11 c12); have c0 := B.out.box 0 _ rfl; have c1 := B.out.box 1 _ rfl; have c2 := B.out.box 2 _ rfl; have c3 := B.out.box 3 _ rfl; have c4 := B.out.box 4 _ rfl; have c5 := B.out.box 5 _ rfl; have c6 := B.out.box 6 _ rfl; have c7 := B.out.box 7 _ rfl; have c8 := B.out.box 8 _ rfl; have c9 := B.out.box 9 _ rfl; have c10 := B.out.box 10 _ rfl; have c11 := B.out.box 11 _ rfl; have c12 := B.out.box 12 _ rfl; clear hE9) | (go_at_call 50; refine (Q50.out _ B.out).mono ?_; rintro e w9 ⟨⟨on, cn, rfl, hj⟩, hE9⟩; replace B := Lib.hid (B.out.next hE9); (try clear c0 c1 c2 c3 c4 c5 c6 c7 c8 c9 c10 c11 c12); have c0 := B.out.box 0 _ rfl; have c1 := B.out.box 1 _ rfl; have c2 := B.out.box 2 _ rfl; have c3 := B.out.box 3 _ rfl; have c4 := B.out.box 4 _ rfl; have c5 := B.out.box 5 _ rfl; have c6 := B.out.box 6 _ rfl; have c7 := B.out.box 7 _ rfl; have c8 := B.out.box 8 _ rfl; have c9 := B.out.box 9 _ rfl; have c10 := B.out.box 10 _ rfl; have c11 := B.out.box 11 _ rfl; have c12 := B.out.box 12 _ rfl; have Hn := Lib.hid hj; clear hj; clear hE9) | (go_at_call 38; have t0 := T1; clear t0 T1; refine (Q38.out _ B.out).mono ?_; rintro e w9 ⟨⟨og, cg, rfl, hj⟩, hE9⟩; replace B := Lib.hid (B.out.next hE9); (try clear c0 c1 c2 c3 c4 c5 c6 c7 c8 c9 c10 c11 c12); have c0 := B.out.box 0 _ rfl; have c1 := B.out.box 1 _ rfl; have c2 := B.out.box 2 _ rfl; have c3 := B.out.box 3 _ rfl; have c4 := B.out.box 4 _ rfl; have c5 := B.out.box 5 _ rfl; have c6 := B.out.box 6 _ rfl; have c7 := B.out.box 7 _ rfl; have c8 := B.out.box 8 _ rfl; have c9 := B.out.box 9 _ rfl; have c10 := B.out.box 10 _ rfl; have c11 := B.out.box 11 _ rfl; have c12 := B.out.box 12 _ rfl; replace Hn := Lib.hid (Hn.out.ext hE9); clear hj; clear hE9) | (go_at_call 53; have t0 := T5; clear t0 T5; refine (R53.out _ B.out).mono ?_; rintro e w9 ⟨⟨ox, cx, rfl, hr⟩, hE9⟩; replace B := Lib.hid (B.out.next hE9); (try clear c0 c1 c2 c3 c4 c5 c6 c7 c8 c9 c10 c11 c12); have c0 := B.out.box 0 _ rfl; have c1 := B.out.box 1 _ rfl; have c2 := B.out.box 2 _ rfl; have c3 := B.out.box 3 _ rfl; have c4 := B.out.box 4 _ rfl; have c5 := B.out.box 5 _ rfl; have c6 := B.out.box 6 _ rfl; have c7 := B.out.box 7 _ rfl; have c8 := B.out.box 8 _ rfl; have c9 := B.out.box 9 _ rfl; have c10 := B.out.box 10 _ rfl; have c11 := B.out.box 11 _ rfl; have c12 := B.out.box 12 _ rfl; replace Hn := Lib.hid (Hn.out.ext hE9); have Hx := Lib.hid hr; clear hr; clear hE9) | (go_at_call 38; have t0 := T2; clear t0 T2; refine (Qf.out _ ox cx Hx.out).mono ?_; rintro e w9 ⟨⟨og, cg, rfl, hj⟩, hE9⟩; replace B := Lib.hid (B.out.next hE9); (try clear c0 c1 c2 c3 c4 c5 c6 c7 c8 c9 c10 c11 c12); have c0 := B.out.box 0 _ rfl; have c1 := B.out.box 1 _ rfl; have c2 := B.out.box 2 _ rfl; have c3 := B.out.box 3 _ rfl; have c4 := B.out.box 4 _ rfl; have c5 := B.out.box 5 _ rfl; have c6 := B.out.box 6 _ rfl; have c7 := B.out.box 7 _ rfl; have c8 := B.out.box 8 _ rfl; have c9 := B.out.box 9 _ rfl; have c10 := B.out.box 10 _ rfl; have c11 := B.out.box 11 _ rfl; have c12 := B.out.box 12 _ rfl; replace Hn := Lib.hid (Hn.out.ext hE9); clear hj; clear hE9) | (go_at_call 52; have t0 := T6; clear t0 T6; refine (R52n.out _ on cn B.out Hn.out).mono ?_; rintro e w9 ⟨rfl, hE9⟩; replace B := Lib.hid (B.out.next hE9); (try clear c0 c1 c2 c3 c4 c5 c6 c7 c8 c9 c10 c11 c12); have c0 := B.out.box 0 _ rfl; have c1 := B.out.box 1 _ rfl; have c2 := B.out.box 2 _ rfl; have c3 := B.out.box 3 _ rfl; have c4 := B.out.box 4 _ rfl; have c5 := B.out.box 5 _ rfl; have c6 := B.out.box 6 _ rfl; have c7 := B.out.box 7 _ rfl; have c8 := B.out.box 8 _ rfl; have c9 := B.out.box 9 _ rfl; have c10 := B.out.box 10 _ rfl; have c11 := B.out.box 11 _ rfl; have c12 := B.out.box 12 _ rfl; replace Hn := Lib.hid (Hn.out.ext hE9); clear hE9) | (go_at_call 53; have t0 := T7; clear t0 T7; refine (R53n.out _ on cn B.out Hn.out).mono ?_; rintro e w9 ⟨⟨oz, cz, rfl, hr⟩, hE9⟩; replace B := Lib.hid (B.out.next hE9); (try clear c0 c1 c2 c3 c4 c5 c6 c7 c8 c9 c10 c11 c12); have c0 := B.out.box 0 _ rfl; have c1 := B.out.box 1 _ rfl; have c2 := B.out.box 2 _ rfl; have c3 := B.out.box 3 _ rfl; have c4 := B.out.box 4 _ rfl; have c5 := B.out.box 5 _ rfl; have c6 := B.out.box 6 _ rfl; have c7 := B.out.box 7 _ rfl; have c8 := B.out.box 8 _ rfl; have c9 := B.out.box 9 _ rfl; have c10 := B.out.box 10 _ rfl; have c11 := B.out.box 11 _ rfl; have c12 := B.out.box 12 _ rfl; replace Hn := Lib.hid (Hn.out.ext hE9); have Hz := Lib.hid hr; clear hr; clear hE9) | (go_at_call 38; have t0 := T3; clear t0 T3; refine (Qn.out _ oz cz Hz.out).mono ?_; rintro e w9 ⟨⟨og2, cg2, rfl, hj⟩, hE9⟩; replace B := Lib.hid (B.out.next hE9); (try clear c0 c1 c2 c3 c4 c5 c6 c7 c8 c9 c10 c11 c12); have c0 := B.out.box 0 _ rfl; have c1 := B.out.box 1 _ rfl; have c2 := B.out.box 2 _ rfl; have c3 := B.out.box 3 _ rfl; have c4 := B.out.box 4 _ rfl; have c5 := B.out.box 5 _ rfl; have c6 := B.out.box 6 _ rfl; have c7 := B.out.box 7 _ rfl; have c8 := B.out.box 8 _ rfl; have c9 := B.out.box 9 _ rfl; have c10 := B.out.box 10 _ rfl; have c11 := B.out.box 11 _ rfl; have c12 := B.out.box 12 _ rfl; replace Hn := Lib.hid (Hn.out.ext hE9); clear hj; clear hE9) | (go_at_call 22; refine (Rk.out _ B.out).mono ?_; rintro e w9 ⟨rfl, hE9⟩; replace B := Lib.hid (B.out.next hE9); (try clear c0 c1 c2 c3 c4 c5 c6 c7 c8 c9 c10 c11 c12); have c0 := B.out.box 0 _ rfl; have c1 := B.out.box 1 _ rfl; have c2 := B.out.box 2 _ rfl; have c3 := B.out.box 3 _ rfl; have c4 := B.out.box 4 _ rfl; have c5 := B.out.box 5 _ rfl; have c6 := B.out.box 6 _ rfl; have c7 := B.out.box 7 _ rfl; have c8 := B.out.box 8 _ rfl; have c9 := B.out.box 9 _ rfl; have c10 := B.out.box 10 _ rfl; have c11 := B.out.box 11 _ rfl; have c12 := B.out.box 12 _ rfl; clear hE9))
    go_ret
    exact ⟨rfl, B.out.ext⟩

theorem law12 {S : SI} {l : List Int} {ot ol : Option Addr} {cap cl : Nat} {w : World} (h : SArg w S ot cap) (hl : LArg w l ol cl) (k : Int) (hk : w.cell? ⟨1, 0, none⟩ = some (.int .i64 k)) :
  Calls Tryz.prog 12 #[sheetV S ot cap, .slice ol l.length cl] w fun e w' => e = .returned (.bool true) ∧ Ext w w' := by
 have B := Lib.hid (LB.start (cap := cap) h.tins)
 have R21 := Lib.hid (fun W => short_any S ot cap W h.small)
 have R24 := Lib.hid (fun W (hW : LB S ot cap w W) => rSheet_any S ot cap W hW.tins h.small)
 have Rk := Lib.hid (fun (W : World) (hW : LB S ot cap w W) => known_any W k (cell_ext hW.ext hk))
 by_cases h6 : S.tins.length ≤ 6
 ·rw [decide_eq_true h6] at R21
  cases hs : sheetB S
  ·rw [hs] at R24
   clear h hl hk hs h6
   go_enter Tryz.func12, Tryz.ntmps12
   go_wp2_with (first | (go_at_call 21; refine (R21.out _).mono ?_; rintro e w9 ⟨rfl, hE9⟩; replace B := Lib.hid (B.out.next hE9); (try clear c0 c1 c2 c3 c4 c5 c6 c7 c8 c9 c10 c11 c12); have c0 := B.out.box 0 _ rfl; have c1 := B.out.box 1 _ rfl; have c2 := B.out.box 2 _ rfl; have c3 := B.out.box 3 _ rfl; have c4 := B.out.box 4 _ rfl; have c5 := B.out.box 5 _ rfl; have c6 := B.out.box 6 _ rfl; have c7 := B.out.box 7 _ rfl; have c8 := B.out.box 8 _ rfl; have c9 := B.out.box 9 _ rfl; have c10 := B.out.box 10 _ rfl; have c11 := B.out.box 11 _ rfl; have c12 := B.out.box 12 _ rfl; clear hE9) | (go_at_call 24; refine (R24.out _ B.out).mono ?_; rintro e w9 ⟨rfl, hE9⟩; replace B := Lib.hid (B.out.next hE9); (try clear c0 c1 c2 c3 c4 c5 c6 c7 c8 c9 c10 c11 c12); have c0 := B.out.box 0 _ rfl; have c1 := B.out.box 1 _ rfl; have c2 := B.out.box 2 _ rfl; have c3 := B.out.box 3 _ rfl; have c4 := B.out.box 4 _ rfl; have c5 := B.out.box 5 _ rfl; have c6 := B.out.box 6 _ rfl; have c7 := B.out.box 7 _ rfl; have c8 := B.out.box 8 _ rfl; have c9 := B.out.box 9 _ rfl; have c10 := B.out.box 10 _ rfl; have c11 := B.out.box 11 _ rfl; have c12 := B.out.box 12 _ rfl; clear hE9) | (go_at_call 22; refine (Rk.out _ B.out).mono ?_; rintro e w9 ⟨rfl, hE9⟩; replace B := Lib.hid (B.out.next hE9); (try clear c0 c1 c2 c3 c4 c5 c6 c7 c8 c9 c10 c11 c12); have c0 := B.out.box 0 _ rfl; have c1 := B.out.box 1 _ rfl; have c2 := B.out.box 2 _ rfl; have c3 := B.out.box 3 _ rfl; have c4 := B.out.box 4 _ rfl; have c5 := B.out.box 5 _ rfl; have c6 := B.out.box 6 _ rfl; have c7 := B.out.box 7 _ rfl; have c8 := B.out.box 8 _ rfl; have c9 := B.out.box 9 _ rfl; have c10 := B.out.box 10 _ rfl; have c11 := B.out.box 11 _ rfl; have c12 := B.out.box 12 _ rfl; clear hE9))
   go_ret
   exact ⟨rfl, B.out.ext⟩
  ·by_cases hl6 : l.length ≤ 6
   ·have hl6I : ¬ (6 : Int) < (l.length : Int) := by omega
    by_cases hl0 : l.length = 0
    ·have hl0I : ((l.length : Int) == 0) = true := by rw [beq_iff_eq]; omega
     rw [hs] at R24
     clear h hl hk hs h6 hl6 hl0
     go_enter Tryz.func12, Tryz.ntmps12
     go_wp2_with (first | (go_at_call 21; refine (R21.out _).mono ?_; rintro e w9 ⟨rfl, hE9⟩; replace B := Lib.hid (B.out.next hE9); (try clear c0 c1 c2 c3 c4 c5 c6 c7 c8 c9 c10 c11 c12); have c0 := B.out.box 0 _ rfl; have c1 := B.out.box 1 _ rfl; have c2 := B.out.box 2 _ rfl; have c3 := B.out.box 3 _ rfl; have c4 := B.out.box 4 _ rfl; have c5 := B.out.box 5 _ rfl; have c6 := B.out.box 6 _ rfl; have c7 := B.out.box 7 _ rfl; have c8 := B.out.box 8 _ rfl; have c9 := B.out.box 9 _ rfl; have c10 := B.out.box 10 _ rfl; have c11 := B.out.box 11 _ rfl; have c12 := B.out.box 12 _ rfl; clear hE9) | (go_at_call 24; refine (R24.out _ B.out).mono ?_; rintro e w9 ⟨rfl, hE9⟩; replace B := Lib.hid (B.out.next hE9); (try clear c0 c1 c2 c3 c4 c5 c6 c7 c8 c9 c10 c11 c12); have c0 := B.out.box 0 _ rfl; have c1 := B.out.box 1 _ rfl; have c2 := B.out.box 2 _ rfl; have c3 := B.out.box 3 _ rfl; have c4 := B.out.box 4 _ rfl; have c5 := B.out.box 5 _ rfl; have c6 := B.out.box 6 _ rfl; have c7 := B.out.box 7 _ rfl; have c8 := B.out.box 8 _ rfl; have c9 := B.out.box 9 _ rfl; have c10 := B.out.box 10 _ rfl; have c11 := B.out.box 11 _ rfl; have c12 := B.out.box 12 _ rfl; clear hE9) | (go_at_call 22; refine (Rk.out _ B.out).mono ?_; rintro e w9 ⟨rfl, hE9⟩; replace B := Lib.hid (B.out.next hE9); (try clear c0 c1 c2 c3 c4 c5 c6 c7 c8 c9 c10 c11 c12); have c0 := B.out.box 0 _ rfl; have c1 := B.out.box 1 _ rfl; have c2 := B.out.box 2 _ rfl; have c3 := B.out.box 3 _ rfl; have c4 := B.out.box 4 _ rfl; have c5 := B.out.box 5 _ rfl; have c6 := B.out.box 6 _ rfl; have c7 := B.out.box 7 _ rfl; have c8 := B.out.box 8 _ rfl; have c9 := B.out.box 9 _ rfl; have c10 := B.out.box 10 _ rfl; have c11 := B.out.box 11 _ rfl; have c12 := B.out.box 12 _ rfl; clear hE9))
     go_ret
     exact ⟨rfl, B.out.ext⟩
    ·have hl0I : ((l.length : Int) == 0) = false := by rw [beq_eq_false_iff_ne]; omega
     cases hr : risB S.tins.length l
     ·have R52 := Lib.hid (fun W (hW : LB S ot cap w W) => rRising_any S ot cap l ol cl W (hl.ints.ext hW.ext) (by omega) (by omega))
      rw [hr] at R52
      rw [hs] at R24
      clear h hl hk hs h6 hl6 hl0 hr
      go_enter Tryz.func12, Tryz.ntmps12
      go_wp2_with (first | (go_at_call 21; refine (R21.out _).mono ?_; rintro e w9 ⟨rfl, hE9⟩; replace B := Lib.hid (B.out.next hE9); (try clear c0 c1 c2 c3 c4 c5 c6 c7 c8 c9 c10 c11 c12); have c0 := B.out.box 0 _ rfl; have c1 := B.out.box 1 _ rfl; have c2 := B.out.box 2 _ rfl; have c3 := B.out.box 3 _ rfl; have c4 := B.out.box 4 _ rfl; have c5 := B.out.box 5 _ rfl; have c6 := B.out.box 6 _ rfl; have c7 := B.out.box 7 _ rfl; have c8 := B.out.box 8 _ rfl; have c9 := B.out.box 9 _ rfl; have c10 := B.out.box 10 _ rfl; have c11 := B.out.box 11 _ rfl; have c12 := B.out.box 12 _ rfl; clear hE9) | (go_at_call 24; refine (R24.out _ B.out).mono ?_; rintro e w9 ⟨rfl, hE9⟩; replace B := Lib.hid (B.out.next hE9); (try clear c0 c1 c2 c3 c4 c5 c6 c7 c8 c9 c10 c11 c12); have c0 := B.out.box 0 _ rfl; have c1 := B.out.box 1 _ rfl; have c2 := B.out.box 2 _ rfl; have c3 := B.out.box 3 _ rfl; have c4 := B.out.box 4 _ rfl; have c5 := B.out.box 5 _ rfl; have c6 := B.out.box 6 _ rfl; have c7 := B.out.box 7 _ rfl; have c8 := B.out.box 8 _ rfl; have c9 := B.out.box 9 _ rfl; have c10 := B.out.box 10 _ rfl; have c11 := B.out.box 11 _ rfl; have c12 := B.out.box 12 _ rfl; clear hE9) | (go_at_call 52; refine (R52.out _ B.out).mono ?_; rintro e w9 ⟨rfl, hE9⟩; replace B := Lib.hid (B.out.next hE9); (try clear c0 c1 c2 c3 c4 c5 c6 c7 c8 c9 c10 c11 c12); have c0 := B.out.box 0 _ rfl; have c1 := B.out.box 1 _ rfl; have c2 := B.out.box 2 _ rfl; have c3 := B.out.box 3 _ rfl; have c4 := B.out.box 4 _ rfl; have c5 := B.out.box 5 _ rfl; have c6 := B.out.box 6 _ rfl; have c7 := B.out.box 7 _ rfl; have c8 := B.out.box 8 _ rfl; have c9 := B.out.box 9 _ rfl; have c10 := B.out.box 10 _ rfl; have c11 := B.out.box 11 _ rfl; have c12 := B.out.box 12 _ rfl; clear hE9) | (go_at_call 22; refine (Rk.out _ B.out).mono ?_; rintro e w9 ⟨rfl, hE9⟩; replace B := Lib.hid (B.out.next hE9); (try clear c0 c1 c2 c3 c4 c5 c6 c7 c8 c9 c10 c11 c12); have c0 := B.out.box 0 _ rfl; have c1 := B.out.box 1 _ rfl; have c2 := B.out.box 2 _ rfl; have c3 := B.out.box 3 _ rfl; have c4 := B.out.box 4 _ rfl; have c5 := B.out.box 5 _ rfl; have c6 := B.out.box 6 _ rfl; have c7 := B.out.box 7 _ rfl; have c8 := B.out.box 8 _ rfl; have c9 := B.out.box 9 _ rfl; have c10 := B.out.box 10 _ rfl; have c11 := B.out.box 11 _ rfl; have c12 := B.out.box 12 _ rfl; clear hE9))
      go_ret
      exact ⟨rfl, B.out.ext⟩
     ·obtain ⟨s, rfl, g⟩ := h.lift hs
      rw [tins_len] at hr
      obtain ⟨ts, rfl, hp, hN⟩ := ris_lift hr
      rw [upL_length] at hl6 hl0 ⊢
      exact law12g g hp hN (by omega) hl6 h.tins hl.ints k hk
   ·have hl6I : (6 : Int) < (l.length : Int) := by omega
    rw [hs] at R24
    clear h hl hk hs h6 hl6
    go_enter Tryz.func12, Tryz.ntmps12
    go_wp2_with (first | (go_at_call 21; refine (R21.out _).mono ?_; rintro e w9 ⟨rfl, hE9⟩; replace B := Lib.hid (B.out.next hE9); (try clear c0 c1 c2 c3 c4 c5 c6 c7 c8 c9 c10 c11 c12); have c0 := B.out.box 0 _ rfl; have c1 := B.out.box 1 _ rfl; have c2 := B.out.box 2 _ rfl; have c3 := B.out.box 3 _ rfl; have c4 := B.out.box 4 _ rfl; have c5 := B.out.box 5 _ rfl; have c6 := B.out.box 6 _ rfl; have c7 := B.out.box 7 _ rfl; have c8 := B.out.box 8 _ rfl; have c9 := B.out.box 9 _ rfl; have c10 := B.out.box 10 _ rfl; have c11 := B.out.box 11 _ rfl; have c12 := B.out.box 12 _ rfl; clear hE9) | (go_at_call 24; refine (R24.out _ B.out).mono ?_; rintro e w9 ⟨rfl, hE9⟩; replace B := Lib.hid (B.out.next hE9); (try clear c0 c1 c2 c3 c4 c5 c6 c7 c8 c9 c10 c11 c12); have c0 := B.out.box 0 _ rfl; have c1 := B.out.box 1 _ rfl; have c2 := B.out.box 2 _ rfl; have c3 := B.out.box 3 _ rfl; have c4 := B.out.box 4 _ rfl; have c5 := B.out.box 5 _ rfl; have c6 := B.out.box 6 _ rfl; have c7 := B.out.box 7 _ rfl; have c8 := B.out.box 8 _ rfl; have c9 := B.out.box 9 _ rfl; have c10 := B.out.box 10 _ rfl; have c11 := B.out.box 11 _ rfl; have c12 := B.out.box 12 _ rfl; clear hE9) | (go_at_call 22; refine (Rk.out _ B.out).mono ?_; rintro e w9 ⟨rfl, hE9⟩; replace B := Lib.hid (B.out.next hE9); (try clear c0 c1 c2 c3 c4 c5 c6 c7 c8 c9 c10 c11 c12); have c0 := B.out.box 0 _ rfl; have c1 := B.out.box 1 _ rfl; have c2 := B.out.box 2 _ rfl; have c3 := B.out.box 3 _ rfl; have c4 := B.out.box 4 _ rfl; have c5 := B.out.box 5 _ rfl; have c6 := B.out.box 6 _ rfl; have c7 := B.out.box 7 _ rfl; have c8 := B.out.box 8 _ rfl; have c9 := B.out.box 9 _ rfl; have c10 := B.out.box 10 _ rfl; have c11 := B.out.box 11 _ rfl; have c12 := B.out.box 12 _ rfl; clear hE9))
    go_ret
    exact ⟨rfl, B.out.ext⟩
 ·rw [decide_eq_false h6] at R21
  clear h hl hk h6
  go_enter Tryz.func12, Tryz.ntmps12
  go_wp2_with (first | (go_at_call 21; refine (R21.out _).mono ?_; rintro e w9 ⟨rfl, hE9⟩; replace B := Lib.hid (B.out.next hE9); (try clear c0 c1 c2 c3 c4 c5 c6 c7 c8 c9 c10 c11 c12); have c0 := B.out.box 0 _ rfl; have c1 := B.out.box 1 _ rfl; have c2 := B.out.box 2 _ rfl; have c3 := B.out.box 3 _ rfl; have c4 := B.out.box 4 _ rfl; have c5 := B.out.box 5 _ rfl; have c6 := B.out.box 6 _ rfl; have c7 := B.out.box 7 _ rfl; have c8 := B.out.box 8 _ rfl; have c9 := B.out.box 9 _ rfl; have c10 := B.out.box 10 _ rfl; have c11 := B.out.box 11 _ rfl; have c12 := B.out.box 12 _ rfl; clear hE9) | (go_at_call 22; refine (Rk.out _ B.out).mono ?_; rintro e w9 ⟨rfl, hE9⟩; replace B := Lib.hid (B.out.next hE9); (try clear c0 c1 c2 c3 c4 c5 c6 c7 c8 c9 c10 c11 c12); have c0 := B.out.box 0 _ rfl; have c1 := B.out.box 1 _ rfl; have c2 := B.out.box 2 _ rfl; have c3 := B.out.box 3 _ rfl; have c4 := B.out.box 4 _ rfl; have c5 := B.out.box 5 _ rfl; have c6 := B.out.box 6 _ rfl; have c7 := B.out.box 7 _ rfl; have c8 := B.out.box 8 _ rfl; have c9 := B.out.box 9 _ rfl; have c10 := B.out.box 10 _ rfl; have c11 := B.out.box 11 _ rfl; have c12 := B.out.box 12 _ rfl; clear hE9))
  go_ret
  exact ⟨rfl, B.out.ext⟩

end Go.Proofs.YtjpekonfjihcoaaGreatDoor
