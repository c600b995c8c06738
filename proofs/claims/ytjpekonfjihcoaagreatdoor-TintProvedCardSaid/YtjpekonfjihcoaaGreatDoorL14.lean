/- The walk of TintProved: it answers true. No condition. -/
import Derived.Test.YtjpekonfjihcoaaGreatDoorM33
import Derived.Test.YtjpekonfjihcoaaGreatDoorLRight
import Derived.Test.YtjpekonfjihcoaaGreatDoorM19
import Derived.Test.YtjpekonfjihcoaaGreatDoorM28
import Derived.Test.YtjpekonfjihcoaaGreatDoorM3
import Derived.Test.YtjpekonfjihcoaaGreatDoorMathH
import Derived.Test.YtjpekonfjihcoaaGreatDoorR14
import Derived.Test.YtjpekonfjihcoaaGreatDoorM24
import Derived.Test.YtjpekonfjihcoaaGreatDoorSideB
namespace Go.TintM
end Go.TintM
set_option maxRecDepth 100000
set_option maxHeartbeats 64000000
set_option linter.unusedVariables false
set_option linter.unusedSimpArgs false
namespace Go.Proofs.YtjpekonfjihcoaaGreatDoor
open Go.RowKit Go.My Go.TintM

theorem dir_lex {k n : Nat} (h : n ≤ k) : lexI [dirOf k 0, dirOf k 1, dirOf k 2] [dirOf n 0, dirOf n 1, dirOf n 2] = false := by
 rw [Bool.eq_false_iff]
 intro hh
 simp only [lexI, Bool.or_eq_true, Bool.and_eq_true, decide_eq_true_eq, beq_iff_eq, Bool.false_eq_true, and_false, or_false, dirOf] at hh
 omega
theorem dir_of {x y z : Int} (hx : -2 ≤ x ∧ x ≤ 2) (hy : -2 ≤ y ∧ y ≤ 2) (hz : -2 ≤ z ∧ z ≤ 2) : ∃ k, k < 125 ∧ dirOf k 0 = x ∧ dirOf k 1 = y ∧ dirOf k 2 = z :=
 ⟨25 * (x + 2).toNat + 5 * (y + 2).toNat + (z + 2).toNat, by omega, by simp only [dirOf]; omega, by simp only [dirOf]; omega, by simp only [dirOf]; omega⟩
theorem proof_first {s : Sh} {n : Nat} (h : proofN s = some n) : n < 125 ∧ sizeD (dirOf n) ≠ 0 ∧ parted s (dirOf n) = true ∧ ∀ k, k < 125 → sizeD (dirOf k) ≠ 0 → parted s (dirOf k) = true → n ≤ k := by
 have h1 := List.mem_range.1 (List.mem_of_find?_eq_some h)
 have h2 := List.find?_some h
 simp only [partsB, Bool.and_eq_true, decide_eq_true_eq] at h2
 refine ⟨h1, h2.1, h2.2, fun k hk hz hp => ?_⟩
 have h3 := find_first List.pairwise_lt_range h (List.mem_range.2 hk) (by simp only [partsB, Bool.and_eq_true, decide_eq_true_eq]; exact ⟨hz, hp⟩)
 omega
theorem proof_none {s : Sh} (h : proofN s = none) {k : Nat} (hk : k < 125) (hz : sizeD (dirOf k) ≠ 0) : parted s (dirOf k) = false := by
 have h1 := List.find?_eq_none.1 h k (List.mem_range.2 hk)
 cases hp : parted s (dirOf k)
 ·rfl
 ·exact absurd (by simp only [partsB, Bool.and_eq_true, decide_eq_true_eq]; exact ⟨hz, hp⟩) h1
abbrev boardF (s : Sh) (T : Tr) (d : Nat → Int) (p : Nat) : Int := d p * (leftT s T p : Nat)
theorem board_in {s : Sh} (g : Fine s) (T : Tr) {d : Nat → Int} (hd : ∀ p, p < 3 → -2 ≤ d p ∧ d p ≤ 2) : ∀ p, p < 3 → -198 ≤ boardF s T d p ∧ boardF s T d p ≤ 198 := fun p hp =>
 mul_in (hd p hp) (Nat.le_trans (left_le _ _ _) (g.old p hp))
theorem gap_three {s : Sh} {d : Dir} (hd : parted s d = true) {T : Tr} (hT : GoodT s T) {i : Nat} (hi : i < T.tins.length) :
  d 0 * ((T.tins.getD i []).getD 0 0 : Nat) + d 1 * ((T.tins.getD i []).getD 1 0 : Nat) + d 2 * ((T.tins.getD i []).getD 2 0 : Nat) + triTo (offF s d) 3 < triTo (boardF s T d) 3 := by
 have h := parted_gap hd hT hi
 rw [offF_end, triTo_3]
 exact h
theorem tin_three {s : Sh} (g : Fine s) {T : Tr} (hT : GoodT s T) {i : Nat} (hi : i < T.tins.length) {p : Nat} (hp : p < 3) : (T.tins.getD i []).getD p 0 ≤ 99 := by
 have h1 := (hT.tin i hi p hp).2
 have hi' : i < s.tins.length := by have := hT.len; omega
 have h2 := (g.tin (s.tins.getD i []) (by simp [List.getD, hi']) p hp).2
 omega

theorem law14n {s : Sh} (g : Fine s) {m : List Nat} (hm : IsMix s m) {T : Tr} (hT : GoodT s T) {k : Nat} (hk : k < 125) (hz : sizeD (dirOf k) ≠ 0) (hn : proofN s = none) {ot ol ob : Option Addr} {cap cl cb : Nat} {w : World} (h : TinsAt w ot (ofSh s).tins) (hi : IntsAt w ol (upL m)) (ht : TrisAt w ob (ofTr T).tins) (q : Int) (hq : w.cell? ⟨1, 0, none⟩ = some (.int .i64 q)) :
  Calls Tryz.prog 14 #[sheetV (ofSh s) ot cap, .slice ol m.length cl, truthV (ofTr T) ob cb, .agg #[.int .i64 (dirOf k 0), .int .i64 (dirOf k 1), .int .i64 (dirOf k 2)]] w fun e w' => e = .returned (.bool true) ∧ Ext w w' := by
 have R32 := Lib.hid (fun W (hW : LB (ofSh s) ot cap w W) => right_up g hm ot cap ol cl W hW.tins (hi.ext hW.ext))
 have R26 := Lib.hid (fun W (hW : LB (ofSh s) ot cap w W) => rTruth_any s g ot cap (ofTr T) ob cb W hW.tins (ht.ext hW.ext) (by have := hT.len; have := g.len2; simp [ofTr]; omega))
 simp only [truth_of hT] at R26
 have R57 := Lib.hid (fun W => rSide_any (dirOf k) (dirOf_in hk) W)
 rw [decide_eq_true hz] at R57
 have R55 := Lib.hid (fun W (hW : LB (ofSh s) ot cap w W) => sProof_any s g ot cap W hW.tins)
 have R23 := Lib.hid (fun W (hW : LB (ofSh s) ot cap w W) => sTrue_ok s g m hm T hT ot cap ol cl ob cb W hW.tins (hi.ext hW.ext) (ht.ext hW.ext))
 have R45 := Lib.hid (fun W (hW : LB (ofSh s) ot cap w W) => word45 s g m hm ot cap ol cl W hW.tins (hi.ext hW.ext))
 have R58 := Lib.hid (fun W (hW : LB (ofSh s) ot cap w W) => rParted_any s g (dirOf k) (dirOf_in hk) ot cap W hW.tins)
 have Rk := Lib.hid (fun (W : World) (hW : LB (ofSh s) ot cap w W) => known_any W q (cell_ext hW.ext hq))
 have htl : ¬ (6 : Int) < ((ofTr T).tins.length : Int) := by have := hT.len; have := g.len2; simp [ofTr]; omega
 have hp := proof_none hn hk hz
 rw [hp] at R58
 simp only [proofV, hn] at R55
 simp only [dirV] at R57 R58
 generalize trueOf s m T = q1 at *
 generalize wordOf s m = q2 at *
 generalize dirOf k 0 = e0 at *
 generalize dirOf k 1 = e1 at *
 generalize dirOf k 2 = e2 at *
 have B := Lib.hid (((LB.start (cap := cap) h).alloc (.cells (truthC (ofTr T) ob cb) 32)).alloc (.cells #[.int .i64 e0, .int .i64 e1, .int .i64 e2] 22))
 have U := Lib.hid (show TruthBox (((w.alloc (.cells (sheetC (ofSh s) ot cap) 28)).alloc (.cells (truthC (ofTr T) ob cb) 32)).alloc (.cells #[.int .i64 e0, .int .i64 e1, .int .i64 e2] 22)) (w.heap.size + 1) (ofTr T) ob cb by
  have := (TruthBox.new (w.alloc (.cells (sheetC (ofSh s) ot cap) 28)) (ofTr T) ob cb).ext ((Ext.refl _).alloc (.cells #[.int .i64 e0, .int .i64 e1, .int .i64 e2] 22))
  simpa only [World.size_alloc] using this)
 have O := Lib.hid (show VB (((w.alloc (.cells (sheetC (ofSh s) ot cap) 28)).alloc (.cells (truthC (ofTr T) ob cb) 32)).alloc (.cells #[.int .i64 e0, .int .i64 e1, .int .i64 e2] 22)) (w.heap.size + 2) [.int .i64 e0, .int .i64 e1, .int .i64 e2] by
  have := VB.new ((w.alloc (.cells (sheetC (ofSh s) ot cap) 28)).alloc (.cells (truthC (ofTr T) ob cb) 32)) [.int .i64 e0, .int .i64 e1, .int .i64 e2] 22
  simpa only [World.size_alloc] using this)
 have T1 := Lib.hid trivial
 clear g hm hT hk hz hn h hi ht hq hp
 go_enter Tryz.func14, Tryz.ntmps14
 go_wp2_with (first | (go_at_call 32; refine (R32.out _ B.out).mono ?_; rintro e w9 ⟨rfl, hE9⟩; replace B := Lib.hid (B.out.next hE9); (try clear c0 c1 c2 c3 c4 c5 c6 c7 c8 c9 c10 c11 c12); have c0 := B.out.box 0 _ rfl; have c1 := B.out.box 1 _ rfl; have c2 := B.out.box 2 _ rfl; have c3 := B.out.box 3 _ rfl; have c4 := B.out.box 4 _ rfl; have c5 := B.out.box 5 _ rfl; have c6 := B.out.box 6 _ rfl; have c7 := B.out.box 7 _ rfl; have c8 := B.out.box 8 _ rfl; have c9 := B.out.box 9 _ rfl; have c10 := B.out.box 10 _ rfl; have c11 := B.out.box 11 _ rfl; have c12 := B.out.box 12 _ rfl; replace U := Lib.hid (U.out.ext hE9); (try clear v0 v1 v2 v3 v4); have v0 : World.cell? w9 ⟨(w.heap.size + 1), 0, none⟩ = some (.slice ob (ofTr T).tins.length cb) := U.out 0 _ rfl; have v1 := U.out 1 _ rfl; have v2 := U.out 2 _ rfl; have v3 := U.out 3 _ rfl; have v4 := U.out 4 _ rfl; replace O := Lib.hid (O.out.ext hE9); (try clear o0 o1 o2); have o0 := O.out 0 _ rfl; have o1 := O.out 1 _ rfl; have o2 := O.out 2 _ rfl; (try dsimp only at o0 o1 o2); clear hE9) | (go_at_call 26; refine (R26.out _ B.out).mono ?_; rintro e w9 ⟨rfl, hE9⟩; replace B := Lib.hid (B.out.next hE9); (try clear c0 c1 c2 c3 c4 c5 c6 c7 c8 c9 c10 c11 c12); have c0 := B.out.box 0 _ rfl; have c1 := B.out.box 1 _ rfl; have c2 := B.out.box 2 _ rfl; have c3 := B.out.box 3 _ rfl; have c4 := B.out.box 4 _ rfl; have c5 := B.out.box 5 _ rfl; have c6 := B.out.box 6 _ rfl; have c7 := B.out.box 7 _ rfl; have c8 := B.out.box 8 _ rfl; have c9 := B.out.box 9 _ rfl; have c10 := B.out.box 10 _ rfl; have c11 := B.out.box 11 _ rfl; have c12 := B.out.box 12 _ rfl; replace U := Lib.hid (U.out.ext hE9); (try clear v0 v1 v2 v3 v4); have v0 : World.cell? w9 ⟨(w.heap.size + 1), 0, none⟩ = some (.slice ob (ofTr T).tins.length cb) := U.out 0 _ rfl; have v1 := U.out 1 _ rfl; have v2 := U.out 2 _ rfl; have v3 := U.out 3 _ rfl; have v4 := U.out 4 _ rfl; replace O := Lib.hid (O.out.ext hE9); (try clear o0 o1 o2); have o0 := O.out 0 _ rfl; have o1 := O.out 1 _ rfl; have o2 := O.out 2 _ rfl; (try dsimp only at o0 o1 o2); clear hE9) | (go_at_call 57; refine (R57.out _).mono ?_; rintro e w9 ⟨rfl, hE9⟩; replace B := Lib.hid (B.out.next hE9); (try clear c0 c1 c2 c3 c4 c5 c6 c7 c8 c9 c10 c11 c12); have c0 := B.out.box 0 _ rfl; have c1 := B.out.box 1 _ rfl; have c2 := B.out.box 2 _ rfl; have c3 := B.out.box 3 _ rfl; have c4 := B.out.box 4 _ rfl; have c5 := B.out.box 5 _ rfl; have c6 := B.out.box 6 _ rfl; have c7 := B.out.box 7 _ rfl; have c8 := B.out.box 8 _ rfl; have c9 := B.out.box 9 _ rfl; have c10 := B.out.box 10 _ rfl; have c11 := B.out.box 11 _ rfl; have c12 := B.out.box 12 _ rfl; replace U := Lib.hid (U.out.ext hE9); (try clear v0 v1 v2 v3 v4); have v0 : World.cell? w9 ⟨(w.heap.size + 1), 0, none⟩ = some (.slice ob (ofTr T).tins.length cb) := U.out 0 _ rfl; have v1 := U.out 1 _ rfl; have v2 := U.out 2 _ rfl; have v3 := U.out 3 _ rfl; have v4 := U.out 4 _ rfl; replace O := Lib.hid (O.out.ext hE9); (try clear o0 o1 o2); have o0 := O.out 0 _ rfl; have o1 := O.out 1 _ rfl; have o2 := O.out 2 _ rfl; (try dsimp only at o0 o1 o2); clear hE9) | (go_at_call 55; refine (R55.out _ B.out).mono ?_; rintro e w9 ⟨rfl, hE9⟩; replace B := Lib.hid (B.out.next hE9); (try clear c0 c1 c2 c3 c4 c5 c6 c7 c8 c9 c10 c11 c12); have c0 := B.out.box 0 _ rfl; have c1 := B.out.box 1 _ rfl; have c2 := B.out.box 2 _ rfl; have c3 := B.out.box 3 _ rfl; have c4 := B.out.box 4 _ rfl; have c5 := B.out.box 5 _ rfl; have c6 := B.out.box 6 _ rfl; have c7 := B.out.box 7 _ rfl; have c8 := B.out.box 8 _ rfl; have c9 := B.out.box 9 _ rfl; have c10 := B.out.box 10 _ rfl; have c11 := B.out.box 11 _ rfl; have c12 := B.out.box 12 _ rfl; replace U := Lib.hid (U.out.ext hE9); (try clear v0 v1 v2 v3 v4); have v0 : World.cell? w9 ⟨(w.heap.size + 1), 0, none⟩ = some (.slice ob (ofTr T).tins.length cb) := U.out 0 _ rfl; have v1 := U.out 1 _ rfl; have v2 := U.out 2 _ rfl; have v3 := U.out 3 _ rfl; have v4 := U.out 4 _ rfl; replace O := Lib.hid (O.out.ext hE9); (try clear o0 o1 o2); have o0 := O.out 0 _ rfl; have o1 := O.out 1 _ rfl; have o2 := O.out 2 _ rfl; (try dsimp only at o0 o1 o2); have hltA := World.block_lt_of_cell? _ _ c0; have hneA := Nat.ne_of_lt hltA; simp only at hltA hneA; have hltU := World.block_lt_of_cell? _ _ v0; have hneU := Nat.ne_of_lt hltU; simp only at hltU hneU; have hltO := World.block_lt_of_cell? _ _ o0; have hneO := Nat.ne_of_lt hltO; simp only at hltO hneO; replace U := Lib.hid (U.out.ext ((Ext.refl w9).alloc (.cells #[.int .i64 0, .int .i64 0, .int .i64 0] 22))); replace O := Lib.hid (O.out.ext ((Ext.refl w9).alloc (.cells #[.int .i64 0, .int .i64 0, .int .i64 0] 22))); replace B := Lib.hid (B.out.alloc (.cells #[.int .i64 0, .int .i64 0, .int .i64 0] 22)); have Y := Lib.hid (VB.new w9 [.int .i64 0, .int .i64 0, .int .i64 0] 22); clear hE9) | (go_at_call 23; refine (R23.out _ B.out).mono ?_; rintro e w9 ⟨rfl, hE9⟩; replace B := Lib.hid (B.out.next hE9); (try clear c0 c1 c2 c3 c4 c5 c6 c7 c8 c9 c10 c11 c12); have c0 := B.out.box 0 _ rfl; have c1 := B.out.box 1 _ rfl; have c2 := B.out.box 2 _ rfl; have c3 := B.out.box 3 _ rfl; have c4 := B.out.box 4 _ rfl; have c5 := B.out.box 5 _ rfl; have c6 := B.out.box 6 _ rfl; have c7 := B.out.box 7 _ rfl; have c8 := B.out.box 8 _ rfl; have c9 := B.out.box 9 _ rfl; have c10 := B.out.box 10 _ rfl; have c11 := B.out.box 11 _ rfl; have c12 := B.out.box 12 _ rfl; replace U := Lib.hid (U.out.ext hE9); (try clear v0 v1 v2 v3 v4); have v0 : World.cell? w9 ⟨(w.heap.size + 1), 0, none⟩ = some (.slice ob (ofTr T).tins.length cb) := U.out 0 _ rfl; have v1 := U.out 1 _ rfl; have v2 := U.out 2 _ rfl; have v3 := U.out 3 _ rfl; have v4 := U.out 4 _ rfl; replace O := Lib.hid (O.out.ext hE9); (try clear o0 o1 o2); have o0 := O.out 0 _ rfl; have o1 := O.out 1 _ rfl; have o2 := O.out 2 _ rfl; (try dsimp only at o0 o1 o2); clear hE9) | (go_at_call 45; refine (R45.out _ B.out).mono ?_; rintro e w9 ⟨rfl, hE9⟩; replace B := Lib.hid (B.out.next hE9); (try clear c0 c1 c2 c3 c4 c5 c6 c7 c8 c9 c10 c11 c12); have c0 := B.out.box 0 _ rfl; have c1 := B.out.box 1 _ rfl; have c2 := B.out.box 2 _ rfl; have c3 := B.out.box 3 _ rfl; have c4 := B.out.box 4 _ rfl; have c5 := B.out.box 5 _ rfl; have c6 := B.out.box 6 _ rfl; have c7 := B.out.box 7 _ rfl; have c8 := B.out.box 8 _ rfl; have c9 := B.out.box 9 _ rfl; have c10 := B.out.box 10 _ rfl; have c11 := B.out.box 11 _ rfl; have c12 := B.out.box 12 _ rfl; replace U := Lib.hid (U.out.ext hE9); (try clear v0 v1 v2 v3 v4); have v0 : World.cell? w9 ⟨(w.heap.size + 1), 0, none⟩ = some (.slice ob (ofTr T).tins.length cb) := U.out 0 _ rfl; have v1 := U.out 1 _ rfl; have v2 := U.out 2 _ rfl; have v3 := U.out 3 _ rfl; have v4 := U.out 4 _ rfl; replace O := Lib.hid (O.out.ext hE9); (try clear o0 o1 o2); have o0 := O.out 0 _ rfl; have o1 := O.out 1 _ rfl; have o2 := O.out 2 _ rfl; (try dsimp only at o0 o1 o2); clear hE9) | (go_at_call 58; refine (R58.out _ B.out).mono ?_; rintro e w9 ⟨rfl, hE9⟩; replace B := Lib.hid (B.out.next hE9); (try clear c0 c1 c2 c3 c4 c5 c6 c7 c8 c9 c10 c11 c12); have c0 := B.out.box 0 _ rfl; have c1 := B.out.box 1 _ rfl; have c2 := B.out.box 2 _ rfl; have c3 := B.out.box 3 _ rfl; have c4 := B.out.box 4 _ rfl; have c5 := B.out.box 5 _ rfl; have c6 := B.out.box 6 _ rfl; have c7 := B.out.box 7 _ rfl; have c8 := B.out.box 8 _ rfl; have c9 := B.out.box 9 _ rfl; have c10 := B.out.box 10 _ rfl; have c11 := B.out.box 11 _ rfl; have c12 := B.out.box 12 _ rfl; clear hE9) | (go_at_call 22; refine (Rk.out _ B.out).mono ?_; rintro e w9 ⟨rfl, hE9⟩; replace B := Lib.hid (B.out.next hE9); (try clear c0 c1 c2 c3 c4 c5 c6 c7 c8 c9 c10 c11 c12); have c0 := B.out.box 0 _ rfl; have c1 := B.out.box 1 _ rfl; have c2 := B.out.box 2 _ rfl; have c3 := B.out.box 3 _ rfl; have c4 := B.out.box 4 _ rfl; have c5 := B.out.box 5 _ rfl; have c6 := B.out.box 6 _ rfl; have c7 := B.out.box 7 _ rfl; have c8 := B.out.box 8 _ rfl; have c9 := B.out.box 9 _ rfl; have c10 := B.out.box 10 _ rfl; have c11 := B.out.box 11 _ rfl; have c12 := B.out.box 12 _ rfl; clear hE9))
 go_ret
 exact ⟨rfl, B.out.ext⟩

theorem IntsAt.three {w : World} {b : Nat} {x y z : Int} (h0 : w.cell? ⟨b, 0, none⟩ = some (.int .i64 x)) (h1 : w.cell? ⟨b, 1, none⟩ = some (.int .i64 y)) (h2 : w.cell? ⟨b, 2, none⟩ = some (.int .i64 z)) : IntsAt w (some ⟨b, 0, none⟩) [x, y, z] := by
 have hb := World.block_lt_of_cell? _ _ h0
 intro i v hv
 match i, hv with
 | 0, hv => cases hv; exact ⟨b, 0, rfl, hb, h0⟩
 | 1, hv => cases hv; exact ⟨b, 0, rfl, hb, h1⟩
 | 2, hv => cases hv; exact ⟨b, 0, rfl, hb, h2⟩
 | i + 3, hv => simp at hv

theorem law14sf {s : Sh} (g : Fine s) {m : List Nat} (hm : IsMix s m) {T : Tr} (hT : GoodT s T) {k : Nat} (hk : k < 125) (hz : sizeD (dirOf k) ≠ 0) {n : Nat} (hn : proofN s = some n) (hp : parted s (dirOf k) = false) {ot ol ob : Option Addr} {cap cl cb : Nat} {w : World} (h : TinsAt w ot (ofSh s).tins) (hi : IntsAt w ol (upL m)) (ht : TrisAt w ob (ofTr T).tins) (q : Int) (hq : w.cell? ⟨1, 0, none⟩ = some (.int .i64 q)) :
  Calls Tryz.prog 14 #[sheetV (ofSh s) ot cap, .slice ol m.length cl, truthV (ofTr T) ob cb, .agg #[.int .i64 (dirOf k 0), .int .i64 (dirOf k 1), .int .i64 (dirOf k 2)]] w fun e w' => e = .returned (.bool true) ∧ Ext w w' := by
 have R32 := Lib.hid (fun W (hW : LB (ofSh s) ot cap w W) => right_up g hm ot cap ol cl W hW.tins (hi.ext hW.ext))
 have R26 := Lib.hid (fun W (hW : LB (ofSh s) ot cap w W) => rTruth_any s g ot cap (ofTr T) ob cb W hW.tins (ht.ext hW.ext) (by have := hT.len; have := g.len2; simp [ofTr]; omega))
 simp only [truth_of hT] at R26
 have R57 := Lib.hid (fun W => rSide_any (dirOf k) (dirOf_in hk) W)
 rw [decide_eq_true hz] at R57
 have R55 := Lib.hid (fun W (hW : LB (ofSh s) ot cap w W) => sProof_any s g ot cap W hW.tins)
 have R23 := Lib.hid (fun W (hW : LB (ofSh s) ot cap w W) => sTrue_ok s g m hm T hT ot cap ol cl ob cb W hW.tins (hi.ext hW.ext) (ht.ext hW.ext))
 have R45 := Lib.hid (fun W (hW : LB (ofSh s) ot cap w W) => word45 s g m hm ot cap ol cl W hW.tins (hi.ext hW.ext))
 have R58 := Lib.hid (fun W (hW : LB (ofSh s) ot cap w W) => rParted_any s g (dirOf k) (dirOf_in hk) ot cap W hW.tins)
 have Rk := Lib.hid (fun (W : World) (hW : LB (ofSh s) ot cap w W) => known_any W q (cell_ext hW.ext hq))
 have htl : ¬ (6 : Int) < ((ofTr T).tins.length : Int) := by have := hT.len; have := g.len2; simp [ofTr]; omega
 obtain ⟨hn1, hn2, hn3, hn4⟩ := proof_first hn
 rw [hp] at R58
 rw [parted_not_true g hm hn3 hT] at R23
 rw [(Go.TintM.word_never g hm).2 (parted_never g hm hn3)] at R45
 simp only [proofV, hn] at R55
 have R57n := Lib.hid (fun W => rSide_any (dirOf n) (dirOf_in hn1) W)
 rw [decide_eq_true hn2] at R57n
 have R35 := Lib.hid (fun p (hp : p < 3) W => faded_any s g ot cap p T.years (T.fade p) hp (Nat.le_trans hT.y2 g.yhi) (Nat.le_trans (hT.f2 p hp) (g.fhi p hp)) W)
 have Hd := Lib.hid (dirOf_in hn1)
 have Hs1 := Lib.hid (triTo_small (board_in g T (dirOf_in hn1)))
 have Hs2 := Lib.hid (triTo_small (offF_in g (dirOf_in hn1)))
 have Hu1 := Lib.hid (fun j => (show triTo (boardF s T (dirOf n)) (j + 1) = triTo (boardF s T (dirOf n)) j + boardF s T (dirOf n) j from rfl))
 have Hu2 := Lib.hid (fun j => (show triTo (offF s (dirOf n)) (j + 1) = triTo (offF s (dirOf n)) j + offF s (dirOf n) j from rfl))
 have Hbo := Lib.hid (board_in g T (dirOf_in hn1))
 have hof := Lib.hid (offF_in g (dirOf_in hn1))
 have Hgap := Lib.hid (fun i (hi : i < T.tins.length) => gap_three hn3 hT hi)
 have H99 := Lib.hid (fun i (hi : i < T.tins.length) p (hp : p < 3) => tin_three g hT hi hp)
 have Ht := Lib.hid ht
 have Hx := Lib.hid (fun i p => ofTr_x T i p)
 have Uc := Lib.hid (show ∀ p, p < 3 → (ofTr T).f p = (T.fade p : Nat) from fun p hp => ofTr_f T hp)
 have Htn := Lib.hid (show (ofTr T).tins.length = T.tins.length by simp [ofTr])
 have hoff2 := g.off2
 have hT6 : T.tins.length ≤ 6 := by have := hT.len; have := g.len2; omega
 have Hleft := Lib.hid (fun p (hp : p < 3) => (show left (s.old p) T.years (T.fade p) ≤ 99 from Nat.le_trans (left_le _ _ _) (g.old p hp)))
 simp only [dirV] at R57 R57n R58 R55
 clear hn2 hn3 hn4
 generalize dirOf n = D at *
 obtain ⟨n0, hn0⟩ : ∃ x, x = D 0 := ⟨_, rfl⟩
 obtain ⟨n1, hn1⟩ : ∃ x, x = D 1 := ⟨_, rfl⟩
 obtain ⟨n2, hn2⟩ : ∃ x, x = D 2 := ⟨_, rfl⟩
 have HD3 := Lib.hid (And.intro hn0 (And.intro hn1 hn2))
 rw [← hn0, ← hn1, ← hn2] at R57n R55
 clear hn0 hn1 hn2
 generalize dirOf k 0 = e0 at *
 generalize dirOf k 1 = e1 at *
 generalize dirOf k 2 = e2 at *
 have B := Lib.hid (((LB.start (cap := cap) h).alloc (.cells (truthC (ofTr T) ob cb) 32)).alloc (.cells #[.int .i64 e0, .int .i64 e1, .int .i64 e2] 22))
 have U := Lib.hid (show TruthBox (((w.alloc (.cells (sheetC (ofSh s) ot cap) 28)).alloc (.cells (truthC (ofTr T) ob cb) 32)).alloc (.cells #[.int .i64 e0, .int .i64 e1, .int .i64 e2] 22)) (w.heap.size + 1) (ofTr T) ob cb by
  have := (TruthBox.new (w.alloc (.cells (sheetC (ofSh s) ot cap) 28)) (ofTr T) ob cb).ext ((Ext.refl _).alloc (.cells #[.int .i64 e0, .int .i64 e1, .int .i64 e2] 22))
  simpa only [World.size_alloc] using this)
 have O := Lib.hid (show VB (((w.alloc (.cells (sheetC (ofSh s) ot cap) 28)).alloc (.cells (truthC (ofTr T) ob cb) 32)).alloc (.cells #[.int .i64 e0, .int .i64 e1, .int .i64 e2] 22)) (w.heap.size + 2) [.int .i64 e0, .int .i64 e1, .int .i64 e2] by
  have := VB.new ((w.alloc (.cells (sheetC (ofSh s) ot cap) 28)).alloc (.cells (truthC (ofTr T) ob cb) 32)) [.int .i64 e0, .int .i64 e1, .int .i64 e2] 22
  simpa only [World.size_alloc] using this)
 have T1 := Lib.hid trivial
 clear g hm hT hk hz hn h hi ht hq hp
 go_enter Tryz.func14, Tryz.ntmps14
 go_wp2_with (first | (go_at_call 32; refine (R32.out _ B.out).mono ?_; rintro e w9 ⟨rfl, hE9⟩; replace B := Lib.hid (B.out.next hE9); (try clear c0 c1 c2 c3 c4 c5 c6 c7 c8 c9 c10 c11 c12); have c0 := B.out.box 0 _ rfl; have c1 := B.out.box 1 _ rfl; have c2 := B.out.box 2 _ rfl; have c3 := B.out.box 3 _ rfl; have c4 := B.out.box 4 _ rfl; have c5 := B.out.box 5 _ rfl; have c6 := B.out.box 6 _ rfl; have c7 := B.out.box 7 _ rfl; have c8 := B.out.box 8 _ rfl; have c9 := B.out.box 9 _ rfl; have c10 := B.out.box 10 _ rfl; have c11 := B.out.box 11 _ rfl; have c12 := B.out.box 12 _ rfl; replace U := Lib.hid (U.out.ext hE9); (try clear v0 v1 v2 v3 v4); have v0 : World.cell? w9 ⟨(w.heap.size + 1), 0, none⟩ = some (.slice ob (ofTr T).tins.length cb) := U.out 0 _ rfl; have v1 := U.out 1 _ rfl; have v2 := U.out 2 _ rfl; have v3 := U.out 3 _ rfl; have v4 := U.out 4 _ rfl; replace O := Lib.hid (O.out.ext hE9); (try clear o0 o1 o2); have o0 := O.out 0 _ rfl; have o1 := O.out 1 _ rfl; have o2 := O.out 2 _ rfl; (try dsimp only at o0 o1 o2); clear hE9) | (go_at_call 26; refine (R26.out _ B.out).mono ?_; rintro e w9 ⟨rfl, hE9⟩; replace B := Lib.hid (B.out.next hE9); (try clear c0 c1 c2 c3 c4 c5 c6 c7 c8 c9 c10 c11 c12); have c0 := B.out.box 0 _ rfl; have c1 := B.out.box 1 _ rfl; have c2 := B.out.box 2 _ rfl; have c3 := B.out.box 3 _ rfl; have c4 := B.out.box 4 _ rfl; have c5 := B.out.box 5 _ rfl; have c6 := B.out.box 6 _ rfl; have c7 := B.out.box 7 _ rfl; have c8 := B.out.box 8 _ rfl; have c9 := B.out.box 9 _ rfl; have c10 := B.out.box 10 _ rfl; have c11 := B.out.box 11 _ rfl; have c12 := B.out.box 12 _ rfl; replace U := Lib.hid (U.out.ext hE9); (try clear v0 v1 v2 v3 v4); have v0 : World.cell? w9 ⟨(w.heap.size + 1), 0, none⟩ = some (.slice ob (ofTr T).tins.length cb) := U.out 0 _ rfl; have v1 := U.out 1 _ rfl; have v2 := U.out 2 _ rfl; have v3 := U.out 3 _ rfl; have v4 := U.out 4 _ rfl; replace O := Lib.hid (O.out.ext hE9); (try clear o0 o1 o2); have o0 := O.out 0 _ rfl; have o1 := O.out 1 _ rfl; have o2 := O.out 2 _ rfl; (try dsimp only at o0 o1 o2); clear hE9) | (go_at_call 57; have t0 := T1; clear t0 T1; refine (R57.out _).mono ?_; rintro e w9 ⟨rfl, hE9⟩; replace B := Lib.hid (B.out.next hE9); (try clear c0 c1 c2 c3 c4 c5 c6 c7 c8 c9 c10 c11 c12); have c0 := B.out.box 0 _ rfl; have c1 := B.out.box 1 _ rfl; have c2 := B.out.box 2 _ rfl; have c3 := B.out.box 3 _ rfl; have c4 := B.out.box 4 _ rfl; have c5 := B.out.box 5 _ rfl; have c6 := B.out.box 6 _ rfl; have c7 := B.out.box 7 _ rfl; have c8 := B.out.box 8 _ rfl; have c9 := B.out.box 9 _ rfl; have c10 := B.out.box 10 _ rfl; have c11 := B.out.box 11 _ rfl; have c12 := B.out.box 12 _ rfl; replace U := Lib.hid (U.out.ext hE9); (try clear v0 v1 v2 v3 v4); have v0 : World.cell? w9 ⟨(w.heap.size + 1), 0, none⟩ = some (.slice ob (ofTr T).tins.length cb) := U.out 0 _ rfl; have v1 := U.out 1 _ rfl; have v2 := U.out 2 _ rfl; have v3 := U.out 3 _ rfl; have v4 := U.out 4 _ rfl; replace O := Lib.hid (O.out.ext hE9); (try clear o0 o1 o2); have o0 := O.out 0 _ rfl; have o1 := O.out 1 _ rfl; have o2 := O.out 2 _ rfl; (try dsimp only at o0 o1 o2); clear hE9) | (go_at_call 55; refine (R55.out _ B.out).mono ?_; rintro e w9 ⟨rfl, hE9⟩; replace B := Lib.hid (B.out.next hE9); (try clear c0 c1 c2 c3 c4 c5 c6 c7 c8 c9 c10 c11 c12); have c0 := B.out.box 0 _ rfl; have c1 := B.out.box 1 _ rfl; have c2 := B.out.box 2 _ rfl; have c3 := B.out.box 3 _ rfl; have c4 := B.out.box 4 _ rfl; have c5 := B.out.box 5 _ rfl; have c6 := B.out.box 6 _ rfl; have c7 := B.out.box 7 _ rfl; have c8 := B.out.box 8 _ rfl; have c9 := B.out.box 9 _ rfl; have c10 := B.out.box 10 _ rfl; have c11 := B.out.box 11 _ rfl; have c12 := B.out.box 12 _ rfl; replace U := Lib.hid (U.out.ext hE9); (try clear v0 v1 v2 v3 v4); have v0 : World.cell? w9 ⟨(w.heap.size + 1), 0, none⟩ = some (.slice ob (ofTr T).tins.length cb) := U.out 0 _ rfl; have v1 := U.out 1 _ rfl; have v2 := U.out 2 _ rfl; have v3 := U.out 3 _ rfl; have v4 := U.out 4 _ rfl; replace O := Lib.hid (O.out.ext hE9); (try clear o0 o1 o2); have o0 := O.out 0 _ rfl; have o1 := O.out 1 _ rfl; have o2 := O.out 2 _ rfl; (try dsimp only at o0 o1 o2); have hltA := World.block_lt_of_cell? _ _ c0; have hneA := Nat.ne_of_lt hltA; simp only at hltA hneA; have hltU := World.block_lt_of_cell? _ _ v0; have hneU := Nat.ne_of_lt hltU; simp only at hltU hneU; have hltO := World.block_lt_of_cell? _ _ o0; have hneO := Nat.ne_of_lt hltO; simp only at hltO hneO; replace U := Lib.hid (U.out.ext ((Ext.refl w9).alloc (.cells #[.int .i64 n0, .int .i64 n1, .int .i64 n2] 22))); replace O := Lib.hid (O.out.ext ((Ext.refl w9).alloc (.cells #[.int .i64 n0, .int .i64 n1, .int .i64 n2] 22))); replace B := Lib.hid (B.out.alloc (.cells #[.int .i64 n0, .int .i64 n1, .int .i64 n2] 22)); have Y := Lib.hid (VB.new w9 [.int .i64 n0, .int .i64 n1, .int .i64 n2] 22); clear hE9) | (go_at_call 23; refine (R23.out _ B.out).mono ?_; rintro e w9 ⟨rfl, hE9⟩; replace B := Lib.hid (B.out.next hE9); (try clear c0 c1 c2 c3 c4 c5 c6 c7 c8 c9 c10 c11 c12); have c0 := B.out.box 0 _ rfl; have c1 := B.out.box 1 _ rfl; have c2 := B.out.box 2 _ rfl; have c3 := B.out.box 3 _ rfl; have c4 := B.out.box 4 _ rfl; have c5 := B.out.box 5 _ rfl; have c6 := B.out.box 6 _ rfl; have c7 := B.out.box 7 _ rfl; have c8 := B.out.box 8 _ rfl; have c9 := B.out.box 9 _ rfl; have c10 := B.out.box 10 _ rfl; have c11 := B.out.box 11 _ rfl; have c12 := B.out.box 12 _ rfl; replace U := Lib.hid (U.out.ext hE9); (try clear v0 v1 v2 v3 v4); have v0 : World.cell? w9 ⟨(w.heap.size + 1), 0, none⟩ = some (.slice ob (ofTr T).tins.length cb) := U.out 0 _ rfl; have v1 := U.out 1 _ rfl; have v2 := U.out 2 _ rfl; have v3 := U.out 3 _ rfl; have v4 := U.out 4 _ rfl; replace O := Lib.hid (O.out.ext hE9); (try clear o0 o1 o2); have o0 := O.out 0 _ rfl; have o1 := O.out 1 _ rfl; have o2 := O.out 2 _ rfl; (try dsimp only at o0 o1 o2); replace Y := Lib.hid (Y.out.ext hE9); (try clear y0 y1 y2); have y0 := Y.out 0 _ rfl; have y1 := Y.out 1 _ rfl; have y2 := Y.out 2 _ rfl; (try dsimp only at y0 y1 y2); clear hE9) | (go_at_call 45; refine (R45.out _ B.out).mono ?_; rintro e w9 ⟨rfl, hE9⟩; replace B := Lib.hid (B.out.next hE9); (try clear c0 c1 c2 c3 c4 c5 c6 c7 c8 c9 c10 c11 c12); have c0 := B.out.box 0 _ rfl; have c1 := B.out.box 1 _ rfl; have c2 := B.out.box 2 _ rfl; have c3 := B.out.box 3 _ rfl; have c4 := B.out.box 4 _ rfl; have c5 := B.out.box 5 _ rfl; have c6 := B.out.box 6 _ rfl; have c7 := B.out.box 7 _ rfl; have c8 := B.out.box 8 _ rfl; have c9 := B.out.box 9 _ rfl; have c10 := B.out.box 10 _ rfl; have c11 := B.out.box 11 _ rfl; have c12 := B.out.box 12 _ rfl; replace U := Lib.hid (U.out.ext hE9); (try clear v0 v1 v2 v3 v4); have v0 : World.cell? w9 ⟨(w.heap.size + 1), 0, none⟩ = some (.slice ob (ofTr T).tins.length cb) := U.out 0 _ rfl; have v1 := U.out 1 _ rfl; have v2 := U.out 2 _ rfl; have v3 := U.out 3 _ rfl; have v4 := U.out 4 _ rfl; replace O := Lib.hid (O.out.ext hE9); (try clear o0 o1 o2); have o0 := O.out 0 _ rfl; have o1 := O.out 1 _ rfl; have o2 := O.out 2 _ rfl; (try dsimp only at o0 o1 o2); replace Y := Lib.hid (Y.out.ext hE9); (try clear y0 y1 y2); have y0 := Y.out 0 _ rfl; have y1 := Y.out 1 _ rfl; have y2 := Y.out 2 _ rfl; (try dsimp only at y0 y1 y2); clear hE9) | (go_at_call 58; refine (R58.out _ B.out).mono ?_; rintro e w9 ⟨rfl, hE9⟩; replace B := Lib.hid (B.out.next hE9); (try clear c0 c1 c2 c3 c4 c5 c6 c7 c8 c9 c10 c11 c12); have c0 := B.out.box 0 _ rfl; have c1 := B.out.box 1 _ rfl; have c2 := B.out.box 2 _ rfl; have c3 := B.out.box 3 _ rfl; have c4 := B.out.box 4 _ rfl; have c5 := B.out.box 5 _ rfl; have c6 := B.out.box 6 _ rfl; have c7 := B.out.box 7 _ rfl; have c8 := B.out.box 8 _ rfl; have c9 := B.out.box 9 _ rfl; have c10 := B.out.box 10 _ rfl; have c11 := B.out.box 11 _ rfl; have c12 := B.out.box 12 _ rfl; replace U := Lib.hid (U.out.ext hE9); (try clear v0 v1 v2 v3 v4); have v0 : World.cell? w9 ⟨(w.heap.size + 1), 0, none⟩ = some (.slice ob (ofTr T).tins.length cb) := U.out 0 _ rfl; have v1 := U.out 1 _ rfl; have v2 := U.out 2 _ rfl; have v3 := U.out 3 _ rfl; have v4 := U.out 4 _ rfl; replace O := Lib.hid (O.out.ext hE9); (try clear o0 o1 o2); have o0 := O.out 0 _ rfl; have o1 := O.out 1 _ rfl; have o2 := O.out 2 _ rfl; (try dsimp only at o0 o1 o2); replace Y := Lib.hid (Y.out.ext hE9); (try clear y0 y1 y2); have y0 := Y.out 0 _ rfl; have y1 := Y.out 1 _ rfl; have y2 := Y.out 2 _ rfl; (try dsimp only at y0 y1 y2); clear hE9))
 obtain ⟨wv, rfl⟩ : ∃ W : World, W = w9 := ⟨_, rfl⟩
 clear c0 c1 c2 c3 c4 c5 c6 c7 c8 c9 c10 c11 c12 v0 v1 v2 v3 v4
 refine wp_region_plan (.take 0 <| .only 1 <| .take 2 <| .take 3 <| .take 4 <| .take 5 <| .take 6 <| .take 7 <| .take 8 <| .take 9 <| .take 10 <| .take 11 <| .take 12 <| .take 13 <| .take 14 <| .only 15 <| .take 16 <| .take 17 <| .done) (fun W => Ext wv W) mixed (by kernel_rfl) (by kernel_rfl) rfl (fun _ _ d _ _ h => by cases d <;> exact h) ((Ext.refl wv).drew) ?_
 repeat ((first | (refine plan_take (v := ?_) rfl rfl (fun W hW => ?_) ?_; rotate_left; (focus (have d0 := cell_ext hW y0; have d1 := cell_ext hW y1; have d2 := cell_ext hW y2; go_simp; first | exact rfl | (split <;> first | exact rfl | (exfalso; omega)) | done))) | refine plan_skip rfl rfl ?_); simp only [puts])
 refine plan_walk rfl ?_; intro K hK
 go_wp2_with (first | (go_at_call 57; refine (R57n.out _).mono ?_; rintro e w5 ⟨rfl, hE5⟩))
 have X := Lib.hid ((Ext.refl wv).drew.trans hE5)
 refine hK _ _ X.out ?_
 clear hE5 hK
 repeat ((first | (refine plan_take (v := ?_) rfl rfl (fun W hW => ?_) ?_; rotate_left; (focus (skip; go_simp; first | exact rfl | (split <;> first | exact rfl | (exfalso; omega)) | done))) | refine plan_skip rfl rfl ?_); simp only [puts])
 refine plan_walk rfl ?_; intro K hK
 go_wp2
 refine hK _ _ X.out ?_
 clear hK
 repeat ((first | (refine plan_take (v := ?_) rfl rfl (fun W hW => ?_) ?_; rotate_left; (focus (skip; go_simp; first | exact rfl | (split <;> first | exact rfl | (exfalso; omega)) | done))) | refine plan_skip rfl rfl ?_); simp only [puts])
 refine plan_done ?_
 clear y0 y1 y2 o0 o1 o2
 have HB1 := Lib.hid (B.out.next X.out)
 have HU1 := Lib.hid (U.out.ext X.out)
 have HY1 := Lib.hid (Y.out.ext X.out)
 clear B U O Y X
 go_wp2
 obtain ⟨w1, hw1⟩ : ∃ W, W = w5 := ⟨_, rfl⟩
 rw [← hw1] at HB1 HU1 HY1 ⊢
 clear hw1
 go_loopg [16, 17, 18] 3 (fun g u v i wr => ∃ j : Nat, j + g = 3 ∧ i = .int .i64 j ∧ Ext w1 wr ∧ u = .int .i64 (triTo (boardF s T D) j) ∧ v = .int .i64 (triTo (offF s D) j))
 case atStart => exact ⟨0, by omega, rfl, Ext.refl _, rfl, rfl⟩
 case round =>
  obtain ⟨j, hj, rfl, hE, rfl, rfl⟩ := hrel
  have HE := Lib.hid hE
  clear hE
  by_cases hlt : j < 3
  ·have hjI : (j : Int) < 3 := by omega
   have B := Lib.hid (HB1.out.next HE.out)
   have U := Lib.hid (HU1.out.ext HE.out)
   have Y := Lib.hid (HY1.out.ext HE.out)
   have c0 := B.out.box 0 _ rfl; have c1 := B.out.box 1 _ rfl; have c2 := B.out.box 2 _ rfl; have c3 := B.out.box 3 _ rfl; have c4 := B.out.box 4 _ rfl; have c5 := B.out.box 5 _ rfl; have c6 := B.out.box 6 _ rfl; have c7 := B.out.box 7 _ rfl; have c8 := B.out.box 8 _ rfl; have c9 := B.out.box 9 _ rfl; have c10 := B.out.box 10 _ rfl; have c11 := B.out.box 11 _ rfl; have c12 := B.out.box 12 _ rfl
   have v1 : wr.cell? ⟨w.heap.size + 1, 1, none⟩ = some (.int .i64 (T.years : Nat)) := U.out 1 _ rfl
   have vf := U.out.fade hlt
   rw [Uc.out j hlt] at vf
   have y := Y.out j (.int .i64 (D j)) (by
    obtain ⟨h0, h1, h2⟩ := HD3.out
    match j, hlt with
    | 0, _ => rw [h0]; rfl
    | 1, _ => rw [h1]; rfl
    | 2, _ => rw [h2]; rfl)
   have r35 := Lib.hid (R35.out j hlt)
   have hdj := Hd.out j hlt
   have hlj := Hleft.out j hlt
   have hs1 := Hs1.out j (by omega)
   have hs2 := Hs2.out j (by omega)
   have hbj := Hbo.out j hlt
   have hok := hof.out j hlt
   have U1 := Lib.hid (Hu1.out j)
   have U2 := Lib.hid (Hu2.out j)
   simp only [boardF, leftT, offF] at U1 U2 hok hbj
   generalize triTo (boardF s T D) j = S1 at *
   generalize triTo (offF s D) j = S2 at *
   generalize left (s.old j) T.years (T.fade j) = A at *
   generalize D j = d at *
   obtain ⟨X, hX⟩ : ∃ X, d * (A : Int) = X := ⟨_, rfl⟩
   rw [hX] at U1 hbj
   obtain ⟨Z, hZ⟩ : ∃ Z, max d (-d) = Z := ⟨_, rfl⟩
   rw [hZ] at U2 hok
   have q0 : IntKind.i64.wrap (-d) = -d := by rw [IntWalk.i64_in _ (by omega)]
   have q1 : IntKind.i64.wrap X = X := by rw [IntWalk.i64_in _ (by omega)]
   have hmz : (if d < -d then -d else d) = Z := by rw [← hZ]; split <;> omega
   obtain ⟨OO, hO⟩ : ∃ O, (s.off : Int) * Z = O := ⟨_, rfl⟩
   rw [hO] at U2 hok
   have q3 : IntKind.i64.wrap (S1 + X) = S1 + X := by rw [IntWalk.i64_in _ (by omega)]
   have q4 : IntKind.i64.wrap OO = OO := by rw [IntWalk.i64_in _ (by omega)]
   have q5 : IntKind.i64.wrap (S2 + OO) = S2 + OO := by rw [IntWalk.i64_in _ (by omega)]
   clear hdj hlj hs1 hs2 hbj hok
   go_wp2_with fail
   refine wp_region_plan (.take 0 <| .take 1 <| .take 2 <| .take 3 <| .take 4 <| .take 5 <| .take 6 <| .take 7 <| .take 8 <| .take 9 <| .take 10 <| .take 11 <| .only 12 <| .take 13 <| .take 14 <| .take 15 <| .done) (fun W => Ext wr W) mixed (by kernel_rfl) (by kernel_rfl) rfl (fun _ _ d _ _ h => by cases d <;> exact h) ((Ext.refl wr).drew) ?_
   repeat ((first | (refine plan_take (v := ?_) rfl rfl (fun W hW => ?_) ?_; rotate_left; (focus (have d0 := cell_ext hW c0; have d1 := cell_ext hW c1; have d2 := cell_ext hW c2; have d3 := cell_ext hW c3; have d4 := cell_ext hW c4; have d5 := cell_ext hW c5; have d6 := cell_ext hW c6; have d7 := cell_ext hW c7; have d8 := cell_ext hW c8; have d9 := cell_ext hW c9; have d10 := cell_ext hW c10; have d11 := cell_ext hW c11; have d12 := cell_ext hW c12; have u1 := cell_ext hW v1; have uf := cell_ext hW vf; have ux := cell_ext hW y; go_simp; first | exact rfl | (split <;> first | exact rfl | (exfalso; omega)) | done))) | refine plan_skip rfl rfl ?_); simp only [puts])
   refine plan_walk rfl ?_; intro K hK
   go_wp2_with (first | (go_at_call 35; refine (r35.out _).mono ?_; rintro e w5 ⟨rfl, hE5⟩))
   have X := Lib.hid ((Ext.refl wr).drew.trans hE5)
   refine hK _ _ X.out ?_
   clear hE5 hK
   repeat ((first | (refine plan_take (v := ?_) rfl rfl (fun W hW => ?_) ?_; rotate_left; (focus (skip; go_simp; first | exact rfl | (split <;> first | exact rfl | (exfalso; omega)) | done))) | refine plan_skip rfl rfl ?_); simp only [puts])
   refine plan_done ?_
   have y' := cell_ext X.out y
   have c11' : w5.cell? ⟨w.heap.size, 11, none⟩ = some (.int .i64 (s.off : Int)) := cell_ext X.out c11
   clear c0 c1 c2 c3 c4 c5 c6 c7 c8 c9 c10 c11 c12 v1 vf y
   go_wp2_with fail
   refine wp_region_plan (.take 0 <| .take 1 <| .take 2 <| .take 3 <| .take 4 <| .take 5 <| .take 6 <| .take 7 <| .take 8 <| .take 9 <| .take 10 <| .take 11 <| .take 12 <| .take 13 <| .done) (fun W => Ext w5 W) mixed (by kernel_rfl) (by kernel_rfl) rfl (fun _ _ d _ _ h => by cases d <;> exact h) ((Ext.refl w5).drew) ?_
   repeat ((first | (refine plan_take (v := ?_) rfl rfl (fun W hW => ?_) ?_; rotate_left; (focus (have d0 := cell_ext hW y'; have d1 := cell_ext hW c11'; go_simp; first | exact rfl | (split <;> first | exact rfl | (exfalso; omega)) | done))) | refine plan_skip rfl rfl ?_); simp only [puts])
   refine plan_done ?_
   clear y' c11'
   go_wp2
   go_roundg (gk - 1)
   case measure => omega
   case rel => exact ⟨j + 1, by omega, by go_num, HE.out.trans (X.out.trans (Ext.refl w5).drew), by rw [U1.out], by rw [U2.out]⟩
  ·obtain rfl : j = 3 := by omega
   have hb3 := Hs1.out 3 (by omega)
   have ho3 := Hs2.out 3 (by omega)
   have HB2 := Lib.hid (HB1.out.next HE.out)
   have HU2 := Lib.hid (HU1.out.ext HE.out)
   have HY2 := Lib.hid (HY1.out.ext HE.out)
   have Hdd := Lib.hid (And.intro (Hd.out 0 (by omega)) (And.intro (Hd.out 1 (by omega)) (Hd.out 2 (by omega))))
   obtain ⟨h0, h1, h2⟩ := HD3.out
   rw [← h0, ← h1, ← h2] at Hgap Hdd
   clear HB1 HU1 HY1 Hs1 Hs2 Hu1 Hu2 Hbo hof HE R35 Hleft Uc Hd h0 h1 h2
   generalize triTo (boardF s T D) 3 = BO at *
   generalize triTo (offF s D) 3 = OF at *
   obtain ⟨wo, rfl⟩ : ∃ wo : World, wo = wr := ⟨_, rfl⟩
   have hbo := Lib.hid (And.intro hb3 ho3)
   clear hb3 ho3 hj
   go_wp2
   go_loopg [19] T.tins.length (fun g i wr => ∃ j : Nat, j + g = T.tins.length ∧ i = .int .i64 j ∧ Ext wo wr)
   case atStart => exact ⟨0, by omega, rfl, Ext.refl _⟩
   case round =>
    obtain ⟨j, hj, rfl, hE⟩ := hrel
    have HE := Lib.hid hE
    clear hE
    have U := Lib.hid (HU2.out.ext HE.out)
    have v0 : wr.cell? ⟨w.heap.size + 1, 0, none⟩ = some (.slice ob T.tins.length cb) := by rw [← Htn.out]; exact U.out 0 _ rfl
    by_cases hlt : j < T.tins.length
    ·have hjI : (j : Int) < (T.tins.length : Int) := by omega
     have y0 := (HY2.out.ext HE.out) 0 _ rfl
     have y1 := (HY2.out.ext HE.out) 1 _ rfl
     have y2 := (HY2.out.ext HE.out) 2 _ rfl
     obtain ⟨b, off', x0, x1, x2, hob, hb, hxx, k0, k1, k2⟩ := (Ht.out.ext (HB2.out.ext.trans HE.out)).at (k := j) (by rw [Htn.out]; exact hlt)
     subst hob
     have e0 : x0 = (((T.tins.getD j []).getD 0 0 : Nat) : Int) := (hxx 0 (by omega)).symm.trans (Hx.out j 0)
     have e1 : x1 = (((T.tins.getD j []).getD 1 0 : Nat) : Int) := (hxx 1 (by omega)).symm.trans (Hx.out j 1)
     have e2 : x2 = (((T.tins.getD j []).getD 2 0 : Nat) : Int) := (hxx 2 (by omega)).symm.trans (Hx.out j 2)
     have hgap := Hgap.out j hlt
     have l0 := H99.out j hlt 0 (by omega)
     have l1 := H99.out j hlt 1 (by omega)
     have l2 := H99.out j hlt 2 (by omega)
     rw [← e0, ← e1, ← e2] at hgap
     obtain ⟨g0, g1, g2⟩ := Hdd.out
     have m0 : -198 ≤ n0 * x0 ∧ n0 * x0 ≤ 198 := by rw [e0]; exact mul_in g0 l0
     have m1 : -198 ≤ n1 * x1 ∧ n1 * x1 ≤ 198 := by rw [e1]; exact mul_in g1 l1
     have m2 : -198 ≤ n2 * x2 ∧ n2 * x2 ≤ 198 := by rw [e2]; exact mul_in g2 l2
     obtain ⟨b1, b2⟩ := hbo.out
     clear e0 e1 e2 hxx l0 l1 l2 g0 g1 g2
     obtain ⟨X0, hX0⟩ : ∃ X, n0 * x0 = X := ⟨_, rfl⟩
     obtain ⟨X1, hX1⟩ : ∃ X, n1 * x1 = X := ⟨_, rfl⟩
     obtain ⟨X2, hX2⟩ : ∃ X, n2 * x2 = X := ⟨_, rfl⟩
     rw [hX0, hX1, hX2] at hgap
     rw [hX0] at m0
     rw [hX1] at m1
     rw [hX2] at m2
     have w0' : IntKind.i64.wrap X0 = X0 := by rw [IntWalk.i64_in _ (by omega)]
     have w1' : IntKind.i64.wrap X1 = X1 := by rw [IntWalk.i64_in _ (by omega)]
     have w2' : IntKind.i64.wrap X2 = X2 := by rw [IntWalk.i64_in _ (by omega)]
     have w3' : IntKind.i64.wrap (X0 + X1) = X0 + X1 := by rw [IntWalk.i64_in _ (by omega)]
     have w4' : IntKind.i64.wrap (X0 + X1 + X2) = X0 + X1 + X2 := by rw [IntWalk.i64_in _ (by omega)]
     have w5' : IntKind.i64.wrap (X0 + X1 + X2 + OF) = X0 + X1 + X2 + OF := by rw [IntWalk.i64_in _ (by omega)]
     have hnI : ¬ BO ≤ X0 + X1 + X2 + OF := by omega
     clear m0 m1 m2 b1 b2 hgap
     go_wp2_with fail
     refine wp_region_plan (.take 0 <| .take 1 <| .take 2 <| .take 3 <| .take 4 <| .take 5 <| .take 6 <| .take 7 <| .take 8 <| .take 9 <| .take 10 <| .take 11 <| .take 12 <| .take 13 <| .take 14 <| .take 15 <| .take 16 <| .take 17 <| .take 18 <| .take 19 <| .take 20 <| .take 21 <| .take 22 <| .take 23 <| .take 24 <| .take 25 <| .take 26 <| .take 27 <| .take 28 <| .take 29 <| .take 30 <| .take 31 <| .take 32 <| .done) (fun W => Ext wr W) mixed (by kernel_rfl) (by kernel_rfl) rfl (fun _ _ d _ _ h => by cases d <;> exact h) ((Ext.refl wr).drew) ?_
     repeat ((first | (refine plan_take (v := ?_) rfl rfl (fun W hW => ?_) ?_; rotate_left; (focus (have d0 := cell_ext hW y0; have d1 := cell_ext hW y1; have d2 := cell_ext hW y2; have d3 := cell_ext hW v0; have f0 := cell_ext hW k0; have f1 := cell_ext hW k1; have f2 := cell_ext hW k2; go_simp; first | exact rfl | (split <;> first | exact rfl | (exfalso; omega)) | done))) | refine plan_skip rfl rfl ?_); simp only [puts])
     refine plan_done ?_
     clear y0 y1 y2 v0 k0 k1 k2
     go_wp2
     go_roundg (gk - 1)
     case measure => omega
     case rel => exact ⟨j + 1, by omega, by go_num, HE.out.trans (Ext.refl wr).drew⟩
    ·obtain rfl : j = T.tins.length := by omega
     have B := Lib.hid (HB2.out.next HE.out)
     clear HB2 HU2 HY2
     go_wp2_with (first | (go_at_call 22; refine (Rk.out _ B.out).mono ?_; rintro e w9 ⟨rfl, hE9⟩; replace B := Lib.hid (B.out.next hE9); (try clear c0 c1 c2 c3 c4 c5 c6 c7 c8 c9 c10 c11 c12); have c0 := B.out.box 0 _ rfl; have c1 := B.out.box 1 _ rfl; have c2 := B.out.box 2 _ rfl; have c3 := B.out.box 3 _ rfl; have c4 := B.out.box 4 _ rfl; have c5 := B.out.box 5 _ rfl; have c6 := B.out.box 6 _ rfl; have c7 := B.out.box 7 _ rfl; have c8 := B.out.box 8 _ rfl; have c9 := B.out.box 9 _ rfl; have c10 := B.out.box 10 _ rfl; have c11 := B.out.box 11 _ rfl; have c12 := B.out.box 12 _ rfl; clear hE9))
     go_ret
     exact ⟨rfl, B.out.ext⟩

theorem law14st {s : Sh} (g : Fine s) {m : List Nat} (hm : IsMix s m) {T : Tr} (hT : GoodT s T) {k : Nat} (hk : k < 125) (hz : sizeD (dirOf k) ≠ 0) {n : Nat} (hn : proofN s = some n) (hp : parted s (dirOf k) = true) {ot ol ob : Option Addr} {cap cl cb : Nat} {w : World} (h : TinsAt w ot (ofSh s).tins) (hi : IntsAt w ol (upL m)) (ht : TrisAt w ob (ofTr T).tins) (q : Int) (hq : w.cell? ⟨1, 0, none⟩ = some (.int .i64 q)) :
  Calls Tryz.prog 14 #[sheetV (ofSh s) ot cap, .slice ol m.length cl, truthV (ofTr T) ob cb, .agg #[.int .i64 (dirOf k 0), .int .i64 (dirOf k 1), .int .i64 (dirOf k 2)]] w fun e w' => e = .returned (.bool true) ∧ Ext w w' := by
 have R32 := Lib.hid (fun W (hW : LB (ofSh s) ot cap w W) => right_up g hm ot cap ol cl W hW.tins (hi.ext hW.ext))
 have R26 := Lib.hid (fun W (hW : LB (ofSh s) ot cap w W) => rTruth_any s g ot cap (ofTr T) ob cb W hW.tins (ht.ext hW.ext) (by have := hT.len; have := g.len2; simp [ofTr]; omega))
 simp only [truth_of hT] at R26
 have R57 := Lib.hid (fun W => rSide_any (dirOf k) (dirOf_in hk) W)
 rw [decide_eq_true hz] at R57
 have R55 := Lib.hid (fun W (hW : LB (ofSh s) ot cap w W) => sProof_any s g ot cap W hW.tins)
 have R23 := Lib.hid (fun W (hW : LB (ofSh s) ot cap w W) => sTrue_ok s g m hm T hT ot cap ol cl ob cb W hW.tins (hi.ext hW.ext) (ht.ext hW.ext))
 have R45 := Lib.hid (fun W (hW : LB (ofSh s) ot cap w W) => word45 s g m hm ot cap ol cl W hW.tins (hi.ext hW.ext))
 have R58 := Lib.hid (fun W (hW : LB (ofSh s) ot cap w W) => rParted_any s g (dirOf k) (dirOf_in hk) ot cap W hW.tins)
 have Rk := Lib.hid (fun (W : World) (hW : LB (ofSh s) ot cap w W) => known_any W q (cell_ext hW.ext hq))
 have htl : ¬ (6 : Int) < ((ofTr T).tins.length : Int) := by have := hT.len; have := g.len2; simp [ofTr]; omega
 obtain ⟨hn1, hn2, hn3, hn4⟩ := proof_first hn
 rw [hp] at R58
 have hlex := dir_lex (hn4 k hk hz hp)
 rw [parted_not_true g hm hn3 hT] at R23
 rw [(Go.TintM.word_never g hm).2 (parted_never g hm hn3)] at R45
 simp only [proofV, hn] at R55
 have R57n := Lib.hid (fun W => rSide_any (dirOf n) (dirOf_in hn1) W)
 rw [decide_eq_true hn2] at R57n
 have R35 := Lib.hid (fun p (hp : p < 3) W => faded_any s g ot cap p T.years (T.fade p) hp (Nat.le_trans hT.y2 g.yhi) (Nat.le_trans (hT.f2 p hp) (g.fhi p hp)) W)
 have R54 := Lib.hid (fun oa ob' W (h1 : IntsAt W oa [dirOf k 0, dirOf k 1, dirOf k 2]) (h2 : IntsAt W ob' [dirOf n 0, dirOf n 1, dirOf n 2]) => tbefore_int _ _ oa ob' 3 3 W h1 h2 (by simp))
 simp only [hlex, List.length_cons, List.length_nil, Nat.zero_add, Nat.reduceAdd] at R54
 have Hd := Lib.hid (dirOf_in hn1)
 have Hs1 := Lib.hid (triTo_small (board_in g T (dirOf_in hn1)))
 have Hs2 := Lib.hid (triTo_small (offF_in g (dirOf_in hn1)))
 have Hu1 := Lib.hid (fun j => (show triTo (boardF s T (dirOf n)) (j + 1) = triTo (boardF s T (dirOf n)) j + boardF s T (dirOf n) j from rfl))
 have Hu2 := Lib.hid (fun j => (show triTo (offF s (dirOf n)) (j + 1) = triTo (offF s (dirOf n)) j + offF s (dirOf n) j from rfl))
 have Hbo := Lib.hid (board_in g T (dirOf_in hn1))
 have hof := Lib.hid (offF_in g (dirOf_in hn1))
 have Hgap := Lib.hid (fun i (hi : i < T.tins.length) => gap_three hn3 hT hi)
 have H99 := Lib.hid (fun i (hi : i < T.tins.length) p (hp : p < 3) => tin_three g hT hi hp)
 have Ht := Lib.hid ht
 have Hx := Lib.hid (fun i p => ofTr_x T i p)
 have Uc := Lib.hid (show ∀ p, p < 3 → (ofTr T).f p = (T.fade p : Nat) from fun p hp => ofTr_f T hp)
 have Htn := Lib.hid (show (ofTr T).tins.length = T.tins.length by simp [ofTr])
 have hoff2 := g.off2
 have hT6 : T.tins.length ≤ 6 := by have := hT.len; have := g.len2; omega
 have Hleft := Lib.hid (fun p (hp : p < 3) => (show left (s.old p) T.years (T.fade p) ≤ 99 from Nat.le_trans (left_le _ _ _) (g.old p hp)))
 simp only [dirV] at R57 R57n R58 R55
 clear hn2 hn3 hn4
 generalize dirOf n = D at *
 obtain ⟨n0, hn0⟩ : ∃ x, x = D 0 := ⟨_, rfl⟩
 obtain ⟨n1, hn1⟩ : ∃ x, x = D 1 := ⟨_, rfl⟩
 obtain ⟨n2, hn2⟩ : ∃ x, x = D 2 := ⟨_, rfl⟩
 have HD3 := Lib.hid (And.intro hn0 (And.intro hn1 hn2))
 rw [← hn0, ← hn1, ← hn2] at R57n R55 R54
 clear hn0 hn1 hn2
 generalize dirOf k 0 = e0 at *
 generalize dirOf k 1 = e1 at *
 generalize dirOf k 2 = e2 at *
 have B := Lib.hid (((LB.start (cap := cap) h).alloc (.cells (truthC (ofTr T) ob cb) 32)).alloc (.cells #[.int .i64 e0, .int .i64 e1, .int .i64 e2] 22))
 have U := Lib.hid (show TruthBox (((w.alloc (.cells (sheetC (ofSh s) ot cap) 28)).alloc (.cells (truthC (ofTr T) ob cb) 32)).alloc (.cells #[.int .i64 e0, .int .i64 e1, .int .i64 e2] 22)) (w.heap.size + 1) (ofTr T) ob cb by
  have := (TruthBox.new (w.alloc (.cells (sheetC (ofSh s) ot cap) 28)) (ofTr T) ob cb).ext ((Ext.refl _).alloc (.cells #[.int .i64 e0, .int .i64 e1, .int .i64 e2] 22))
  simpa only [World.size_alloc] using this)
 have O := Lib.hid (show VB (((w.alloc (.cells (sheetC (ofSh s) ot cap) 28)).alloc (.cells (truthC (ofTr T) ob cb) 32)).alloc (.cells #[.int .i64 e0, .int .i64 e1, .int .i64 e2] 22)) (w.heap.size + 2) [.int .i64 e0, .int .i64 e1, .int .i64 e2] by
  have := VB.new ((w.alloc (.cells (sheetC (ofSh s) ot cap) 28)).alloc (.cells (truthC (ofTr T) ob cb) 32)) [.int .i64 e0, .int .i64 e1, .int .i64 e2] 22
  simpa only [World.size_alloc] using this)
 have T1 := Lib.hid trivial
 clear g hm hT hk hz hn h hi ht hq hp hlex
 go_enter Tryz.func14, Tryz.ntmps14
 go_wp2_with (first | (go_at_call 32; refine (R32.out _ B.out).mono ?_; rintro e w9 ⟨rfl, hE9⟩; replace B := Lib.hid (B.out.next hE9); (try clear c0 c1 c2 c3 c4 c5 c6 c7 c8 c9 c10 c11 c12); have c0 := B.out.box 0 _ rfl; have c1 := B.out.box 1 _ rfl; have c2 := B.out.box 2 _ rfl; have c3 := B.out.box 3 _ rfl; have c4 := B.out.box 4 _ rfl; have c5 := B.out.box 5 _ rfl; have c6 := B.out.box 6 _ rfl; have c7 := B.out.box 7 _ rfl; have c8 := B.out.box 8 _ rfl; have c9 := B.out.box 9 _ rfl; have c10 := B.out.box 10 _ rfl; have c11 := B.out.box 11 _ rfl; have c12 := B.out.box 12 _ rfl; replace U := Lib.hid (U.out.ext hE9); (try clear v0 v1 v2 v3 v4); have v0 : World.cell? w9 ⟨(w.heap.size + 1), 0, none⟩ = some (.slice ob (ofTr T).tins.length cb) := U.out 0 _ rfl; have v1 := U.out 1 _ rfl; have v2 := U.out 2 _ rfl; have v3 := U.out 3 _ rfl; have v4 := U.out 4 _ rfl; replace O := Lib.hid (O.out.ext hE9); (try clear o0 o1 o2); have o0 := O.out 0 _ rfl; have o1 := O.out 1 _ rfl; have o2 := O.out 2 _ rfl; (try dsimp only at o0 o1 o2); clear hE9) | (go_at_call 26; refine (R26.out _ B.out).mono ?_; rintro e w9 ⟨rfl, hE9⟩; replace B := Lib.hid (B.out.next hE9); (try clear c0 c1 c2 c3 c4 c5 c6 c7 c8 c9 c10 c11 c12); have c0 := B.out.box 0 _ rfl; have c1 := B.out.box 1 _ rfl; have c2 := B.out.box 2 _ rfl; have c3 := B.out.box 3 _ rfl; have c4 := B.out.box 4 _ rfl; have c5 := B.out.box 5 _ rfl; have c6 := B.out.box 6 _ rfl; have c7 := B.out.box 7 _ rfl; have c8 := B.out.box 8 _ rfl; have c9 := B.out.box 9 _ rfl; have c10 := B.out.box 10 _ rfl; have c11 := B.out.box 11 _ rfl; have c12 := B.out.box 12 _ rfl; replace U := Lib.hid (U.out.ext hE9); (try clear v0 v1 v2 v3 v4); have v0 : World.cell? w9 ⟨(w.heap.size + 1), 0, none⟩ = some (.slice ob (ofTr T).tins.length cb) := U.out 0 _ rfl; have v1 := U.out 1 _ rfl; have v2 := U.out 2 _ rfl; have v3 := U.out 3 _ rfl; have v4 := U.out 4 _ rfl; replace O := Lib.hid (O.out.ext hE9); (try clear o0 o1 o2); have o0 := O.out 0 _ rfl; have o1 := O.out 1 _ rfl; have o2 := O.out 2 _ rfl; (try dsimp only at o0 o1 o2); clear hE9) | (go_at_call 57; have t0 := T1; clear t0 T1; refine (R57.out _).mono ?_; rintro e w9 ⟨rfl, hE9⟩; replace B := Lib.hid (B.out.next hE9); (try clear c0 c1 c2 c3 c4 c5 c6 c7 c8 c9 c10 c11 c12); have c0 := B.out.box 0 _ rfl; have c1 := B.out.box 1 _ rfl; have c2 := B.out.box 2 _ rfl; have c3 := B.out.box 3 _ rfl; have c4 := B.out.box 4 _ rfl; have c5 := B.out.box 5 _ rfl; have c6 := B.out.box 6 _ rfl; have c7 := B.out.box 7 _ rfl; have c8 := B.out.box 8 _ rfl; have c9 := B.out.box 9 _ rfl; have c10 := B.out.box 10 _ rfl; have c11 := B.out.box 11 _ rfl; have c12 := B.out.box 12 _ rfl; replace U := Lib.hid (U.out.ext hE9); (try clear v0 v1 v2 v3 v4); have v0 : World.cell? w9 ⟨(w.heap.size + 1), 0, none⟩ = some (.slice ob (ofTr T).tins.length cb) := U.out 0 _ rfl; have v1 := U.out 1 _ rfl; have v2 := U.out 2 _ rfl; have v3 := U.out 3 _ rfl; have v4 := U.out 4 _ rfl; replace O := Lib.hid (O.out.ext hE9); (try clear o0 o1 o2); have o0 := O.out 0 _ rfl; have o1 := O.out 1 _ rfl; have o2 := O.out 2 _ rfl; (try dsimp only at o0 o1 o2); clear hE9) | (go_at_call 55; refine (R55.out _ B.out).mono ?_; rintro e w9 ⟨rfl, hE9⟩; replace B := Lib.hid (B.out.next hE9); (try clear c0 c1 c2 c3 c4 c5 c6 c7 c8 c9 c10 c11 c12); have c0 := B.out.box 0 _ rfl; have c1 := B.out.box 1 _ rfl; have c2 := B.out.box 2 _ rfl; have c3 := B.out.box 3 _ rfl; have c4 := B.out.box 4 _ rfl; have c5 := B.out.box 5 _ rfl; have c6 := B.out.box 6 _ rfl; have c7 := B.out.box 7 _ rfl; have c8 := B.out.box 8 _ rfl; have c9 := B.out.box 9 _ rfl; have c10 := B.out.box 10 _ rfl; have c11 := B.out.box 11 _ rfl; have c12 := B.out.box 12 _ rfl; replace U := Lib.hid (U.out.ext hE9); (try clear v0 v1 v2 v3 v4); have v0 : World.cell? w9 ⟨(w.heap.size + 1), 0, none⟩ = some (.slice ob (ofTr T).tins.length cb) := U.out 0 _ rfl; have v1 := U.out 1 _ rfl; have v2 := U.out 2 _ rfl; have v3 := U.out 3 _ rfl; have v4 := U.out 4 _ rfl; replace O := Lib.hid (O.out.ext hE9); (try clear o0 o1 o2); have o0 := O.out 0 _ rfl; have o1 := O.out 1 _ rfl; have o2 := O.out 2 _ rfl; (try dsimp only at o0 o1 o2); have hltA := World.block_lt_of_cell? _ _ c0; have hneA := Nat.ne_of_lt hltA; simp only at hltA hneA; have hltU := World.block_lt_of_cell? _ _ v0; have hneU := Nat.ne_of_lt hltU; simp only at hltU hneU; have hltO := World.block_lt_of_cell? _ _ o0; have hneO := Nat.ne_of_lt hltO; simp only at hltO hneO; replace U := Lib.hid (U.out.ext ((Ext.refl w9).alloc (.cells #[.int .i64 n0, .int .i64 n1, .int .i64 n2] 22))); replace O := Lib.hid (O.out.ext ((Ext.refl w9).alloc (.cells #[.int .i64 n0, .int .i64 n1, .int .i64 n2] 22))); replace B := Lib.hid (B.out.alloc (.cells #[.int .i64 n0, .int .i64 n1, .int .i64 n2] 22)); have Y := Lib.hid (VB.new w9 [.int .i64 n0, .int .i64 n1, .int .i64 n2] 22); clear hE9) | (go_at_call 23; refine (R23.out _ B.out).mono ?_; rintro e w9 ⟨rfl, hE9⟩; replace B := Lib.hid (B.out.next hE9); (try clear c0 c1 c2 c3 c4 c5 c6 c7 c8 c9 c10 c11 c12); have c0 := B.out.box 0 _ rfl; have c1 := B.out.box 1 _ rfl; have c2 := B.out.box 2 _ rfl; have c3 := B.out.box 3 _ rfl; have c4 := B.out.box 4 _ rfl; have c5 := B.out.box 5 _ rfl; have c6 := B.out.box 6 _ rfl; have c7 := B.out.box 7 _ rfl; have c8 := B.out.box 8 _ rfl; have c9 := B.out.box 9 _ rfl; have c10 := B.out.box 10 _ rfl; have c11 := B.out.box 11 _ rfl; have c12 := B.out.box 12 _ rfl; replace U := Lib.hid (U.out.ext hE9); (try clear v0 v1 v2 v3 v4); have v0 : World.cell? w9 ⟨(w.heap.size + 1), 0, none⟩ = some (.slice ob (ofTr T).tins.length cb) := U.out 0 _ rfl; have v1 := U.out 1 _ rfl; have v2 := U.out 2 _ rfl; have v3 := U.out 3 _ rfl; have v4 := U.out 4 _ rfl; replace O := Lib.hid (O.out.ext hE9); (try clear o0 o1 o2); have o0 := O.out 0 _ rfl; have o1 := O.out 1 _ rfl; have o2 := O.out 2 _ rfl; (try dsimp only at o0 o1 o2); replace Y := Lib.hid (Y.out.ext hE9); (try clear y0 y1 y2); have y0 := Y.out 0 _ rfl; have y1 := Y.out 1 _ rfl; have y2 := Y.out 2 _ rfl; (try dsimp only at y0 y1 y2); clear hE9) | (go_at_call 45; refine (R45.out _ B.out).mono ?_; rintro e w9 ⟨rfl, hE9⟩; replace B := Lib.hid (B.out.next hE9); (try clear c0 c1 c2 c3 c4 c5 c6 c7 c8 c9 c10 c11 c12); have c0 := B.out.box 0 _ rfl; have c1 := B.out.box 1 _ rfl; have c2 := B.out.box 2 _ rfl; have c3 := B.out.box 3 _ rfl; have c4 := B.out.box 4 _ rfl; have c5 := B.out.box 5 _ rfl; have c6 := B.out.box 6 _ rfl; have c7 := B.out.box 7 _ rfl; have c8 := B.out.box 8 _ rfl; have c9 := B.out.box 9 _ rfl; have c10 := B.out.box 10 _ rfl; have c11 := B.out.box 11 _ rfl; have c12 := B.out.box 12 _ rfl; replace U := Lib.hid (U.out.ext hE9); (try clear v0 v1 v2 v3 v4); have v0 : World.cell? w9 ⟨(w.heap.size + 1), 0, none⟩ = some (.slice ob (ofTr T).tins.length cb) := U.out 0 _ rfl; have v1 := U.out 1 _ rfl; have v2 := U.out 2 _ rfl; have v3 := U.out 3 _ rfl; have v4 := U.out 4 _ rfl; replace O := Lib.hid (O.out.ext hE9); (try clear o0 o1 o2); have o0 := O.out 0 _ rfl; have o1 := O.out 1 _ rfl; have o2 := O.out 2 _ rfl; (try dsimp only at o0 o1 o2); replace Y := Lib.hid (Y.out.ext hE9); (try clear y0 y1 y2); have y0 := Y.out 0 _ rfl; have y1 := Y.out 1 _ rfl; have y2 := Y.out 2 _ rfl; (try dsimp only at y0 y1 y2); clear hE9) | (go_at_call 58; refine (R58.out _ B.out).mono ?_; rintro e w9 ⟨rfl, hE9⟩; replace B := Lib.hid (B.out.next hE9); (try clear c0 c1 c2 c3 c4 c5 c6 c7 c8 c9 c10 c11 c12); have c0 := B.out.box 0 _ rfl; have c1 := B.out.box 1 _ rfl; have c2 := B.out.box 2 _ rfl; have c3 := B.out.box 3 _ rfl; have c4 := B.out.box 4 _ rfl; have c5 := B.out.box 5 _ rfl; have c6 := B.out.box 6 _ rfl; have c7 := B.out.box 7 _ rfl; have c8 := B.out.box 8 _ rfl; have c9 := B.out.box 9 _ rfl; have c10 := B.out.box 10 _ rfl; have c11 := B.out.box 11 _ rfl; have c12 := B.out.box 12 _ rfl; replace U := Lib.hid (U.out.ext hE9); (try clear v0 v1 v2 v3 v4); have v0 : World.cell? w9 ⟨(w.heap.size + 1), 0, none⟩ = some (.slice ob (ofTr T).tins.length cb) := U.out 0 _ rfl; have v1 := U.out 1 _ rfl; have v2 := U.out 2 _ rfl; have v3 := U.out 3 _ rfl; have v4 := U.out 4 _ rfl; replace O := Lib.hid (O.out.ext hE9); (try clear o0 o1 o2); have o0 := O.out 0 _ rfl; have o1 := O.out 1 _ rfl; have o2 := O.out 2 _ rfl; (try dsimp only at o0 o1 o2); replace Y := Lib.hid (Y.out.ext hE9); (try clear y0 y1 y2); have y0 := Y.out 0 _ rfl; have y1 := Y.out 1 _ rfl; have y2 := Y.out 2 _ rfl; (try dsimp only at y0 y1 y2); clear hE9))
 obtain ⟨wv, rfl⟩ : ∃ W : World, W = w9 := ⟨_, rfl⟩
 clear c0 c1 c2 c3 c4 c5 c6 c7 c8 c9 c10 c11 c12 v0 v1 v2 v3 v4
 have IO := Lib.hid (IntsAt.three o0 o1 o2)
 have IY := Lib.hid (IntsAt.three y0 y1 y2)
 refine wp_region_plan (.take 0 <| .only 1 <| .take 2 <| .take 3 <| .take 4 <| .take 5 <| .take 6 <| .take 7 <| .take 8 <| .take 9 <| .take 10 <| .take 11 <| .take 12 <| .take 13 <| .take 14 <| .only 15 <| .take 16 <| .take 17 <| .done) (fun W => Ext wv W) mixed (by kernel_rfl) (by kernel_rfl) rfl (fun _ _ d _ _ h => by cases d <;> exact h) ((Ext.refl wv).drew) ?_
 repeat ((first | (refine plan_take (v := ?_) rfl rfl (fun W hW => ?_) ?_; rotate_left; (focus (have d0 := cell_ext hW y0; have d1 := cell_ext hW y1; have d2 := cell_ext hW y2; go_simp; first | exact rfl | (split <;> first | exact rfl | (exfalso; omega)) | done))) | refine plan_skip rfl rfl ?_); simp only [puts])
 refine plan_walk rfl ?_; intro K hK
 go_wp2_with (first | (go_at_call 57; refine (R57n.out _).mono ?_; rintro e w5 ⟨rfl, hE5⟩))
 have X := Lib.hid ((Ext.refl wv).drew.trans hE5)
 refine hK _ _ X.out ?_
 clear hE5 hK
 repeat ((first | (refine plan_take (v := ?_) rfl rfl (fun W hW => ?_) ?_; rotate_left; (focus (skip; go_simp; first | exact rfl | (split <;> first | exact rfl | (exfalso; omega)) | done))) | refine plan_skip rfl rfl ?_); simp only [puts])
 refine plan_walk rfl ?_; intro K hK
 go_wp2_with (first | (go_at_call 54; refine (R54.out _ _ _ (IO.out.ext X.out) (IY.out.ext X.out)).mono ?_; rintro e w6 ⟨rfl, hE6⟩))
 replace X := Lib.hid (X.out.trans hE6)
 refine hK _ _ X.out ?_
 clear hE6 hK
 repeat ((first | (refine plan_take (v := ?_) rfl rfl (fun W hW => ?_) ?_; rotate_left; (focus (skip; go_simp; first | exact rfl | (split <;> first | exact rfl | (exfalso; omega)) | done))) | refine plan_skip rfl rfl ?_); simp only [puts])
 refine plan_done ?_
 clear y0 y1 y2 o0 o1 o2
 have HB1 := Lib.hid (B.out.next X.out)
 have HU1 := Lib.hid (U.out.ext X.out)
 have HY1 := Lib.hid (Y.out.ext X.out)
 clear B U O Y X
 go_wp2
 obtain ⟨w1, hw1⟩ : ∃ W, W = w6 := ⟨_, rfl⟩
 rw [← hw1] at HB1 HU1 HY1 ⊢
 clear hw1
 go_loopg [16, 17, 18] 3 (fun g u v i wr => ∃ j : Nat, j + g = 3 ∧ i = .int .i64 j ∧ Ext w1 wr ∧ u = .int .i64 (triTo (boardF s T D) j) ∧ v = .int .i64 (triTo (offF s D) j))
 case atStart => exact ⟨0, by omega, rfl, Ext.refl _, rfl, rfl⟩
 case round =>
  obtain ⟨j, hj, rfl, hE, rfl, rfl⟩ := hrel
  have HE := Lib.hid hE
  clear hE
  by_cases hlt : j < 3
  ·have hjI : (j : Int) < 3 := by omega
   have B := Lib.hid (HB1.out.next HE.out)
   have U := Lib.hid (HU1.out.ext HE.out)
   have Y := Lib.hid (HY1.out.ext HE.out)
   have c0 := B.out.box 0 _ rfl; have c1 := B.out.box 1 _ rfl; have c2 := B.out.box 2 _ rfl; have c3 := B.out.box 3 _ rfl; have c4 := B.out.box 4 _ rfl; have c5 := B.out.box 5 _ rfl; have c6 := B.out.box 6 _ rfl; have c7 := B.out.box 7 _ rfl; have c8 := B.out.box 8 _ rfl; have c9 := B.out.box 9 _ rfl; have c10 := B.out.box 10 _ rfl; have c11 := B.out.box 11 _ rfl; have c12 := B.out.box 12 _ rfl
   have v1 : wr.cell? ⟨w.heap.size + 1, 1, none⟩ = some (.int .i64 (T.years : Nat)) := U.out 1 _ rfl
   have vf := U.out.fade hlt
   rw [Uc.out j hlt] at vf
   have y := Y.out j (.int .i64 (D j)) (by
    obtain ⟨h0, h1, h2⟩ := HD3.out
    match j, hlt with
    | 0, _ => rw [h0]; rfl
    | 1, _ => rw [h1]; rfl
    | 2, _ => rw [h2]; rfl)
   have r35 := Lib.hid (R35.out j hlt)
   have hdj := Hd.out j hlt
   have hlj := Hleft.out j hlt
   have hs1 := Hs1.out j (by omega)
   have hs2 := Hs2.out j (by omega)
   have hbj := Hbo.out j hlt
   have hok := hof.out j hlt
   have U1 := Lib.hid (Hu1.out j)
   have U2 := Lib.hid (Hu2.out j)
   simp only [boardF, leftT, offF] at U1 U2 hok hbj
   generalize triTo (boardF s T D) j = S1 at *
   generalize triTo (offF s D) j = S2 at *
   generalize left (s.old j) T.years (T.fade j) = A at *
   generalize D j = d at *
   obtain ⟨X, hX⟩ : ∃ X, d * (A : Int) = X := ⟨_, rfl⟩
   rw [hX] at U1 hbj
   obtain ⟨Z, hZ⟩ : ∃ Z, max d (-d) = Z := ⟨_, rfl⟩
   rw [hZ] at U2 hok
   have q0 : IntKind.i64.wrap (-d) = -d := by rw [IntWalk.i64_in _ (by omega)]
   have q1 : IntKind.i64.wrap X = X := by rw [IntWalk.i64_in _ (by omega)]
   have hmz : (if d < -d then -d else d) = Z := by rw [← hZ]; split <;> omega
   obtain ⟨OO, hO⟩ : ∃ O, (s.off : Int) * Z = O := ⟨_, rfl⟩
   rw [hO] at U2 hok
   have q3 : IntKind.i64.wrap (S1 + X) = S1 + X := by rw [IntWalk.i64_in _ (by omega)]
   have q4 : IntKind.i64.wrap OO = OO := by rw [IntWalk.i64_in _ (by omega)]
   have q5 : IntKind.i64.wrap (S2 + OO) = S2 + OO := by rw [IntWalk.i64_in _ (by omega)]
   clear hdj hlj hs1 hs2 hbj hok
   go_wp2_with fail
   refine wp_region_plan (.take 0 <| .take 1 <| .take 2 <| .take 3 <| .take 4 <| .take 5 <| .take 6 <| .take 7 <| .take 8 <| .take 9 <| .take 10 <| .take 11 <| .only 12 <| .take 13 <| .take 14 <| .take 15 <| .done) (fun W => Ext wr W) mixed (by kernel_rfl) (by kernel_rfl) rfl (fun _ _ d _ _ h => by cases d <;> exact h) ((Ext.refl wr).drew) ?_
   repeat ((first | (refine plan_take (v := ?_) rfl rfl (fun W hW => ?_) ?_; rotate_left; (focus (have d0 := cell_ext hW c0; have d1 := cell_ext hW c1; have d2 := cell_ext hW c2; have d3 := cell_ext hW c3; have d4 := cell_ext hW c4; have d5 := cell_ext hW c5; have d6 := cell_ext hW c6; have d7 := cell_ext hW c7; have d8 := cell_ext hW c8; have d9 := cell_ext hW c9; have d10 := cell_ext hW c10; have d11 := cell_ext hW c11; have d12 := cell_ext hW c12; have u1 := cell_ext hW v1; have uf := cell_ext hW vf; have ux := cell_ext hW y; go_simp; first | exact rfl | (split <;> first | exact rfl | (exfalso; omega)) | done))) | refine plan_skip rfl rfl ?_); simp only [puts])
   refine plan_walk rfl ?_; intro K hK
   go_wp2_with (first | (go_at_call 35; refine (r35.out _).mono ?_; rintro e w5 ⟨rfl, hE5⟩))
   have X := Lib.hid ((Ext.refl wr).drew.trans hE5)
   refine hK _ _ X.out ?_
   clear hE5 hK
   repeat ((first | (refine plan_take (v := ?_) rfl rfl (fun W hW => ?_) ?_; rotate_left; (focus (skip; go_simp; first | exact rfl | (split <;> first | exact rfl | (exfalso; omega)) | done))) | refine plan_skip rfl rfl ?_); simp only [puts])
   refine plan_done ?_
   have y' := cell_ext X.out y
   have c11' : w5.cell? ⟨w.heap.size, 11, none⟩ = some (.int .i64 (s.off : Int)) := cell_ext X.out c11
   clear c0 c1 c2 c3 c4 c5 c6 c7 c8 c9 c10 c11 c12 v1 vf y
   go_wp2_with fail
   refine wp_region_plan (.take 0 <| .take 1 <| .take 2 <| .take 3 <| .take 4 <| .take 5 <| .take 6 <| .take 7 <| .take 8 <| .take 9 <| .take 10 <| .take 11 <| .take 12 <| .take 13 <| .done) (fun W => Ext w5 W) mixed (by kernel_rfl) (by kernel_rfl) rfl (fun _ _ d _ _ h => by cases d <;> exact h) ((Ext.refl w5).drew) ?_
   repeat ((first | (refine plan_take (v := ?_) rfl rfl (fun W hW => ?_) ?_; rotate_left; (focus (have d0 := cell_ext hW y'; have d1 := cell_ext hW c11'; go_simp; first | exact rfl | (split <;> first | exact rfl | (exfalso; omega)) | done))) | refine plan_skip rfl rfl ?_); simp only [puts])
   refine plan_done ?_
   clear y' c11'
   go_wp2
   go_roundg (gk - 1)
   case measure => omega
   case rel => exact ⟨j + 1, by omega, by go_num, HE.out.trans (X.out.trans (Ext.refl w5).drew), by rw [U1.out], by rw [U2.out]⟩
  ·obtain rfl : j = 3 := by omega
   have hb3 := Hs1.out 3 (by omega)
   have ho3 := Hs2.out 3 (by omega)
   have HB2 := Lib.hid (HB1.out.next HE.out)
   have HU2 := Lib.hid (HU1.out.ext HE.out)
   have HY2 := Lib.hid (HY1.out.ext HE.out)
   have Hdd := Lib.hid (And.intro (Hd.out 0 (by omega)) (And.intro (Hd.out 1 (by omega)) (Hd.out 2 (by omega))))
   obtain ⟨h0, h1, h2⟩ := HD3.out
   rw [← h0, ← h1, ← h2] at Hgap Hdd
   clear HB1 HU1 HY1 Hs1 Hs2 Hu1 Hu2 Hbo hof HE R35 Hleft Uc Hd h0 h1 h2
   generalize triTo (boardF s T D) 3 = BO at *
   generalize triTo (offF s D) 3 = OF at *
   obtain ⟨wo, rfl⟩ : ∃ wo : World, wo = wr := ⟨_, rfl⟩
   have hbo := Lib.hid (And.intro hb3 ho3)
   clear hb3 ho3 hj
   go_wp2
   go_loopg [19] T.tins.length (fun g i wr => ∃ j : Nat, j + g = T.tins.length ∧ i = .int .i64 j ∧ Ext wo wr)
   case atStart => exact ⟨0, by omega, rfl, Ext.refl _⟩
   case round =>
    obtain ⟨j, hj, rfl, hE⟩ := hrel
    have HE := Lib.hid hE
    clear hE
    have U := Lib.hid (HU2.out.ext HE.out)
    have v0 : wr.cell? ⟨w.heap.size + 1, 0, none⟩ = some (.slice ob T.tins.length cb) := by rw [← Htn.out]; exact U.out 0 _ rfl
    by_cases hlt : j < T.tins.length
    ·have hjI : (j : Int) < (T.tins.length : Int) := by omega
     have y0 := (HY2.out.ext HE.out) 0 _ rfl
     have y1 := (HY2.out.ext HE.out) 1 _ rfl
     have y2 := (HY2.out.ext HE.out) 2 _ rfl
     obtain ⟨b, off', x0, x1, x2, hob, hb, hxx, k0, k1, k2⟩ := (Ht.out.ext (HB2.out.ext.trans HE.out)).at (k := j) (by rw [Htn.out]; exact hlt)
     subst hob
     have e0 : x0 = (((T.tins.getD j []).getD 0 0 : Nat) : Int) := (hxx 0 (by omega)).symm.trans (Hx.out j 0)
     have e1 : x1 = (((T.tins.getD j []).getD 1 0 : Nat) : Int) := (hxx 1 (by omega)).symm.trans (Hx.out j 1)
     have e2 : x2 = (((T.tins.getD j []).getD 2 0 : Nat) : Int) := (hxx 2 (by omega)).symm.trans (Hx.out j 2)
     have hgap := Hgap.out j hlt
     have l0 := H99.out j hlt 0 (by omega)
     have l1 := H99.out j hlt 1 (by omega)
     have l2 := H99.out j hlt 2 (by omega)
     rw [← e0, ← e1, ← e2] at hgap
     obtain ⟨g0, g1, g2⟩ := Hdd.out
     have m0 : -198 ≤ n0 * x0 ∧ n0 * x0 ≤ 198 := by rw [e0]; exact mul_in g0 l0
     have m1 : -198 ≤ n1 * x1 ∧ n1 * x1 ≤ 198 := by rw [e1]; exact mul_in g1 l1
     have m2 : -198 ≤ n2 * x2 ∧ n2 * x2 ≤ 198 := by rw [e2]; exact mul_in g2 l2
     obtain ⟨b1, b2⟩ := hbo.out
     clear e0 e1 e2 hxx l0 l1 l2 g0 g1 g2
     obtain ⟨X0, hX0⟩ : ∃ X, n0 * x0 = X := ⟨_, rfl⟩
     obtain ⟨X1, hX1⟩ : ∃ X, n1 * x1 = X := ⟨_, rfl⟩
     obtain ⟨X2, hX2⟩ : ∃ X, n2 * x2 = X := ⟨_, rfl⟩
     rw [hX0, hX1, hX2] at hgap
     rw [hX0] at m0
     rw [hX1] at m1
     rw [hX2] at m2
     have w0' : IntKind.i64.wrap X0 = X0 := by rw [IntWalk.i64_in _ (by omega)]
     have w1' : IntKind.i64.wrap X1 = X1 := by rw [IntWalk.i64_in _ (by omega)]
     have w2' : IntKind.i64.wrap X2 = X2 := by rw [IntWalk.i64_in _ (by omega)]
     have w3' : IntKind.i64.wrap (X0 + X1) = X0 + X1 := by rw [IntWalk.i64_in _ (by omega)]
     have w4' : IntKind.i64.wrap (X0 + X1 + X2) = X0 + X1 + X2 := by rw [IntWalk.i64_in _ (by omega)]
     have w5' : IntKind.i64.wrap (X0 + X1 + X2 + OF) = X0 + X1 + X2 + OF := by rw [IntWalk.i64_in _ (by omega)]
     have hnI : ¬ BO ≤ X0 + X1 + X2 + OF := by omega
     clear m0 m1 m2 b1 b2 hgap
     go_wp2_with fail
     refine wp_region_plan (.take 0 <| .take 1 <| .take 2 <| .take 3 <| .take 4 <| .take 5 <| .take 6 <| .take 7 <| .take 8 <| .take 9 <| .take 10 <| .take 11 <| .take 12 <| .take 13 <| .take 14 <| .take 15 <| .take 16 <| .take 17 <| .take 18 <| .take 19 <| .take 20 <| .take 21 <| .take 22 <| .take 23 <| .take 24 <| .take 25 <| .take 26 <| .take 27 <| .take 28 <| .take 29 <| .take 30 <| .take 31 <| .take 32 <| .done) (fun W => Ext wr W) mixed (by kernel_rfl) (by kernel_rfl) rfl (fun _ _ d _ _ h => by cases d <;> exact h) ((Ext.refl wr).drew) ?_
     repeat ((first | (refine plan_take (v := ?_) rfl rfl (fun W hW => ?_) ?_; rotate_left; (focus (have d0 := cell_ext hW y0; have d1 := cell_ext hW y1; have d2 := cell_ext hW y2; have d3 := cell_ext hW v0; have f0 := cell_ext hW k0; have f1 := cell_ext hW k1; have f2 := cell_ext hW k2; go_simp; first | exact rfl | (split <;> first | exact rfl | (exfalso; omega)) | done))) | refine plan_skip rfl rfl ?_); simp only [puts])
     refine plan_done ?_
     clear y0 y1 y2 v0 k0 k1 k2
     go_wp2
     go_roundg (gk - 1)
     case measure => omega
     case rel => exact ⟨j + 1, by omega, by go_num, HE.out.trans (Ext.refl wr).drew⟩
    ·obtain rfl : j = T.tins.length := by omega
     have B := Lib.hid (HB2.out.next HE.out)
     clear HB2 HU2 HY2
     go_wp2_with (first | (go_at_call 22; refine (Rk.out _ B.out).mono ?_; rintro e w9 ⟨rfl, hE9⟩; replace B := Lib.hid (B.out.next hE9); (try clear c0 c1 c2 c3 c4 c5 c6 c7 c8 c9 c10 c11 c12); have c0 := B.out.box 0 _ rfl; have c1 := B.out.box 1 _ rfl; have c2 := B.out.box 2 _ rfl; have c3 := B.out.box 3 _ rfl; have c4 := B.out.box 4 _ rfl; have c5 := B.out.box 5 _ rfl; have c6 := B.out.box 6 _ rfl; have c7 := B.out.box 7 _ rfl; have c8 := B.out.box 8 _ rfl; have c9 := B.out.box 9 _ rfl; have c10 := B.out.box 10 _ rfl; have c11 := B.out.box 11 _ rfl; have c12 := B.out.box 12 _ rfl; clear hE9))
     go_ret
     exact ⟨rfl, B.out.ext⟩

theorem law14 {S : SI} {l : List Int} {t : TI} {e0 e1 e2 : Int} {ot ol ob : Option Addr} {cap cl cb : Nat} {w : World} (h : SArg w S ot cap) (hl : LArg w l ol cl) (ht : UArg w t ob cb) (q : Int) (hq : w.cell? ⟨1, 0, none⟩ = some (.int .i64 q)) :
  Calls Tryz.prog 14 #[sheetV S ot cap, .slice ol l.length cl, truthV t ob cb, .agg #[.int .i64 e0, .int .i64 e1, .int .i64 e2]] w fun e w' => e = .returned (.bool true) ∧ Ext w w' := by
 have R32 := Lib.hid (fun W (hW : LB S ot cap w W) => right_any S ot cap l ol cl W hW.tins h.small (hl.ints.ext hW.ext) hl.small)
 have Rk := Lib.hid (fun (W : World) (hW : LB S ot cap w W) => known_any W q (cell_ext hW.ext hq))
 have B := Lib.hid (((LB.start (cap := cap) h.tins).alloc (.cells (truthC t ob cb) 32)).alloc (.cells #[.int .i64 e0, .int .i64 e1, .int .i64 e2] 22))
 have U := Lib.hid (show TruthBox (((w.alloc (.cells (sheetC S ot cap) 28)).alloc (.cells (truthC t ob cb) 32)).alloc (.cells #[.int .i64 e0, .int .i64 e1, .int .i64 e2] 22)) (w.heap.size + 1) t ob cb by
  have := (TruthBox.new (w.alloc (.cells (sheetC S ot cap) 28)) t ob cb).ext ((Ext.refl _).alloc (.cells #[.int .i64 e0, .int .i64 e1, .int .i64 e2] 22))
  simpa only [World.size_alloc] using this)
 have O := Lib.hid (show VB (((w.alloc (.cells (sheetC S ot cap) 28)).alloc (.cells (truthC t ob cb) 32)).alloc (.cells #[.int .i64 e0, .int .i64 e1, .int .i64 e2] 22)) (w.heap.size + 2) [.int .i64 e0, .int .i64 e1, .int .i64 e2] by
  have := VB.new ((w.alloc (.cells (sheetC S ot cap) 28)).alloc (.cells (truthC t ob cb) 32)) [.int .i64 e0, .int .i64 e1, .int .i64 e2] 22
  simpa only [World.size_alloc] using this)
 cases hr : rightB S l
 ·rw [hr] at R32
  clear h hl ht hq hr
  go_enter Tryz.func14, Tryz.ntmps14
  go_wp2_with (first | (go_at_call 32; refine (R32.out _ B.out).mono ?_; rintro e w9 ⟨rfl, hE9⟩; replace B := Lib.hid (B.out.next hE9); (try clear c0 c1 c2 c3 c4 c5 c6 c7 c8 c9 c10 c11 c12); have c0 := B.out.box 0 _ rfl; have c1 := B.out.box 1 _ rfl; have c2 := B.out.box 2 _ rfl; have c3 := B.out.box 3 _ rfl; have c4 := B.out.box 4 _ rfl; have c5 := B.out.box 5 _ rfl; have c6 := B.out.box 6 _ rfl; have c7 := B.out.box 7 _ rfl; have c8 := B.out.box 8 _ rfl; have c9 := B.out.box 9 _ rfl; have c10 := B.out.box 10 _ rfl; have c11 := B.out.box 11 _ rfl; have c12 := B.out.box 12 _ rfl; clear hE9) | (go_at_call 22; refine (Rk.out _ B.out).mono ?_; rintro e w9 ⟨rfl, hE9⟩; replace B := Lib.hid (B.out.next hE9); (try clear c0 c1 c2 c3 c4 c5 c6 c7 c8 c9 c10 c11 c12); have c0 := B.out.box 0 _ rfl; have c1 := B.out.box 1 _ rfl; have c2 := B.out.box 2 _ rfl; have c3 := B.out.box 3 _ rfl; have c4 := B.out.box 4 _ rfl; have c5 := B.out.box 5 _ rfl; have c6 := B.out.box 6 _ rfl; have c7 := B.out.box 7 _ rfl; have c8 := B.out.box 8 _ rfl; have c9 := B.out.box 9 _ rfl; have c10 := B.out.box 10 _ rfl; have c11 := B.out.box 11 _ rfl; have c12 := B.out.box 12 _ rfl; clear hE9))
  go_ret
  exact ⟨rfl, B.out.ext⟩
 ·by_cases ht6 : t.tins.length ≤ 6
  ·have ht6I : ¬ (6 : Int) < (t.tins.length : Int) := by omega
   obtain ⟨s, m, rfl, g, rfl, hm⟩ := right_lift h hr
   have R26 := Lib.hid (fun W (hW : LB (ofSh s) ot cap w W) => rTruth_any s g ot cap t ob cb W hW.tins (ht.tris.ext hW.ext) ht.small)
   cases hu : truthB s t
   ·rw [hr, upL_length] at R32
    rw [hu] at R26
    rw [upL_length]
    clear h hl ht hq hr hu ht6 g hm
    go_enter Tryz.func14, Tryz.ntmps14
    go_wp2_with (first | (go_at_call 32; refine (R32.out _ B.out).mono ?_; rintro e w9 ⟨rfl, hE9⟩; replace B := Lib.hid (B.out.next hE9); (try clear c0 c1 c2 c3 c4 c5 c6 c7 c8 c9 c10 c11 c12); have c0 := B.out.box 0 _ rfl; have c1 := B.out.box 1 _ rfl; have c2 := B.out.box 2 _ rfl; have c3 := B.out.box 3 _ rfl; have c4 := B.out.box 4 _ rfl; have c5 := B.out.box 5 _ rfl; have c6 := B.out.box 6 _ rfl; have c7 := B.out.box 7 _ rfl; have c8 := B.out.box 8 _ rfl; have c9 := B.out.box 9 _ rfl; have c10 := B.out.box 10 _ rfl; have c11 := B.out.box 11 _ rfl; have c12 := B.out.box 12 _ rfl; replace U := Lib.hid (U.out.ext hE9); (try clear v0 v1 v2 v3 v4); have v0 : World.cell? w9 ⟨(w.heap.size + 1), 0, none⟩ = some (.slice ob t.tins.length cb) := U.out 0 _ rfl; have v1 := U.out 1 _ rfl; have v2 := U.out 2 _ rfl; have v3 := U.out 3 _ rfl; have v4 := U.out 4 _ rfl; replace O := Lib.hid (O.out.ext hE9); (try clear o0 o1 o2); have o0 := O.out 0 _ rfl; have o1 := O.out 1 _ rfl; have o2 := O.out 2 _ rfl; (try dsimp only at o0 o1 o2); clear hE9) | (go_at_call 26; refine (R26.out _ B.out).mono ?_; rintro e w9 ⟨rfl, hE9⟩; replace B := Lib.hid (B.out.next hE9); (try clear c0 c1 c2 c3 c4 c5 c6 c7 c8 c9 c10 c11 c12); have c0 := B.out.box 0 _ rfl; have c1 := B.out.box 1 _ rfl; have c2 := B.out.box 2 _ rfl; have c3 := B.out.box 3 _ rfl; have c4 := B.out.box 4 _ rfl; have c5 := B.out.box 5 _ rfl; have c6 := B.out.box 6 _ rfl; have c7 := B.out.box 7 _ rfl; have c8 := B.out.box 8 _ rfl; have c9 := B.out.box 9 _ rfl; have c10 := B.out.box 10 _ rfl; have c11 := B.out.box 11 _ rfl; have c12 := B.out.box 12 _ rfl; replace U := Lib.hid (U.out.ext hE9); (try clear v0 v1 v2 v3 v4); have v0 : World.cell? w9 ⟨(w.heap.size + 1), 0, none⟩ = some (.slice ob t.tins.length cb) := U.out 0 _ rfl; have v1 := U.out 1 _ rfl; have v2 := U.out 2 _ rfl; have v3 := U.out 3 _ rfl; have v4 := U.out 4 _ rfl; replace O := Lib.hid (O.out.ext hE9); (try clear o0 o1 o2); have o0 := O.out 0 _ rfl; have o1 := O.out 1 _ rfl; have o2 := O.out 2 _ rfl; (try dsimp only at o0 o1 o2); clear hE9) | (go_at_call 22; refine (Rk.out _ B.out).mono ?_; rintro e w9 ⟨rfl, hE9⟩; replace B := Lib.hid (B.out.next hE9); (try clear c0 c1 c2 c3 c4 c5 c6 c7 c8 c9 c10 c11 c12); have c0 := B.out.box 0 _ rfl; have c1 := B.out.box 1 _ rfl; have c2 := B.out.box 2 _ rfl; have c3 := B.out.box 3 _ rfl; have c4 := B.out.box 4 _ rfl; have c5 := B.out.box 5 _ rfl; have c6 := B.out.box 6 _ rfl; have c7 := B.out.box 7 _ rfl; have c8 := B.out.box 8 _ rfl; have c9 := B.out.box 9 _ rfl; have c10 := B.out.box 10 _ rfl; have c11 := B.out.box 11 _ rfl; have c12 := B.out.box 12 _ rfl; clear hE9))
    go_ret
    exact ⟨rfl, B.out.ext⟩
   ·obtain ⟨T, rfl, hT⟩ := truth_lift (tris_three ht.tris) hu
    have key : (∀ W, Calls Tryz.prog 57 #[.agg #[.int .i64 e0, .int .i64 e1, .int .i64 e2]] W fun e w' => e = .returned (.bool false) ∧ Ext W w') → Calls Tryz.prog 14 #[sheetV (ofSh s) ot cap, .slice ol (upL m).length cl, truthV (ofTr T) ob cb, .agg #[.int .i64 e0, .int .i64 e1, .int .i64 e2]] w fun e w' => e = .returned (.bool true) ∧ Ext w w' := fun H57 => by
     have R57 := Lib.hid H57
     rw [hr, upL_length] at R32
     rw [hu] at R26
     rw [upL_length]
     clear h hl ht hq hr hu ht6 g hm hT H57
     go_enter Tryz.func14, Tryz.ntmps14
     go_wp2_with (first | (go_at_call 32; refine (R32.out _ B.out).mono ?_; rintro e w9 ⟨rfl, hE9⟩; replace B := Lib.hid (B.out.next hE9); (try clear c0 c1 c2 c3 c4 c5 c6 c7 c8 c9 c10 c11 c12); have c0 := B.out.box 0 _ rfl; have c1 := B.out.box 1 _ rfl; have c2 := B.out.box 2 _ rfl; have c3 := B.out.box 3 _ rfl; have c4 := B.out.box 4 _ rfl; have c5 := B.out.box 5 _ rfl; have c6 := B.out.box 6 _ rfl; have c7 := B.out.box 7 _ rfl; have c8 := B.out.box 8 _ rfl; have c9 := B.out.box 9 _ rfl; have c10 := B.out.box 10 _ rfl; have c11 := B.out.box 11 _ rfl; have c12 := B.out.box 12 _ rfl; replace U := Lib.hid (U.out.ext hE9); (try clear v0 v1 v2 v3 v4); have v0 : World.cell? w9 ⟨(w.heap.size + 1), 0, none⟩ = some (.slice ob (ofTr T).tins.length cb) := U.out 0 _ rfl; have v1 := U.out 1 _ rfl; have v2 := U.out 2 _ rfl; have v3 := U.out 3 _ rfl; have v4 := U.out 4 _ rfl; replace O := Lib.hid (O.out.ext hE9); (try clear o0 o1 o2); have o0 := O.out 0 _ rfl; have o1 := O.out 1 _ rfl; have o2 := O.out 2 _ rfl; (try dsimp only at o0 o1 o2); clear hE9) | (go_at_call 26; refine (R26.out _ B.out).mono ?_; rintro e w9 ⟨rfl, hE9⟩; replace B := Lib.hid (B.out.next hE9); (try clear c0 c1 c2 c3 c4 c5 c6 c7 c8 c9 c10 c11 c12); have c0 := B.out.box 0 _ rfl; have c1 := B.out.box 1 _ rfl; have c2 := B.out.box 2 _ rfl; have c3 := B.out.box 3 _ rfl; have c4 := B.out.box 4 _ rfl; have c5 := B.out.box 5 _ rfl; have c6 := B.out.box 6 _ rfl; have c7 := B.out.box 7 _ rfl; have c8 := B.out.box 8 _ rfl; have c9 := B.out.box 9 _ rfl; have c10 := B.out.box 10 _ rfl; have c11 := B.out.box 11 _ rfl; have c12 := B.out.box 12 _ rfl; replace U := Lib.hid (U.out.ext hE9); (try clear v0 v1 v2 v3 v4); have v0 : World.cell? w9 ⟨(w.heap.size + 1), 0, none⟩ = some (.slice ob (ofTr T).tins.length cb) := U.out 0 _ rfl; have v1 := U.out 1 _ rfl; have v2 := U.out 2 _ rfl; have v3 := U.out 3 _ rfl; have v4 := U.out 4 _ rfl; replace O := Lib.hid (O.out.ext hE9); (try clear o0 o1 o2); have o0 := O.out 0 _ rfl; have o1 := O.out 1 _ rfl; have o2 := O.out 2 _ rfl; (try dsimp only at o0 o1 o2); clear hE9) | (go_at_call 57; refine (R57.out _).mono ?_; rintro e w9 ⟨rfl, hE9⟩; replace B := Lib.hid (B.out.next hE9); (try clear c0 c1 c2 c3 c4 c5 c6 c7 c8 c9 c10 c11 c12); have c0 := B.out.box 0 _ rfl; have c1 := B.out.box 1 _ rfl; have c2 := B.out.box 2 _ rfl; have c3 := B.out.box 3 _ rfl; have c4 := B.out.box 4 _ rfl; have c5 := B.out.box 5 _ rfl; have c6 := B.out.box 6 _ rfl; have c7 := B.out.box 7 _ rfl; have c8 := B.out.box 8 _ rfl; have c9 := B.out.box 9 _ rfl; have c10 := B.out.box 10 _ rfl; have c11 := B.out.box 11 _ rfl; have c12 := B.out.box 12 _ rfl; clear hE9) | (go_at_call 22; refine (Rk.out _ B.out).mono ?_; rintro e w9 ⟨rfl, hE9⟩; replace B := Lib.hid (B.out.next hE9); (try clear c0 c1 c2 c3 c4 c5 c6 c7 c8 c9 c10 c11 c12); have c0 := B.out.box 0 _ rfl; have c1 := B.out.box 1 _ rfl; have c2 := B.out.box 2 _ rfl; have c3 := B.out.box 3 _ rfl; have c4 := B.out.box 4 _ rfl; have c5 := B.out.box 5 _ rfl; have c6 := B.out.box 6 _ rfl; have c7 := B.out.box 7 _ rfl; have c8 := B.out.box 8 _ rfl; have c9 := B.out.box 9 _ rfl; have c10 := B.out.box 10 _ rfl; have c11 := B.out.box 11 _ rfl; have c12 := B.out.box 12 _ rfl; clear hE9))
     go_ret
     exact ⟨rfl, B.out.ext⟩
    by_cases hd : (-2 ≤ e0 ∧ e0 ≤ 2) ∧ (-2 ≤ e1 ∧ e1 ≤ 2) ∧ (-2 ≤ e2 ∧ e2 ≤ 2)
    ·obtain ⟨k, hk, rfl, rfl, rfl⟩ := dir_of hd.1 hd.2.1 hd.2.2
     by_cases hz : sizeD (dirOf k) = 0
     ·refine key fun W => ?_
      have h1 := rSide_any (dirOf k) (dirOf_in hk) W
      rw [decide_eq_false (not_not_intro hz)] at h1
      exact h1
     ·rw [upL_length]
      have hi := hl.ints
      cases hn : proofN s with
      | none => exact law14n g hm hT hk hz hn h.tins hi ht.tris q hq
      | some n =>
       cases hp : parted s (dirOf k)
       ·exact law14sf g hm hT hk hz hn hp h.tins hi ht.tris q hq
       ·exact law14st g hm hT hk hz hn hp h.tins hi ht.tris q hq
    ·refine key fun W => ?_
     have h1 := rSide_off (fun p => match p with | 0 => e0 | 1 => e1 | _ => e2) (fun hh => hd ⟨hh 0 (by omega), hh 1 (by omega), hh 2 (by omega)⟩) W
     exact h1
  ·have ht6I : (6 : Int) < (t.tins.length : Int) := by omega
   rw [hr] at R32
   clear h hl ht hq hr ht6
   go_enter Tryz.func14, Tryz.ntmps14
   go_wp2_with (first | (go_at_call 32; refine (R32.out _ B.out).mono ?_; rintro e w9 ⟨rfl, hE9⟩; replace B := Lib.hid (B.out.next hE9); (try clear c0 c1 c2 c3 c4 c5 c6 c7 c8 c9 c10 c11 c12); have c0 := B.out.box 0 _ rfl; have c1 := B.out.box 1 _ rfl; have c2 := B.out.box 2 _ rfl; have c3 := B.out.box 3 _ rfl; have c4 := B.out.box 4 _ rfl; have c5 := B.out.box 5 _ rfl; have c6 := B.out.box 6 _ rfl; have c7 := B.out.box 7 _ rfl; have c8 := B.out.box 8 _ rfl; have c9 := B.out.box 9 _ rfl; have c10 := B.out.box 10 _ rfl; have c11 := B.out.box 11 _ rfl; have c12 := B.out.box 12 _ rfl; replace U := Lib.hid (U.out.ext hE9); (try clear v0 v1 v2 v3 v4); have v0 : World.cell? w9 ⟨(w.heap.size + 1), 0, none⟩ = some (.slice ob t.tins.length cb) := U.out 0 _ rfl; have v1 := U.out 1 _ rfl; have v2 := U.out 2 _ rfl; have v3 := U.out 3 _ rfl; have v4 := U.out 4 _ rfl; replace O := Lib.hid (O.out.ext hE9); (try clear o0 o1 o2); have o0 := O.out 0 _ rfl; have o1 := O.out 1 _ rfl; have o2 := O.out 2 _ rfl; (try dsimp only at o0 o1 o2); clear hE9) | (go_at_call 22; refine (Rk.out _ B.out).mono ?_; rintro e w9 ⟨rfl, hE9⟩; replace B := Lib.hid (B.out.next hE9); (try clear c0 c1 c2 c3 c4 c5 c6 c7 c8 c9 c10 c11 c12); have c0 := B.out.box 0 _ rfl; have c1 := B.out.box 1 _ rfl; have c2 := B.out.box 2 _ rfl; have c3 := B.out.box 3 _ rfl; have c4 := B.out.box 4 _ rfl; have c5 := B.out.box 5 _ rfl; have c6 := B.out.box 6 _ rfl; have c7 := B.out.box 7 _ rfl; have c8 := B.out.box 8 _ rfl; have c9 := B.out.box 9 _ rfl; have c10 := B.out.box 10 _ rfl; have c11 := B.out.box 11 _ rfl; have c12 := B.out.box 12 _ rfl; clear hE9))
   go_ret
   exact ⟨rfl, B.out.ext⟩

end Go.Proofs.YtjpekonfjihcoaaGreatDoor
