/- The walk of TintTrue: it answers true. No condition. -/
import Derived.Test.YtjpekonfjihcoaaGreatDoorM33
import Derived.Test.YtjpekonfjihcoaaGreatDoorLRight
import Derived.Test.YtjpekonfjihcoaaGreatDoorM19
import Derived.Test.YtjpekonfjihcoaaGreatDoorM28
import Derived.Test.YtjpekonfjihcoaaGreatDoorM5
import Derived.Test.YtjpekonfjihcoaaGreatDoorM15
import Derived.Test.YtjpekonfjihcoaaGreatDoorM27
namespace Go.TintM
end Go.TintM
set_option maxRecDepth 100000
set_option maxHeartbeats 64000000
set_option linter.unusedVariables false
set_option linter.unusedSimpArgs false
namespace Go.Proofs.YtjpekonfjihcoaaGreatDoor
open Go.RowKit Go.My Go.TintM

attribute [local go_sem] eq24
theorem years_sorted (s : Sh) (m : List Nat) : (yearsOf s m).Pairwise (· < ·) := by
 unfold yearsOf
 refine List.Pairwise.filter _ ?_
 rw [List.pairwise_map]
 exact List.pairwise_lt_range.imp fun h => by omega
theorem years_ends {s : Sh} {m : List Nat} {y : Nat} (h : y ∈ yearsOf s m) : (yearsOf s m).getD 0 0 ≤ y ∧ y ≤ (yearsOf s m).getD ((yearsOf s m).length - 1) 0 ∧ ¬ (yearsOf s m).length = 0 := by
 have hp := List.pairwise_iff_getElem.1 (years_sorted s m)
 obtain ⟨i, hi, rfl⟩ := List.getElem_of_mem h
 have e : ∀ j (hj : j < (yearsOf s m).length), (yearsOf s m).getD j 0 = (yearsOf s m)[j] := fun j hj => by simp [List.getD, hj]
 rw [e 0 (by omega), e _ (show (yearsOf s m).length - 1 < (yearsOf s m).length by omega)]
 refine ⟨?_, ?_, by omega⟩
 ·by_cases h0 : i = 0
  ·subst h0; exact Nat.le_refl _
  ·exact Nat.le_of_lt (hp 0 i (by omega) hi (by omega))
 ·by_cases h0 : i = (yearsOf s m).length - 1
  ·simp [← h0]
  ·exact Nat.le_of_lt (hp i _ hi (by omega) (by omega))
theorem surely_ends {s : Sh} (g : Fine s) {m : List Nat} (hm : IsMix s m) (h : offOf s m ≤ (s.off : Int)) : (yearsOf s m).getD 0 0 = s.ylo ∧ (yearsOf s m).getD ((yearsOf s m).length - 1) 0 = s.yhi ∧ ¬ (yearsOf s m).length = 0 := by
 have h1 := years_ends (surely_years g hm h (Nat.le_refl _) g.ylo)
 have h2 := years_ends (surely_years g hm h g.ylo (Nat.le_refl _))
 have h3 : ∀ y ∈ yearsOf s m, s.ylo ≤ y ∧ y ≤ s.yhi := fun y hy => ⟨(mem_years.1 hy).1, (mem_years.1 hy).2.1⟩
 have e : ∀ j (hj : j < (yearsOf s m).length), (yearsOf s m).getD j 0 ∈ yearsOf s m := fun j hj => by simp [List.getD, hj]
 have h4 := h3 _ (e 0 (by omega))
 have h5 := h3 _ (e ((yearsOf s m).length - 1) (by omega))
 exact ⟨by omega, by omega, h1.2.2⟩

theorem law5_1f {s : Sh} (g : Fine s) {m : List Nat} (hm : IsMix s m) {T : Tr} (hT : GoodT s T) (hq : wordOf s m = 1) (his : trueOf s m T = false) {ot ol ob : Option Addr} {cap cl cb : Nat} {w : World} (h : TinsAt w ot (ofSh s).tins) (hi : IntsAt w ol (upL m)) (ht : TrisAt w ob (ofTr T).tins) (k : Int) (hk : w.cell? ⟨1, 0, none⟩ = some (.int .i64 k)) :
  Calls Tryz.prog 5 #[sheetV (ofSh s) ot cap, .slice ol m.length cl, truthV (ofTr T) ob cb] w fun e w' => e = .returned (.bool true) ∧ Ext w w' := by
 have B := Lib.hid ((LB.start (cap := cap) h).alloc (.cells (truthC (ofTr T) ob cb) 32))
 have U := Lib.hid (show TruthBox ((w.alloc (.cells (sheetC (ofSh s) ot cap) 28)).alloc (.cells (truthC (ofTr T) ob cb) 32)) (w.heap.size + 1) (ofTr T) ob cb by
  have := TruthBox.new (w.alloc (.cells (sheetC (ofSh s) ot cap) 28)) (ofTr T) ob cb
  simpa only [World.size_alloc] using this)
 have R32 := Lib.hid (fun W (hW : LB (ofSh s) ot cap w W) => right_up g hm ot cap ol cl W hW.tins (hi.ext hW.ext))
 have R26 := Lib.hid (fun W (hW : LB (ofSh s) ot cap w W) => rTruth_any s g ot cap (ofTr T) ob cb W hW.tins (ht.ext hW.ext) (by have := hT.len; have := g.len2; simp [ofTr]; omega))
 simp only [truth_of hT] at R26
 have R33 := Lib.hid (fun W (hW : LB (ofSh s) ot cap w W) => sAim_ok s g ot cap W hW.tins)
 have R34 := Lib.hid (fun W (hW : LB (ofSh s) ot cap w W) => sSums_ok s g m hm ot cap ol cl W hW.tins (hi.ext hW.ext))
 have R28 := Lib.hid (fun W (hW : LB (ofSh s) ot cap w W) => sWord_ok s g m hm ot cap ol cl W hW.tins (hi.ext hW.ext))
 have R29 := Lib.hid (fun W (hW : LB (ofSh s) ot cap w W) => sYears_ok s g m hm ot cap ol cl W hW.tins (hi.ext hW.ext))
 have R23 := Lib.hid (fun W (hW : LB (ofSh s) ot cap w W) => sTrue_ok s g m hm T hT ot cap ol cl ob cb W hW.tins (hi.ext hW.ext) (ht.ext hW.ext))
 have R27 := Lib.hid (fun W (hW : LB (ofSh s) ot cap w W) => rTrue_any s g m hm T hT ot cap ol cl ob cb W (hi.ext hW.ext) (ht.ext hW.ext))
 have R36 := Lib.hid (fun p (hp : p < 3) W (hW : LB (ofSh s) ot cap w W) => rSum_any s g m hm T hT ol cl ob cb p hp W (hi.ext hW.ext) (ht.ext hW.ext))
 have R35 := Lib.hid (fun p (hp : p < 3) W => faded_any s g ot cap p T.years (T.fade p) hp (Nat.le_trans hT.y2 g.yhi) (Nat.le_trans (hT.f2 p hp) (g.fhi p hp)) W)
 have Rk := Lib.hid (fun (W : World) (hW : LB (ofSh s) ot cap w W) => known_any W k (cell_ext hW.ext hk))
 rw [hq] at R28
 rw [his] at R23 R27
 have Hn := Lib.hid (fun p (hp : p < 3) => (show aimLo s p ≤ left (s.old p) T.years (T.fade p) ∧ left (s.old p) T.years (T.fade p) ≤ aimHi s p from left_in hT hp))
 have Hs := Lib.hid (fun p (hp : p < 3) => low_sum hT hm.len hp)
 have htl : ¬ (6 : Int) < ((ofTr T).tins.length : Int) := by have := hT.len; have := g.len2; simp [ofTr]; omega
 have hY : (yearsOf s m).length = 0 := by rw [(Go.TintM.word_never g hm).1 hq]; rfl
 rw [yearsV_none hY] at R29
 clear hY
 clear g hm hT hq his h hi ht hk
 have Uc := Lib.hid (show ∀ p, p < 3 → (ofTr T).f p = (T.fade p : Nat) from fun p hp => ofTr_f T hp)
 go_enter Tryz.func5, Tryz.ntmps5
 go_wp2_with (first | (go_at_call 32; refine (R32.out _ B.out).mono ?_; rintro e w9 ⟨rfl, hE9⟩; replace B := Lib.hid (B.out.next hE9); (try clear c0 c1 c2 c3 c4 c5 c6 c7 c8 c9 c10 c11 c12); have c0 := B.out.box 0 _ rfl; have c1 := B.out.box 1 _ rfl; have c2 := B.out.box 2 _ rfl; have c3 := B.out.box 3 _ rfl; have c4 := B.out.box 4 _ rfl; have c5 := B.out.box 5 _ rfl; have c6 := B.out.box 6 _ rfl; have c7 := B.out.box 7 _ rfl; have c8 := B.out.box 8 _ rfl; have c9 := B.out.box 9 _ rfl; have c10 := B.out.box 10 _ rfl; have c11 := B.out.box 11 _ rfl; have c12 := B.out.box 12 _ rfl; replace U := Lib.hid (U.out.ext hE9); (try clear v0 v1 v2 v3 v4); have v0 : World.cell? w9 ⟨(w.heap.size + 1), 0, none⟩ = some (.slice ob (ofTr T).tins.length cb) := U.out 0 _ rfl; have v1 := U.out 1 _ rfl; have v2 := U.out 2 _ rfl; have v3 := U.out 3 _ rfl; have v4 := U.out 4 _ rfl; clear hE9) | (go_at_call 26; refine (R26.out _ B.out).mono ?_; rintro e w9 ⟨rfl, hE9⟩; replace B := Lib.hid (B.out.next hE9); (try clear c0 c1 c2 c3 c4 c5 c6 c7 c8 c9 c10 c11 c12); have c0 := B.out.box 0 _ rfl; have c1 := B.out.box 1 _ rfl; have c2 := B.out.box 2 _ rfl; have c3 := B.out.box 3 _ rfl; have c4 := B.out.box 4 _ rfl; have c5 := B.out.box 5 _ rfl; have c6 := B.out.box 6 _ rfl; have c7 := B.out.box 7 _ rfl; have c8 := B.out.box 8 _ rfl; have c9 := B.out.box 9 _ rfl; have c10 := B.out.box 10 _ rfl; have c11 := B.out.box 11 _ rfl; have c12 := B.out.box 12 _ rfl; replace U := Lib.hid (U.out.ext hE9); (try clear v0 v1 v2 v3 v4); have v0 : World.cell? w9 ⟨(w.heap.size + 1), 0, none⟩ = some (.slice ob (ofTr T).tins.length cb) := U.out 0 _ rfl; have v1 := U.out 1 _ rfl; have v2 := U.out 2 _ rfl; have v3 := U.out 3 _ rfl; have v4 := U.out 4 _ rfl; clear hE9) | (go_at_call 33; refine (R33.out _ B.out).mono ?_; rintro e w9 ⟨rfl, hE9⟩; replace B := Lib.hid (B.out.next hE9); (try clear c0 c1 c2 c3 c4 c5 c6 c7 c8 c9 c10 c11 c12); have c0 := B.out.box 0 _ rfl; have c1 := B.out.box 1 _ rfl; have c2 := B.out.box 2 _ rfl; have c3 := B.out.box 3 _ rfl; have c4 := B.out.box 4 _ rfl; have c5 := B.out.box 5 _ rfl; have c6 := B.out.box 6 _ rfl; have c7 := B.out.box 7 _ rfl; have c8 := B.out.box 8 _ rfl; have c9 := B.out.box 9 _ rfl; have c10 := B.out.box 10 _ rfl; have c11 := B.out.box 11 _ rfl; have c12 := B.out.box 12 _ rfl; replace U := Lib.hid (U.out.ext hE9); (try clear v0 v1 v2 v3 v4); have v0 : World.cell? w9 ⟨(w.heap.size + 1), 0, none⟩ = some (.slice ob (ofTr T).tins.length cb) := U.out 0 _ rfl; have v1 := U.out 1 _ rfl; have v2 := U.out 2 _ rfl; have v3 := U.out 3 _ rfl; have v4 := U.out 4 _ rfl; have hltA := World.block_lt_of_cell? _ _ c0; have hneA := Nat.ne_of_lt hltA; simp only at hltA hneA; replace U := Lib.hid (U.out.ext ((Ext.refl w9).alloc (.cells #[.int .i64 (aimLo s 0), .int .i64 (aimHi s 0), .int .i64 (aimLo s 1), .int .i64 (aimHi s 1), .int .i64 (aimLo s 2), .int .i64 (aimHi s 2)] 25))); replace B := Lib.hid (B.out.alloc (.cells #[.int .i64 (aimLo s 0), .int .i64 (aimHi s 0), .int .i64 (aimLo s 1), .int .i64 (aimHi s 1), .int .i64 (aimLo s 2), .int .i64 (aimHi s 2)] 25)); have Y := Lib.hid (VB.new w9 [.int .i64 (aimLo s 0), .int .i64 (aimHi s 0), .int .i64 (aimLo s 1), .int .i64 (aimHi s 1), .int .i64 (aimLo s 2), .int .i64 (aimHi s 2)] 25); clear hE9) | (go_at_call 34; refine (R34.out _ B.out).mono ?_; rintro e w9 ⟨rfl, hE9⟩; replace B := Lib.hid (B.out.next hE9); (try clear c0 c1 c2 c3 c4 c5 c6 c7 c8 c9 c10 c11 c12); have c0 := B.out.box 0 _ rfl; have c1 := B.out.box 1 _ rfl; have c2 := B.out.box 2 _ rfl; have c3 := B.out.box 3 _ rfl; have c4 := B.out.box 4 _ rfl; have c5 := B.out.box 5 _ rfl; have c6 := B.out.box 6 _ rfl; have c7 := B.out.box 7 _ rfl; have c8 := B.out.box 8 _ rfl; have c9 := B.out.box 9 _ rfl; have c10 := B.out.box 10 _ rfl; have c11 := B.out.box 11 _ rfl; have c12 := B.out.box 12 _ rfl; replace U := Lib.hid (U.out.ext hE9); (try clear v0 v1 v2 v3 v4); have v0 : World.cell? w9 ⟨(w.heap.size + 1), 0, none⟩ = some (.slice ob (ofTr T).tins.length cb) := U.out 0 _ rfl; have v1 := U.out 1 _ rfl; have v2 := U.out 2 _ rfl; have v3 := U.out 3 _ rfl; have v4 := U.out 4 _ rfl; replace Y := Lib.hid (Y.out.ext hE9); have hltA := World.block_lt_of_cell? _ _ c0; have hneA := Nat.ne_of_lt hltA; simp only at hltA hneA; replace U := Lib.hid (U.out.ext ((Ext.refl w9).alloc (.cells #[.int .i64 (lowS s m 0 : Nat), .int .i64 (highS s m 0 : Nat), .int .i64 (lowS s m 1 : Nat), .int .i64 (highS s m 1 : Nat), .int .i64 (lowS s m 2 : Nat), .int .i64 (highS s m 2 : Nat)] 25))); replace Y := Lib.hid (Y.out.ext ((Ext.refl w9).alloc (.cells #[.int .i64 (lowS s m 0 : Nat), .int .i64 (highS s m 0 : Nat), .int .i64 (lowS s m 1 : Nat), .int .i64 (highS s m 1 : Nat), .int .i64 (lowS s m 2 : Nat), .int .i64 (highS s m 2 : Nat)] 25))); replace B := Lib.hid (B.out.alloc (.cells #[.int .i64 (lowS s m 0 : Nat), .int .i64 (highS s m 0 : Nat), .int .i64 (lowS s m 1 : Nat), .int .i64 (highS s m 1 : Nat), .int .i64 (lowS s m 2 : Nat), .int .i64 (highS s m 2 : Nat)] 25)); have Z := Lib.hid (VB.new w9 [.int .i64 (lowS s m 0 : Nat), .int .i64 (highS s m 0 : Nat), .int .i64 (lowS s m 1 : Nat), .int .i64 (highS s m 1 : Nat), .int .i64 (lowS s m 2 : Nat), .int .i64 (highS s m 2 : Nat)] 25); clear hE9) | (go_at_call 28; refine (R28.out _ B.out).mono ?_; rintro e w9 ⟨rfl, hE9⟩; replace B := Lib.hid (B.out.next hE9); (try clear c0 c1 c2 c3 c4 c5 c6 c7 c8 c9 c10 c11 c12); have c0 := B.out.box 0 _ rfl; have c1 := B.out.box 1 _ rfl; have c2 := B.out.box 2 _ rfl; have c3 := B.out.box 3 _ rfl; have c4 := B.out.box 4 _ rfl; have c5 := B.out.box 5 _ rfl; have c6 := B.out.box 6 _ rfl; have c7 := B.out.box 7 _ rfl; have c8 := B.out.box 8 _ rfl; have c9 := B.out.box 9 _ rfl; have c10 := B.out.box 10 _ rfl; have c11 := B.out.box 11 _ rfl; have c12 := B.out.box 12 _ rfl; replace U := Lib.hid (U.out.ext hE9); (try clear v0 v1 v2 v3 v4); have v0 : World.cell? w9 ⟨(w.heap.size + 1), 0, none⟩ = some (.slice ob (ofTr T).tins.length cb) := U.out 0 _ rfl; have v1 := U.out 1 _ rfl; have v2 := U.out 2 _ rfl; have v3 := U.out 3 _ rfl; have v4 := U.out 4 _ rfl; replace Y := Lib.hid (Y.out.ext hE9); replace Z := Lib.hid (Z.out.ext hE9); clear hE9) | (go_at_call 29; refine (R29.out _ B.out).mono ?_; rintro e w9 ⟨rfl, hE9⟩; replace B := Lib.hid (B.out.next hE9); (try clear c0 c1 c2 c3 c4 c5 c6 c7 c8 c9 c10 c11 c12); have c0 := B.out.box 0 _ rfl; have c1 := B.out.box 1 _ rfl; have c2 := B.out.box 2 _ rfl; have c3 := B.out.box 3 _ rfl; have c4 := B.out.box 4 _ rfl; have c5 := B.out.box 5 _ rfl; have c6 := B.out.box 6 _ rfl; have c7 := B.out.box 7 _ rfl; have c8 := B.out.box 8 _ rfl; have c9 := B.out.box 9 _ rfl; have c10 := B.out.box 10 _ rfl; have c11 := B.out.box 11 _ rfl; have c12 := B.out.box 12 _ rfl; replace U := Lib.hid (U.out.ext hE9); (try clear v0 v1 v2 v3 v4); have v0 : World.cell? w9 ⟨(w.heap.size + 1), 0, none⟩ = some (.slice ob (ofTr T).tins.length cb) := U.out 0 _ rfl; have v1 := U.out 1 _ rfl; have v2 := U.out 2 _ rfl; have v3 := U.out 3 _ rfl; have v4 := U.out 4 _ rfl; replace Y := Lib.hid (Y.out.ext hE9); replace Z := Lib.hid (Z.out.ext hE9); have hltA := World.block_lt_of_cell? _ _ c0; have hneA := Nat.ne_of_lt hltA; simp only at hltA hneA; have hltU := World.block_lt_of_cell? _ _ v0; have hneU := Nat.ne_of_lt hltU; simp only at hltU hneU; replace U := Lib.hid (U.out.ext ((Ext.refl w9).alloc (.cells #[.int .i64 0, .int .i64 0] 24))); replace Y := Lib.hid (Y.out.ext ((Ext.refl w9).alloc (.cells #[.int .i64 0, .int .i64 0] 24))); replace Z := Lib.hid (Z.out.ext ((Ext.refl w9).alloc (.cells #[.int .i64 0, .int .i64 0] 24))); replace B := Lib.hid (B.out.alloc (.cells #[.int .i64 0, .int .i64 0] 24)); have V := Lib.hid (VB.new w9 [.int .i64 0, .int .i64 0] 24); clear hE9) | (go_at_call 23; refine (R23.out _ B.out).mono ?_; rintro e w9 ⟨rfl, hE9⟩; replace B := Lib.hid (B.out.next hE9); (try clear c0 c1 c2 c3 c4 c5 c6 c7 c8 c9 c10 c11 c12); have c0 := B.out.box 0 _ rfl; have c1 := B.out.box 1 _ rfl; have c2 := B.out.box 2 _ rfl; have c3 := B.out.box 3 _ rfl; have c4 := B.out.box 4 _ rfl; have c5 := B.out.box 5 _ rfl; have c6 := B.out.box 6 _ rfl; have c7 := B.out.box 7 _ rfl; have c8 := B.out.box 8 _ rfl; have c9 := B.out.box 9 _ rfl; have c10 := B.out.box 10 _ rfl; have c11 := B.out.box 11 _ rfl; have c12 := B.out.box 12 _ rfl; replace U := Lib.hid (U.out.ext hE9); (try clear v0 v1 v2 v3 v4); have v0 : World.cell? w9 ⟨(w.heap.size + 1), 0, none⟩ = some (.slice ob (ofTr T).tins.length cb) := U.out 0 _ rfl; have v1 := U.out 1 _ rfl; have v2 := U.out 2 _ rfl; have v3 := U.out 3 _ rfl; have v4 := U.out 4 _ rfl; replace Y := Lib.hid (Y.out.ext hE9); replace Z := Lib.hid (Z.out.ext hE9); replace V := Lib.hid (V.out.ext hE9); clear hE9) | (go_at_call 27; refine (R27.out _ B.out).mono ?_; rintro e w9 ⟨rfl, hE9⟩; replace B := Lib.hid (B.out.next hE9); (try clear c0 c1 c2 c3 c4 c5 c6 c7 c8 c9 c10 c11 c12); have c0 := B.out.box 0 _ rfl; have c1 := B.out.box 1 _ rfl; have c2 := B.out.box 2 _ rfl; have c3 := B.out.box 3 _ rfl; have c4 := B.out.box 4 _ rfl; have c5 := B.out.box 5 _ rfl; have c6 := B.out.box 6 _ rfl; have c7 := B.out.box 7 _ rfl; have c8 := B.out.box 8 _ rfl; have c9 := B.out.box 9 _ rfl; have c10 := B.out.box 10 _ rfl; have c11 := B.out.box 11 _ rfl; have c12 := B.out.box 12 _ rfl; replace U := Lib.hid (U.out.ext hE9); (try clear v0 v1 v2 v3 v4); have v0 : World.cell? w9 ⟨(w.heap.size + 1), 0, none⟩ = some (.slice ob (ofTr T).tins.length cb) := U.out 0 _ rfl; have v1 := U.out 1 _ rfl; have v2 := U.out 2 _ rfl; have v3 := U.out 3 _ rfl; have v4 := U.out 4 _ rfl; replace Y := Lib.hid (Y.out.ext hE9); replace Z := Lib.hid (Z.out.ext hE9); replace V := Lib.hid (V.out.ext hE9); clear hE9))
 have hB := B.out
 have hU := U.out
 have hY := Y.out
 have hZ := Z.out
 have hV := V.out
 (try clear c0 c1 c2 c3 c4 c5 c6 c7 c8 c9 c10 c11 c12 v0 v1 v2 v3 v4)
 obtain ⟨w1, hw1⟩ : ∃ W, W = w9 := ⟨_, rfl⟩
 rw [← hw1] at hB hU hY hZ hV ⊢
 have HB1 := Lib.hid hB
 have HU1 := Lib.hid hU
 have HY1 := Lib.hid hY
 have HZ1 := Lib.hid hZ
 have HV1 := Lib.hid hV
 clear hB hU hY hZ hV hw1 B U Y Z V
 go_loopg [17, 18, 19] 3 (fun g i a b wr => ∃ j : Nat, j + g = 3 ∧ i = .int .i64 j ∧ Ext w1 wr)
 case atStart => exact ⟨0, by omega, rfl, Ext.refl _⟩
 case round =>
  obtain ⟨j, hj, rfl, hE⟩ := hrel
  have B := Lib.hid (HB1.out.next hE)
  have U := Lib.hid (HU1.out.ext hE)
  have Y := Lib.hid (HY1.out.ext hE)
  have Z := Lib.hid (HZ1.out.ext hE)
  have V := Lib.hid (HV1.out.ext hE)
  have HE := Lib.hid hE
  clear hE
  have c0 := B.out.box 0 _ rfl; have c1 := B.out.box 1 _ rfl; have c2 := B.out.box 2 _ rfl; have c3 := B.out.box 3 _ rfl; have c4 := B.out.box 4 _ rfl; have c5 := B.out.box 5 _ rfl; have c6 := B.out.box 6 _ rfl; have c7 := B.out.box 7 _ rfl; have c8 := B.out.box 8 _ rfl; have c9 := B.out.box 9 _ rfl; have c10 := B.out.box 10 _ rfl; have c11 := B.out.box 11 _ rfl; have c12 := B.out.box 12 _ rfl
  have v0 : World.cell? wr ⟨(w.heap.size + 1), 0, none⟩ = some (.slice ob (ofTr T).tins.length cb) := U.out 0 _ rfl; have v1 := U.out 1 _ rfl; have v2 := U.out 2 _ rfl; have v3 := U.out 3 _ rfl; have v4 := U.out 4 _ rfl
  by_cases hlt : j < 3
  ·have hjI : (j : Int) < 3 := by omega
   have vf := U.out.fade hlt
   rw [Uc.out j hlt] at vf
   have hn := Hn.out j hlt
   have hs := Hs.out j hlt
   have y0 := Y.out (j * 2) (.int .i64 (aimLo s j)) (by match j, hlt with | 0, _ => rfl | 1, _ => rfl | 2, _ => rfl)
   have y1 := Y.out (j * 2 + 1) (.int .i64 (aimHi s j)) (by match j, hlt with | 0, _ => rfl | 1, _ => rfl | 2, _ => rfl)
   have z0 := Z.out (j * 2) (.int .i64 (lowS s m j : Nat)) (by match j, hlt with | 0, _ => rfl | 1, _ => rfl | 2, _ => rfl)
   have z1 := Z.out (j * 2 + 1) (.int .i64 (highS s m j : Nat)) (by match j, hlt with | 0, _ => rfl | 1, _ => rfl | 2, _ => rfl)
   have r35 := Lib.hid (R35.out j hlt)
   have r36 := Lib.hid (R36.out j hlt)
   generalize left (s.old j) T.years (T.fade j) = A at *
   generalize sumT m T j = M at *
   generalize aimLo s j = a1 at *
   generalize aimHi s j = a2 at *
   generalize lowS s m j = b1 at *
   generalize highS s m j = b2 at *
   have n1 : ¬ (A : Int) < (a1 : Int) := by omega
   have n2 : ¬ (a2 : Int) < (A : Int) := by omega
   have n3 : ¬ (M : Int) < (b1 : Int) := by omega
   have n4 : ¬ (b2 : Int) < (M : Int) := by omega
   replace v1 : wr.cell? ⟨w.heap.size + 1, 1, none⟩ = some (.int .i64 (T.years : Nat)) := v1
   go_wp2_with fail
   refine wp_region_plan (.take 0 <| .take 1 <| .take 2 <| .take 3 <| .take 4 <| .take 5 <| .take 6 <| .take 7 <| .take 9 <| .take 10 <| .take 11 <| .only 8 <| .only 12 <| .take 13 <| .take 14 <| .done) (fun W => Ext wr W) mixed (by kernel_rfl) (by kernel_rfl) rfl (fun _ _ d _ _ h => by cases d <;> exact h) ((Ext.refl wr).drew) ?_
   repeat ((first | (refine plan_take (v := ?_) rfl rfl (fun W hW => ?_) ?_; rotate_left; (focus (have d0 := cell_ext hW c0; have d1 := cell_ext hW c1; have d2 := cell_ext hW c2; have d3 := cell_ext hW c3; have d4 := cell_ext hW c4; have d5 := cell_ext hW c5; have d6 := cell_ext hW c6; have d7 := cell_ext hW c7; have d8 := cell_ext hW c8; have d9 := cell_ext hW c9; have d10 := cell_ext hW c10; have d11 := cell_ext hW c11; have d12 := cell_ext hW c12; have u0 := cell_ext hW v0; have u1 := cell_ext hW v1; have u2 := cell_ext hW v2; have u3 := cell_ext hW v3; have u4 := cell_ext hW v4; have u5 := cell_ext hW vf; go_simp; first | exact rfl | (split <;> first | exact rfl | (exfalso; omega)) | done))) | refine plan_skip rfl rfl ?_); simp only [puts])
   refine plan_walk rfl ?_; intro K hK
   go_wp2_with (first | (go_at_call 35; refine (r35.out _).mono ?_; rintro e w5 ⟨rfl, hE5⟩))
   have X := Lib.hid ((Ext.refl wr).drew.trans hE5)
   refine hK _ _ X.out ?_
   clear hE5 hK
   repeat ((first | (refine plan_take (v := ?_) rfl rfl (fun W hW => ?_) ?_; rotate_left; (focus (have u0 := cell_ext hW v0; have u1 := cell_ext hW v1; have u2 := cell_ext hW v2; have u3 := cell_ext hW v3; have u4 := cell_ext hW v4; go_simp; first | exact rfl | (split <;> first | exact rfl | (exfalso; omega)) | done))) | refine plan_skip rfl rfl ?_); simp only [puts])
   refine plan_walk rfl ?_; intro K hK
   go_wp2_with (first | (go_at_call 36; refine (r36.out _ (B.out.next X.out)).mono ?_; rintro e w6 ⟨rfl, hE6⟩))
   replace X := Lib.hid (X.out.trans hE6)
   refine hK _ _ X.out ?_
   clear hE6 hK
   repeat ((first | (refine plan_take (v := ?_) rfl rfl (fun W hW => ?_) ?_; rotate_left; (focus (skip; go_simp; first | exact rfl | (split <;> first | exact rfl | (exfalso; omega)) | done))) | refine plan_skip rfl rfl ?_); simp only [puts])
   refine plan_done ?_
   have e0 := cell_ext X.out y0
   have e1 := cell_ext X.out y1
   have e2 := cell_ext X.out z0
   have e3 := cell_ext X.out z1
   clear y0 y1 z0 z1 c0 c1 c2 c3 c4 c5 c6 c7 c8 c9 c10 c11 c12 v0 v1 v2 v3 v4 vf hn hs
   go_wp2
   go_roundg (gk - 1)
   case measure => omega
   case rel => exact ⟨j + 1, by omega, by go_num, HE.out.trans X.out⟩
  ·obtain rfl : j = 3 := by omega
   have y0 := V.out 0 _ rfl
   have y1 := V.out 1 _ rfl
   clear HB1 HU1 HY1 HZ1 HV1 Y Z
   go_wp2_with (first | (go_at_call 22; refine (Rk.out _ B.out).mono ?_; rintro e w9 ⟨rfl, hE9⟩; replace B := Lib.hid (B.out.next hE9); (try clear c0 c1 c2 c3 c4 c5 c6 c7 c8 c9 c10 c11 c12); have c0 := B.out.box 0 _ rfl; have c1 := B.out.box 1 _ rfl; have c2 := B.out.box 2 _ rfl; have c3 := B.out.box 3 _ rfl; have c4 := B.out.box 4 _ rfl; have c5 := B.out.box 5 _ rfl; have c6 := B.out.box 6 _ rfl; have c7 := B.out.box 7 _ rfl; have c8 := B.out.box 8 _ rfl; have c9 := B.out.box 9 _ rfl; have c10 := B.out.box 10 _ rfl; have c11 := B.out.box 11 _ rfl; have c12 := B.out.box 12 _ rfl; clear hE9))
   go_ret
   exact ⟨rfl, B.out.ext⟩

theorem law5_2f {s : Sh} (g : Fine s) {m : List Nat} (hm : IsMix s m) {T : Tr} (hT : GoodT s T) (hq : wordOf s m = 2) (his : trueOf s m T = false) {ot ol ob : Option Addr} {cap cl cb : Nat} {w : World} (h : TinsAt w ot (ofSh s).tins) (hi : IntsAt w ol (upL m)) (ht : TrisAt w ob (ofTr T).tins) (k : Int) (hk : w.cell? ⟨1, 0, none⟩ = some (.int .i64 k)) :
  Calls Tryz.prog 5 #[sheetV (ofSh s) ot cap, .slice ol m.length cl, truthV (ofTr T) ob cb] w fun e w' => e = .returned (.bool true) ∧ Ext w w' := by
 have B := Lib.hid ((LB.start (cap := cap) h).alloc (.cells (truthC (ofTr T) ob cb) 32))
 have U := Lib.hid (show TruthBox ((w.alloc (.cells (sheetC (ofSh s) ot cap) 28)).alloc (.cells (truthC (ofTr T) ob cb) 32)) (w.heap.size + 1) (ofTr T) ob cb by
  have := TruthBox.new (w.alloc (.cells (sheetC (ofSh s) ot cap) 28)) (ofTr T) ob cb
  simpa only [World.size_alloc] using this)
 have R32 := Lib.hid (fun W (hW : LB (ofSh s) ot cap w W) => right_up g hm ot cap ol cl W hW.tins (hi.ext hW.ext))
 have R26 := Lib.hid (fun W (hW : LB (ofSh s) ot cap w W) => rTruth_any s g ot cap (ofTr T) ob cb W hW.tins (ht.ext hW.ext) (by have := hT.len; have := g.len2; simp [ofTr]; omega))
 simp only [truth_of hT] at R26
 have R33 := Lib.hid (fun W (hW : LB (ofSh s) ot cap w W) => sAim_ok s g ot cap W hW.tins)
 have R34 := Lib.hid (fun W (hW : LB (ofSh s) ot cap w W) => sSums_ok s g m hm ot cap ol cl W hW.tins (hi.ext hW.ext))
 have R28 := Lib.hid (fun W (hW : LB (ofSh s) ot cap w W) => sWord_ok s g m hm ot cap ol cl W hW.tins (hi.ext hW.ext))
 have R29 := Lib.hid (fun W (hW : LB (ofSh s) ot cap w W) => sYears_ok s g m hm ot cap ol cl W hW.tins (hi.ext hW.ext))
 have R23 := Lib.hid (fun W (hW : LB (ofSh s) ot cap w W) => sTrue_ok s g m hm T hT ot cap ol cl ob cb W hW.tins (hi.ext hW.ext) (ht.ext hW.ext))
 have R27 := Lib.hid (fun W (hW : LB (ofSh s) ot cap w W) => rTrue_any s g m hm T hT ot cap ol cl ob cb W (hi.ext hW.ext) (ht.ext hW.ext))
 have R36 := Lib.hid (fun p (hp : p < 3) W (hW : LB (ofSh s) ot cap w W) => rSum_any s g m hm T hT ol cl ob cb p hp W (hi.ext hW.ext) (ht.ext hW.ext))
 have R35 := Lib.hid (fun p (hp : p < 3) W => faded_any s g ot cap p T.years (T.fade p) hp (Nat.le_trans hT.y2 g.yhi) (Nat.le_trans (hT.f2 p hp) (g.fhi p hp)) W)
 have Rk := Lib.hid (fun (W : World) (hW : LB (ofSh s) ot cap w W) => known_any W k (cell_ext hW.ext hk))
 rw [hq] at R28
 rw [his] at R23 R27
 have Hn := Lib.hid (fun p (hp : p < 3) => (show aimLo s p ≤ left (s.old p) T.years (T.fade p) ∧ left (s.old p) T.years (T.fade p) ≤ aimHi s p from left_in hT hp))
 have Hs := Lib.hid (fun p (hp : p < 3) => low_sum hT hm.len hp)
 have htl : ¬ (6 : Int) < ((ofTr T).tins.length : Int) := by have := hT.len; have := g.len2; simp [ofTr]; omega
 have hY : ¬ (yearsOf s m).length = 0 := fun e => by have := (Go.TintM.word_never g hm).2 (List.eq_nil_of_length_eq_zero e); omega
 rw [yearsV_some hY] at R29
 generalize (yearsOf s m).getD 0 0 = yA at *
 generalize (yearsOf s m).getD ((yearsOf s m).length - 1) 0 = yB at *
 clear hY
 clear g hm hT hq his h hi ht hk
 have Uc := Lib.hid (show ∀ p, p < 3 → (ofTr T).f p = (T.fade p : Nat) from fun p hp => ofTr_f T hp)
 go_enter Tryz.func5, Tryz.ntmps5
 go_wp2_with (first | (go_at_call 32; refine (R32.out _ B.out).mono ?_; rintro e w9 ⟨rfl, hE9⟩; replace B := Lib.hid (B.out.next hE9); (try clear c0 c1 c2 c3 c4 c5 c6 c7 c8 c9 c10 c11 c12); have c0 := B.out.box 0 _ rfl; have c1 := B.out.box 1 _ rfl; have c2 := B.out.box 2 _ rfl; have c3 := B.out.box 3 _ rfl; have c4 := B.out.box 4 _ rfl; have c5 := B.out.box 5 _ rfl; have c6 := B.out.box 6 _ rfl; have c7 := B.out.box 7 _ rfl; have c8 := B.out.box 8 _ rfl; have c9 := B.out.box 9 _ rfl; have c10 := B.out.box 10 _ rfl; have c11 := B.out.box 11 _ rfl; have c12 := B.out.box 12 _ rfl; replace U := Lib.hid (U.out.ext hE9); (try clear v0 v1 v2 v3 v4); have v0 : World.cell? w9 ⟨(w.heap.size + 1), 0, none⟩ = some (.slice ob (ofTr T).tins.length cb) := U.out 0 _ rfl; have v1 := U.out 1 _ rfl; have v2 := U.out 2 _ rfl; have v3 := U.out 3 _ rfl; have v4 := U.out 4 _ rfl; clear hE9) | (go_at_call 26; refine (R26.out _ B.out).mono ?_; rintro e w9 ⟨rfl, hE9⟩; replace B := Lib.hid (B.out.next hE9); (try clear c0 c1 c2 c3 c4 c5 c6 c7 c8 c9 c10 c11 c12); have c0 := B.out.box 0 _ rfl; have c1 := B.out.box 1 _ rfl; have c2 := B.out.box 2 _ rfl; have c3 := B.out.box 3 _ rfl; have c4 := B.out.box 4 _ rfl; have c5 := B.out.box 5 _ rfl; have c6 := B.out.box 6 _ rfl; have c7 := B.out.box 7 _ rfl; have c8 := B.out.box 8 _ rfl; have c9 := B.out.box 9 _ rfl; have c10 := B.out.box 10 _ rfl; have c11 := B.out.box 11 _ rfl; have c12 := B.out.box 12 _ rfl; replace U := Lib.hid (U.out.ext hE9); (try clear v0 v1 v2 v3 v4); have v0 : World.cell? w9 ⟨(w.heap.size + 1), 0, none⟩ = some (.slice ob (ofTr T).tins.length cb) := U.out 0 _ rfl; have v1 := U.out 1 _ rfl; have v2 := U.out 2 _ rfl; have v3 := U.out 3 _ rfl; have v4 := U.out 4 _ rfl; clear hE9) | (go_at_call 33; refine (R33.out _ B.out).mono ?_; rintro e w9 ⟨rfl, hE9⟩; replace B := Lib.hid (B.out.next hE9); (try clear c0 c1 c2 c3 c4 c5 c6 c7 c8 c9 c10 c11 c12); have c0 := B.out.box 0 _ rfl; have c1 := B.out.box 1 _ rfl; have c2 := B.out.box 2 _ rfl; have c3 := B.out.box 3 _ rfl; have c4 := B.out.box 4 _ rfl; have c5 := B.out.box 5 _ rfl; have c6 := B.out.box 6 _ rfl; have c7 := B.out.box 7 _ rfl; have c8 := B.out.box 8 _ rfl; have c9 := B.out.box 9 _ rfl; have c10 := B.out.box 10 _ rfl; have c11 := B.out.box 11 _ rfl; have c12 := B.out.box 12 _ rfl; replace U := Lib.hid (U.out.ext hE9); (try clear v0 v1 v2 v3 v4); have v0 : World.cell? w9 ⟨(w.heap.size + 1), 0, none⟩ = some (.slice ob (ofTr T).tins.length cb) := U.out 0 _ rfl; have v1 := U.out 1 _ rfl; have v2 := U.out 2 _ rfl; have v3 := U.out 3 _ rfl; have v4 := U.out 4 _ rfl; have hltA := World.block_lt_of_cell? _ _ c0; have hneA := Nat.ne_of_lt hltA; simp only at hltA hneA; replace U := Lib.hid (U.out.ext ((Ext.refl w9).alloc (.cells #[.int .i64 (aimLo s 0), .int .i64 (aimHi s 0), .int .i64 (aimLo s 1), .int .i64 (aimHi s 1), .int .i64 (aimLo s 2), .int .i64 (aimHi s 2)] 25))); replace B := Lib.hid (B.out.alloc (.cells #[.int .i64 (aimLo s 0), .int .i64 (aimHi s 0), .int .i64 (aimLo s 1), .int .i64 (aimHi s 1), .int .i64 (aimLo s 2), .int .i64 (aimHi s 2)] 25)); have Y := Lib.hid (VB.new w9 [.int .i64 (aimLo s 0), .int .i64 (aimHi s 0), .int .i64 (aimLo s 1), .int .i64 (aimHi s 1), .int .i64 (aimLo s 2), .int .i64 (aimHi s 2)] 25); clear hE9) | (go_at_call 34; refine (R34.out _ B.out).mono ?_; rintro e w9 ⟨rfl, hE9⟩; replace B := Lib.hid (B.out.next hE9); (try clear c0 c1 c2 c3 c4 c5 c6 c7 c8 c9 c10 c11 c12); have c0 := B.out.box 0 _ rfl; have c1 := B.out.box 1 _ rfl; have c2 := B.out.box 2 _ rfl; have c3 := B.out.box 3 _ rfl; have c4 := B.out.box 4 _ rfl; have c5 := B.out.box 5 _ rfl; have c6 := B.out.box 6 _ rfl; have c7 := B.out.box 7 _ rfl; have c8 := B.out.box 8 _ rfl; have c9 := B.out.box 9 _ rfl; have c10 := B.out.box 10 _ rfl; have c11 := B.out.box 11 _ rfl; have c12 := B.out.box 12 _ rfl; replace U := Lib.hid (U.out.ext hE9); (try clear v0 v1 v2 v3 v4); have v0 : World.cell? w9 ⟨(w.heap.size + 1), 0, none⟩ = some (.slice ob (ofTr T).tins.length cb) := U.out 0 _ rfl; have v1 := U.out 1 _ rfl; have v2 := U.out 2 _ rfl; have v3 := U.out 3 _ rfl; have v4 := U.out 4 _ rfl; replace Y := Lib.hid (Y.out.ext hE9); have hltA := World.block_lt_of_cell? _ _ c0; have hneA := Nat.ne_of_lt hltA; simp only at hltA hneA; replace U := Lib.hid (U.out.ext ((Ext.refl w9).alloc (.cells #[.int .i64 (lowS s m 0 : Nat), .int .i64 (highS s m 0 : Nat), .int .i64 (lowS s m 1 : Nat), .int .i64 (highS s m 1 : Nat), .int .i64 (lowS s m 2 : Nat), .int .i64 (highS s m 2 : Nat)] 25))); replace Y := Lib.hid (Y.out.ext ((Ext.refl w9).alloc (.cells #[.int .i64 (lowS s m 0 : Nat), .int .i64 (highS s m 0 : Nat), .int .i64 (lowS s m 1 : Nat), .int .i64 (highS s m 1 : Nat), .int .i64 (lowS s m 2 : Nat), .int .i64 (highS s m 2 : Nat)] 25))); replace B := Lib.hid (B.out.alloc (.cells #[.int .i64 (lowS s m 0 : Nat), .int .i64 (highS s m 0 : Nat), .int .i64 (lowS s m 1 : Nat), .int .i64 (highS s m 1 : Nat), .int .i64 (lowS s m 2 : Nat), .int .i64 (highS s m 2 : Nat)] 25)); have Z := Lib.hid (VB.new w9 [.int .i64 (lowS s m 0 : Nat), .int .i64 (highS s m 0 : Nat), .int .i64 (lowS s m 1 : Nat), .int .i64 (highS s m 1 : Nat), .int .i64 (lowS s m 2 : Nat), .int .i64 (highS s m 2 : Nat)] 25); clear hE9) | (go_at_call 28; refine (R28.out _ B.out).mono ?_; rintro e w9 ⟨rfl, hE9⟩; replace B := Lib.hid (B.out.next hE9); (try clear c0 c1 c2 c3 c4 c5 c6 c7 c8 c9 c10 c11 c12); have c0 := B.out.box 0 _ rfl; have c1 := B.out.box 1 _ rfl; have c2 := B.out.box 2 _ rfl; have c3 := B.out.box 3 _ rfl; have c4 := B.out.box 4 _ rfl; have c5 := B.out.box 5 _ rfl; have c6 := B.out.box 6 _ rfl; have c7 := B.out.box 7 _ rfl; have c8 := B.out.box 8 _ rfl; have c9 := B.out.box 9 _ rfl; have c10 := B.out.box 10 _ rfl; have c11 := B.out.box 11 _ rfl; have c12 := B.out.box 12 _ rfl; replace U := Lib.hid (U.out.ext hE9); (try clear v0 v1 v2 v3 v4); have v0 : World.cell? w9 ⟨(w.heap.size + 1), 0, none⟩ = some (.slice ob (ofTr T).tins.length cb) := U.out 0 _ rfl; have v1 := U.out 1 _ rfl; have v2 := U.out 2 _ rfl; have v3 := U.out 3 _ rfl; have v4 := U.out 4 _ rfl; replace Y := Lib.hid (Y.out.ext hE9); replace Z := Lib.hid (Z.out.ext hE9); clear hE9) | (go_at_call 29; refine (R29.out _ B.out).mono ?_; rintro e w9 ⟨rfl, hE9⟩; replace B := Lib.hid (B.out.next hE9); (try clear c0 c1 c2 c3 c4 c5 c6 c7 c8 c9 c10 c11 c12); have c0 := B.out.box 0 _ rfl; have c1 := B.out.box 1 _ rfl; have c2 := B.out.box 2 _ rfl; have c3 := B.out.box 3 _ rfl; have c4 := B.out.box 4 _ rfl; have c5 := B.out.box 5 _ rfl; have c6 := B.out.box 6 _ rfl; have c7 := B.out.box 7 _ rfl; have c8 := B.out.box 8 _ rfl; have c9 := B.out.box 9 _ rfl; have c10 := B.out.box 10 _ rfl; have c11 := B.out.box 11 _ rfl; have c12 := B.out.box 12 _ rfl; replace U := Lib.hid (U.out.ext hE9); (try clear v0 v1 v2 v3 v4); have v0 : World.cell? w9 ⟨(w.heap.size + 1), 0, none⟩ = some (.slice ob (ofTr T).tins.length cb) := U.out 0 _ rfl; have v1 := U.out 1 _ rfl; have v2 := U.out 2 _ rfl; have v3 := U.out 3 _ rfl; have v4 := U.out 4 _ rfl; replace Y := Lib.hid (Y.out.ext hE9); replace Z := Lib.hid (Z.out.ext hE9); have hltA := World.block_lt_of_cell? _ _ c0; have hneA := Nat.ne_of_lt hltA; simp only at hltA hneA; have hltU := World.block_lt_of_cell? _ _ v0; have hneU := Nat.ne_of_lt hltU; simp only at hltU hneU; replace U := Lib.hid (U.out.ext ((Ext.refl w9).alloc (.cells #[.int .i64 (yA : Nat), .int .i64 (yB : Nat)] 24))); replace Y := Lib.hid (Y.out.ext ((Ext.refl w9).alloc (.cells #[.int .i64 (yA : Nat), .int .i64 (yB : Nat)] 24))); replace Z := Lib.hid (Z.out.ext ((Ext.refl w9).alloc (.cells #[.int .i64 (yA : Nat), .int .i64 (yB : Nat)] 24))); replace B := Lib.hid (B.out.alloc (.cells #[.int .i64 (yA : Nat), .int .i64 (yB : Nat)] 24)); have V := Lib.hid (VB.new w9 [.int .i64 (yA : Nat), .int .i64 (yB : Nat)] 24); clear hE9) | (go_at_call 23; refine (R23.out _ B.out).mono ?_; rintro e w9 ⟨rfl, hE9⟩; replace B := Lib.hid (B.out.next hE9); (try clear c0 c1 c2 c3 c4 c5 c6 c7 c8 c9 c10 c11 c12); have c0 := B.out.box 0 _ rfl; have c1 := B.out.box 1 _ rfl; have c2 := B.out.box 2 _ rfl; have c3 := B.out.box 3 _ rfl; have c4 := B.out.box 4 _ rfl; have c5 := B.out.box 5 _ rfl; have c6 := B.out.box 6 _ rfl; have c7 := B.out.box 7 _ rfl; have c8 := B.out.box 8 _ rfl; have c9 := B.out.box 9 _ rfl; have c10 := B.out.box 10 _ rfl; have c11 := B.out.box 11 _ rfl; have c12 := B.out.box 12 _ rfl; replace U := Lib.hid (U.out.ext hE9); (try clear v0 v1 v2 v3 v4); have v0 : World.cell? w9 ⟨(w.heap.size + 1), 0, none⟩ = some (.slice ob (ofTr T).tins.length cb) := U.out 0 _ rfl; have v1 := U.out 1 _ rfl; have v2 := U.out 2 _ rfl; have v3 := U.out 3 _ rfl; have v4 := U.out 4 _ rfl; replace Y := Lib.hid (Y.out.ext hE9); replace Z := Lib.hid (Z.out.ext hE9); replace V := Lib.hid (V.out.ext hE9); clear hE9) | (go_at_call 27; refine (R27.out _ B.out).mono ?_; rintro e w9 ⟨rfl, hE9⟩; replace B := Lib.hid (B.out.next hE9); (try clear c0 c1 c2 c3 c4 c5 c6 c7 c8 c9 c10 c11 c12); have c0 := B.out.box 0 _ rfl; have c1 := B.out.box 1 _ rfl; have c2 := B.out.box 2 _ rfl; have c3 := B.out.box 3 _ rfl; have c4 := B.out.box 4 _ rfl; have c5 := B.out.box 5 _ rfl; have c6 := B.out.box 6 _ rfl; have c7 := B.out.box 7 _ rfl; have c8 := B.out.box 8 _ rfl; have c9 := B.out.box 9 _ rfl; have c10 := B.out.box 10 _ rfl; have c11 := B.out.box 11 _ rfl; have c12 := B.out.box 12 _ rfl; replace U := Lib.hid (U.out.ext hE9); (try clear v0 v1 v2 v3 v4); have v0 : World.cell? w9 ⟨(w.heap.size + 1), 0, none⟩ = some (.slice ob (ofTr T).tins.length cb) := U.out 0 _ rfl; have v1 := U.out 1 _ rfl; have v2 := U.out 2 _ rfl; have v3 := U.out 3 _ rfl; have v4 := U.out 4 _ rfl; replace Y := Lib.hid (Y.out.ext hE9); replace Z := Lib.hid (Z.out.ext hE9); replace V := Lib.hid (V.out.ext hE9); clear hE9))
 have hB := B.out
 have hU := U.out
 have hY := Y.out
 have hZ := Z.out
 have hV := V.out
 (try clear c0 c1 c2 c3 c4 c5 c6 c7 c8 c9 c10 c11 c12 v0 v1 v2 v3 v4)
 obtain ⟨w1, hw1⟩ : ∃ W, W = w9 := ⟨_, rfl⟩
 rw [← hw1] at hB hU hY hZ hV ⊢
 have HB1 := Lib.hid hB
 have HU1 := Lib.hid hU
 have HY1 := Lib.hid hY
 have HZ1 := Lib.hid hZ
 have HV1 := Lib.hid hV
 clear hB hU hY hZ hV hw1 B U Y Z V
 go_loopg [17, 18, 19] 3 (fun g i a b wr => ∃ j : Nat, j + g = 3 ∧ i = .int .i64 j ∧ Ext w1 wr)
 case atStart => exact ⟨0, by omega, rfl, Ext.refl _⟩
 case round =>
  obtain ⟨j, hj, rfl, hE⟩ := hrel
  have B := Lib.hid (HB1.out.next hE)
  have U := Lib.hid (HU1.out.ext hE)
  have Y := Lib.hid (HY1.out.ext hE)
  have Z := Lib.hid (HZ1.out.ext hE)
  have V := Lib.hid (HV1.out.ext hE)
  have HE := Lib.hid hE
  clear hE
  have c0 := B.out.box 0 _ rfl; have c1 := B.out.box 1 _ rfl; have c2 := B.out.box 2 _ rfl; have c3 := B.out.box 3 _ rfl; have c4 := B.out.box 4 _ rfl; have c5 := B.out.box 5 _ rfl; have c6 := B.out.box 6 _ rfl; have c7 := B.out.box 7 _ rfl; have c8 := B.out.box 8 _ rfl; have c9 := B.out.box 9 _ rfl; have c10 := B.out.box 10 _ rfl; have c11 := B.out.box 11 _ rfl; have c12 := B.out.box 12 _ rfl
  have v0 : World.cell? wr ⟨(w.heap.size + 1), 0, none⟩ = some (.slice ob (ofTr T).tins.length cb) := U.out 0 _ rfl; have v1 := U.out 1 _ rfl; have v2 := U.out 2 _ rfl; have v3 := U.out 3 _ rfl; have v4 := U.out 4 _ rfl
  by_cases hlt : j < 3
  ·have hjI : (j : Int) < 3 := by omega
   have vf := U.out.fade hlt
   rw [Uc.out j hlt] at vf
   have hn := Hn.out j hlt
   have hs := Hs.out j hlt
   have y0 := Y.out (j * 2) (.int .i64 (aimLo s j)) (by match j, hlt with | 0, _ => rfl | 1, _ => rfl | 2, _ => rfl)
   have y1 := Y.out (j * 2 + 1) (.int .i64 (aimHi s j)) (by match j, hlt with | 0, _ => rfl | 1, _ => rfl | 2, _ => rfl)
   have z0 := Z.out (j * 2) (.int .i64 (lowS s m j : Nat)) (by match j, hlt with | 0, _ => rfl | 1, _ => rfl | 2, _ => rfl)
   have z1 := Z.out (j * 2 + 1) (.int .i64 (highS s m j : Nat)) (by match j, hlt with | 0, _ => rfl | 1, _ => rfl | 2, _ => rfl)
   have r35 := Lib.hid (R35.out j hlt)
   have r36 := Lib.hid (R36.out j hlt)
   generalize left (s.old j) T.years (T.fade j) = A at *
   generalize sumT m T j = M at *
   generalize aimLo s j = a1 at *
   generalize aimHi s j = a2 at *
   generalize lowS s m j = b1 at *
   generalize highS s m j = b2 at *
   have n1 : ¬ (A : Int) < (a1 : Int) := by omega
   have n2 : ¬ (a2 : Int) < (A : Int) := by omega
   have n3 : ¬ (M : Int) < (b1 : Int) := by omega
   have n4 : ¬ (b2 : Int) < (M : Int) := by omega
   replace v1 : wr.cell? ⟨w.heap.size + 1, 1, none⟩ = some (.int .i64 (T.years : Nat)) := v1
   go_wp2_with fail
   refine wp_region_plan (.take 0 <| .take 1 <| .take 2 <| .take 3 <| .take 4 <| .take 5 <| .take 6 <| .take 7 <| .take 9 <| .take 10 <| .take 11 <| .only 8 <| .only 12 <| .take 13 <| .take 14 <| .done) (fun W => Ext wr W) mixed (by kernel_rfl) (by kernel_rfl) rfl (fun _ _ d _ _ h => by cases d <;> exact h) ((Ext.refl wr).drew) ?_
   repeat ((first | (refine plan_take (v := ?_) rfl rfl (fun W hW => ?_) ?_; rotate_left; (focus (have d0 := cell_ext hW c0; have d1 := cell_ext hW c1; have d2 := cell_ext hW c2; have d3 := cell_ext hW c3; have d4 := cell_ext hW c4; have d5 := cell_ext hW c5; have d6 := cell_ext hW c6; have d7 := cell_ext hW c7; have d8 := cell_ext hW c8; have d9 := cell_ext hW c9; have d10 := cell_ext hW c10; have d11 := cell_ext hW c11; have d12 := cell_ext hW c12; have u0 := cell_ext hW v0; have u1 := cell_ext hW v1; have u2 := cell_ext hW v2; have u3 := cell_ext hW v3; have u4 := cell_ext hW v4; have u5 := cell_ext hW vf; go_simp; first | exact rfl | (split <;> first | exact rfl | (exfalso; omega)) | done))) | refine plan_skip rfl rfl ?_); simp only [puts])
   refine plan_walk rfl ?_; intro K hK
   go_wp2_with (first | (go_at_call 35; refine (r35.out _).mono ?_; rintro e w5 ⟨rfl, hE5⟩))
   have X := Lib.hid ((Ext.refl wr).drew.trans hE5)
   refine hK _ _ X.out ?_
   clear hE5 hK
   repeat ((first | (refine plan_take (v := ?_) rfl rfl (fun W hW => ?_) ?_; rotate_left; (focus (have u0 := cell_ext hW v0; have u1 := cell_ext hW v1; have u2 := cell_ext hW v2; have u3 := cell_ext hW v3; have u4 := cell_ext hW v4; go_simp; first | exact rfl | (split <;> first | exact rfl | (exfalso; omega)) | done))) | refine plan_skip rfl rfl ?_); simp only [puts])
   refine plan_walk rfl ?_; intro K hK
   go_wp2_with (first | (go_at_call 36; refine (r36.out _ (B.out.next X.out)).mono ?_; rintro e w6 ⟨rfl, hE6⟩))
   replace X := Lib.hid (X.out.trans hE6)
   refine hK _ _ X.out ?_
   clear hE6 hK
   repeat ((first | (refine plan_take (v := ?_) rfl rfl (fun W hW => ?_) ?_; rotate_left; (focus (skip; go_simp; first | exact rfl | (split <;> first | exact rfl | (exfalso; omega)) | done))) | refine plan_skip rfl rfl ?_); simp only [puts])
   refine plan_done ?_
   have e0 := cell_ext X.out y0
   have e1 := cell_ext X.out y1
   have e2 := cell_ext X.out z0
   have e3 := cell_ext X.out z1
   clear y0 y1 z0 z1 c0 c1 c2 c3 c4 c5 c6 c7 c8 c9 c10 c11 c12 v0 v1 v2 v3 v4 vf hn hs
   go_wp2
   go_roundg (gk - 1)
   case measure => omega
   case rel => exact ⟨j + 1, by omega, by go_num, HE.out.trans X.out⟩
  ·obtain rfl : j = 3 := by omega
   have y0 := V.out 0 _ rfl
   have y1 := V.out 1 _ rfl
   clear HB1 HU1 HY1 HZ1 HV1 Y Z
   go_wp2_with (first | (go_at_call 22; refine (Rk.out _ B.out).mono ?_; rintro e w9 ⟨rfl, hE9⟩; replace B := Lib.hid (B.out.next hE9); (try clear c0 c1 c2 c3 c4 c5 c6 c7 c8 c9 c10 c11 c12); have c0 := B.out.box 0 _ rfl; have c1 := B.out.box 1 _ rfl; have c2 := B.out.box 2 _ rfl; have c3 := B.out.box 3 _ rfl; have c4 := B.out.box 4 _ rfl; have c5 := B.out.box 5 _ rfl; have c6 := B.out.box 6 _ rfl; have c7 := B.out.box 7 _ rfl; have c8 := B.out.box 8 _ rfl; have c9 := B.out.box 9 _ rfl; have c10 := B.out.box 10 _ rfl; have c11 := B.out.box 11 _ rfl; have c12 := B.out.box 12 _ rfl; clear hE9))
   go_ret
   exact ⟨rfl, B.out.ext⟩

theorem law5_2t {s : Sh} (g : Fine s) {m : List Nat} (hm : IsMix s m) {T : Tr} (hT : GoodT s T) (hq : wordOf s m = 2) (his : trueOf s m T = true) {ot ol ob : Option Addr} {cap cl cb : Nat} {w : World} (h : TinsAt w ot (ofSh s).tins) (hi : IntsAt w ol (upL m)) (ht : TrisAt w ob (ofTr T).tins) (k : Int) (hk : w.cell? ⟨1, 0, none⟩ = some (.int .i64 k)) :
  Calls Tryz.prog 5 #[sheetV (ofSh s) ot cap, .slice ol m.length cl, truthV (ofTr T) ob cb] w fun e w' => e = .returned (.bool true) ∧ Ext w w' := by
 have B := Lib.hid ((LB.start (cap := cap) h).alloc (.cells (truthC (ofTr T) ob cb) 32))
 have U := Lib.hid (show TruthBox ((w.alloc (.cells (sheetC (ofSh s) ot cap) 28)).alloc (.cells (truthC (ofTr T) ob cb) 32)) (w.heap.size + 1) (ofTr T) ob cb by
  have := TruthBox.new (w.alloc (.cells (sheetC (ofSh s) ot cap) 28)) (ofTr T) ob cb
  simpa only [World.size_alloc] using this)
 have R32 := Lib.hid (fun W (hW : LB (ofSh s) ot cap w W) => right_up g hm ot cap ol cl W hW.tins (hi.ext hW.ext))
 have R26 := Lib.hid (fun W (hW : LB (ofSh s) ot cap w W) => rTruth_any s g ot cap (ofTr T) ob cb W hW.tins (ht.ext hW.ext) (by have := hT.len; have := g.len2; simp [ofTr]; omega))
 simp only [truth_of hT] at R26
 have R33 := Lib.hid (fun W (hW : LB (ofSh s) ot cap w W) => sAim_ok s g ot cap W hW.tins)
 have R34 := Lib.hid (fun W (hW : LB (ofSh s) ot cap w W) => sSums_ok s g m hm ot cap ol cl W hW.tins (hi.ext hW.ext))
 have R28 := Lib.hid (fun W (hW : LB (ofSh s) ot cap w W) => sWord_ok s g m hm ot cap ol cl W hW.tins (hi.ext hW.ext))
 have R29 := Lib.hid (fun W (hW : LB (ofSh s) ot cap w W) => sYears_ok s g m hm ot cap ol cl W hW.tins (hi.ext hW.ext))
 have R23 := Lib.hid (fun W (hW : LB (ofSh s) ot cap w W) => sTrue_ok s g m hm T hT ot cap ol cl ob cb W hW.tins (hi.ext hW.ext) (ht.ext hW.ext))
 have R27 := Lib.hid (fun W (hW : LB (ofSh s) ot cap w W) => rTrue_any s g m hm T hT ot cap ol cl ob cb W (hi.ext hW.ext) (ht.ext hW.ext))
 have R36 := Lib.hid (fun p (hp : p < 3) W (hW : LB (ofSh s) ot cap w W) => rSum_any s g m hm T hT ol cl ob cb p hp W (hi.ext hW.ext) (ht.ext hW.ext))
 have R35 := Lib.hid (fun p (hp : p < 3) W => faded_any s g ot cap p T.years (T.fade p) hp (Nat.le_trans hT.y2 g.yhi) (Nat.le_trans (hT.f2 p hp) (g.fhi p hp)) W)
 have Rk := Lib.hid (fun (W : World) (hW : LB (ofSh s) ot cap w W) => known_any W k (cell_ext hW.ext hk))
 rw [hq] at R28
 rw [his] at R23 R27
 have Hn := Lib.hid (fun p (hp : p < 3) => (show aimLo s p ≤ left (s.old p) T.years (T.fade p) ∧ left (s.old p) T.years (T.fade p) ≤ aimHi s p from left_in hT hp))
 have Hs := Lib.hid (fun p (hp : p < 3) => low_sum hT hm.len hp)
 have htl : ¬ (6 : Int) < ((ofTr T).tins.length : Int) := by have := hT.len; have := g.len2; simp [ofTr]; omega
 have hY : ¬ (yearsOf s m).length = 0 := fun e => by have := (Go.TintM.word_never g hm).2 (List.eq_nil_of_length_eq_zero e); omega
 rw [yearsV_some hY] at R29
 have hyy := years_ends (true_year hm hT his)
 have hy1 : (((yearsOf s m).getD 0 0 : Nat) : Int) ≤ (ofTr T).years := by have := hyy.1; simp only [ofTr]; omega
 have hy2 : (ofTr T).years ≤ (((yearsOf s m).getD ((yearsOf s m).length - 1) 0 : Nat) : Int) := by have := hyy.2.1; simp only [ofTr]; omega
 clear hyy
 generalize (yearsOf s m).getD 0 0 = yA at *
 generalize (yearsOf s m).getD ((yearsOf s m).length - 1) 0 = yB at *
 clear hY
 clear g hm hT hq his h hi ht hk
 have Uc := Lib.hid (show ∀ p, p < 3 → (ofTr T).f p = (T.fade p : Nat) from fun p hp => ofTr_f T hp)
 go_enter Tryz.func5, Tryz.ntmps5
 go_wp2_with (first | (go_at_call 32; refine (R32.out _ B.out).mono ?_; rintro e w9 ⟨rfl, hE9⟩; replace B := Lib.hid (B.out.next hE9); (try clear c0 c1 c2 c3 c4 c5 c6 c7 c8 c9 c10 c11 c12); have c0 := B.out.box 0 _ rfl; have c1 := B.out.box 1 _ rfl; have c2 := B.out.box 2 _ rfl; have c3 := B.out.box 3 _ rfl; have c4 := B.out.box 4 _ rfl; have c5 := B.out.box 5 _ rfl; have c6 := B.out.box 6 _ rfl; have c7 := B.out.box 7 _ rfl; have c8 := B.out.box 8 _ rfl; have c9 := B.out.box 9 _ rfl; have c10 := B.out.box 10 _ rfl; have c11 := B.out.box 11 _ rfl; have c12 := B.out.box 12 _ rfl; replace U := Lib.hid (U.out.ext hE9); (try clear v0 v1 v2 v3 v4); have v0 : World.cell? w9 ⟨(w.heap.size + 1), 0, none⟩ = some (.slice ob (ofTr T).tins.length cb) := U.out 0 _ rfl; have v1 := U.out 1 _ rfl; have v2 := U.out 2 _ rfl; have v3 := U.out 3 _ rfl; have v4 := U.out 4 _ rfl; clear hE9) | (go_at_call 26; refine (R26.out _ B.out).mono ?_; rintro e w9 ⟨rfl, hE9⟩; replace B := Lib.hid (B.out.next hE9); (try clear c0 c1 c2 c3 c4 c5 c6 c7 c8 c9 c10 c11 c12); have c0 := B.out.box 0 _ rfl; have c1 := B.out.box 1 _ rfl; have c2 := B.out.box 2 _ rfl; have c3 := B.out.box 3 _ rfl; have c4 := B.out.box 4 _ rfl; have c5 := B.out.box 5 _ rfl; have c6 := B.out.box 6 _ rfl; have c7 := B.out.box 7 _ rfl; have c8 := B.out.box 8 _ rfl; have c9 := B.out.box 9 _ rfl; have c10 := B.out.box 10 _ rfl; have c11 := B.out.box 11 _ rfl; have c12 := B.out.box 12 _ rfl; replace U := Lib.hid (U.out.ext hE9); (try clear v0 v1 v2 v3 v4); have v0 : World.cell? w9 ⟨(w.heap.size + 1), 0, none⟩ = some (.slice ob (ofTr T).tins.length cb) := U.out 0 _ rfl; have v1 := U.out 1 _ rfl; have v2 := U.out 2 _ rfl; have v3 := U.out 3 _ rfl; have v4 := U.out 4 _ rfl; clear hE9) | (go_at_call 33; refine (R33.out _ B.out).mono ?_; rintro e w9 ⟨rfl, hE9⟩; replace B := Lib.hid (B.out.next hE9); (try clear c0 c1 c2 c3 c4 c5 c6 c7 c8 c9 c10 c11 c12); have c0 := B.out.box 0 _ rfl; have c1 := B.out.box 1 _ rfl; have c2 := B.out.box 2 _ rfl; have c3 := B.out.box 3 _ rfl; have c4 := B.out.box 4 _ rfl; have c5 := B.out.box 5 _ rfl; have c6 := B.out.box 6 _ rfl; have c7 := B.out.box 7 _ rfl; have c8 := B.out.box 8 _ rfl; have c9 := B.out.box 9 _ rfl; have c10 := B.out.box 10 _ rfl; have c11 := B.out.box 11 _ rfl; have c12 := B.out.box 12 _ rfl; replace U := Lib.hid (U.out.ext hE9); (try clear v0 v1 v2 v3 v4); have v0 : World.cell? w9 ⟨(w.heap.size + 1), 0, none⟩ = some (.slice ob (ofTr T).tins.length cb) := U.out 0 _ rfl; have v1 := U.out 1 _ rfl; have v2 := U.out 2 _ rfl; have v3 := U.out 3 _ rfl; have v4 := U.out 4 _ rfl; have hltA := World.block_lt_of_cell? _ _ c0; have hneA := Nat.ne_of_lt hltA; simp only at hltA hneA; replace U := Lib.hid (U.out.ext ((Ext.refl w9).alloc (.cells #[.int .i64 (aimLo s 0), .int .i64 (aimHi s 0), .int .i64 (aimLo s 1), .int .i64 (aimHi s 1), .int .i64 (aimLo s 2), .int .i64 (aimHi s 2)] 25))); replace B := Lib.hid (B.out.alloc (.cells #[.int .i64 (aimLo s 0), .int .i64 (aimHi s 0), .int .i64 (aimLo s 1), .int .i64 (aimHi s 1), .int .i64 (aimLo s 2), .int .i64 (aimHi s 2)] 25)); have Y := Lib.hid (VB.new w9 [.int .i64 (aimLo s 0), .int .i64 (aimHi s 0), .int .i64 (aimLo s 1), .int .i64 (aimHi s 1), .int .i64 (aimLo s 2), .int .i64 (aimHi s 2)] 25); clear hE9) | (go_at_call 34; refine (R34.out _ B.out).mono ?_; rintro e w9 ⟨rfl, hE9⟩; replace B := Lib.hid (B.out.next hE9); (try clear c0 c1 c2 c3 c4 c5 c6 c7 c8 c9 c10 c11 c12); have c0 := B.out.box 0 _ rfl; have c1 := B.out.box 1 _ rfl; have c2 := B.out.box 2 _ rfl; have c3 := B.out.box 3 _ rfl; have c4 := B.out.box 4 _ rfl; have c5 := B.out.box 5 _ rfl; have c6 := B.out.box 6 _ rfl; have c7 := B.out.box 7 _ rfl; have c8 := B.out.box 8 _ rfl; have c9 := B.out.box 9 _ rfl; have c10 := B.out.box 10 _ rfl; have c11 := B.out.box 11 _ rfl; have c12 := B.out.box 12 _ rfl; replace U := Lib.hid (U.out.ext hE9); (try clear v0 v1 v2 v3 v4); have v0 : World.cell? w9 ⟨(w.heap.size + 1), 0, none⟩ = some (.slice ob (ofTr T).tins.length cb) := U.out 0 _ rfl; have v1 := U.out 1 _ rfl; have v2 := U.out 2 _ rfl; have v3 := U.out 3 _ rfl; have v4 := U.out 4 _ rfl; replace Y := Lib.hid (Y.out.ext hE9); have hltA := World.block_lt_of_cell? _ _ c0; have hneA := Nat.ne_of_lt hltA; simp only at hltA hneA; replace U := Lib.hid (U.out.ext ((Ext.refl w9).alloc (.cells #[.int .i64 (lowS s m 0 : Nat), .int .i64 (highS s m 0 : Nat), .int .i64 (lowS s m 1 : Nat), .int .i64 (highS s m 1 : Nat), .int .i64 (lowS s m 2 : Nat), .int .i64 (highS s m 2 : Nat)] 25))); replace Y := Lib.hid (Y.out.ext ((Ext.refl w9).alloc (.cells #[.int .i64 (lowS s m 0 : Nat), .int .i64 (highS s m 0 : Nat), .int .i64 (lowS s m 1 : Nat), .int .i64 (highS s m 1 : Nat), .int .i64 (lowS s m 2 : Nat), .int .i64 (highS s m 2 : Nat)] 25))); replace B := Lib.hid (B.out.alloc (.cells #[.int .i64 (lowS s m 0 : Nat), .int .i64 (highS s m 0 : Nat), .int .i64 (lowS s m 1 : Nat), .int .i64 (highS s m 1 : Nat), .int .i64 (lowS s m 2 : Nat), .int .i64 (highS s m 2 : Nat)] 25)); have Z := Lib.hid (VB.new w9 [.int .i64 (lowS s m 0 : Nat), .int .i64 (highS s m 0 : Nat), .int .i64 (lowS s m 1 : Nat), .int .i64 (highS s m 1 : Nat), .int .i64 (lowS s m 2 : Nat), .int .i64 (highS s m 2 : Nat)] 25); clear hE9) | (go_at_call 28; refine (R28.out _ B.out).mono ?_; rintro e w9 ⟨rfl, hE9⟩; replace B := Lib.hid (B.out.next hE9); (try clear c0 c1 c2 c3 c4 c5 c6 c7 c8 c9 c10 c11 c12); have c0 := B.out.box 0 _ rfl; have c1 := B.out.box 1 _ rfl; have c2 := B.out.box 2 _ rfl; have c3 := B.out.box 3 _ rfl; have c4 := B.out.box 4 _ rfl; have c5 := B.out.box 5 _ rfl; have c6 := B.out.box 6 _ rfl; have c7 := B.out.box 7 _ rfl; have c8 := B.out.box 8 _ rfl; have c9 := B.out.box 9 _ rfl; have c10 := B.out.box 10 _ rfl; have c11 := B.out.box 11 _ rfl; have c12 := B.out.box 12 _ rfl; replace U := Lib.hid (U.out.ext hE9); (try clear v0 v1 v2 v3 v4); have v0 : World.cell? w9 ⟨(w.heap.size + 1), 0, none⟩ = some (.slice ob (ofTr T).tins.length cb) := U.out 0 _ rfl; have v1 := U.out 1 _ rfl; have v2 := U.out 2 _ rfl; have v3 := U.out 3 _ rfl; have v4 := U.out 4 _ rfl; replace Y := Lib.hid (Y.out.ext hE9); replace Z := Lib.hid (Z.out.ext hE9); clear hE9) | (go_at_call 29; refine (R29.out _ B.out).mono ?_; rintro e w9 ⟨rfl, hE9⟩; replace B := Lib.hid (B.out.next hE9); (try clear c0 c1 c2 c3 c4 c5 c6 c7 c8 c9 c10 c11 c12); have c0 := B.out.box 0 _ rfl; have c1 := B.out.box 1 _ rfl; have c2 := B.out.box 2 _ rfl; have c3 := B.out.box 3 _ rfl; have c4 := B.out.box 4 _ rfl; have c5 := B.out.box 5 _ rfl; have c6 := B.out.box 6 _ rfl; have c7 := B.out.box 7 _ rfl; have c8 := B.out.box 8 _ rfl; have c9 := B.out.box 9 _ rfl; have c10 := B.out.box 10 _ rfl; have c11 := B.out.box 11 _ rfl; have c12 := B.out.box 12 _ rfl; replace U := Lib.hid (U.out.ext hE9); (try clear v0 v1 v2 v3 v4); have v0 : World.cell? w9 ⟨(w.heap.size + 1), 0, none⟩ = some (.slice ob (ofTr T).tins.length cb) := U.out 0 _ rfl; have v1 := U.out 1 _ rfl; have v2 := U.out 2 _ rfl; have v3 := U.out 3 _ rfl; have v4 := U.out 4 _ rfl; replace Y := Lib.hid (Y.out.ext hE9); replace Z := Lib.hid (Z.out.ext hE9); have hltA := World.block_lt_of_cell? _ _ c0; have hneA := Nat.ne_of_lt hltA; simp only at hltA hneA; have hltU := World.block_lt_of_cell? _ _ v0; have hneU := Nat.ne_of_lt hltU; simp only at hltU hneU; replace U := Lib.hid (U.out.ext ((Ext.refl w9).alloc (.cells #[.int .i64 (yA : Nat), .int .i64 (yB : Nat)] 24))); replace Y := Lib.hid (Y.out.ext ((Ext.refl w9).alloc (.cells #[.int .i64 (yA : Nat), .int .i64 (yB : Nat)] 24))); replace Z := Lib.hid (Z.out.ext ((Ext.refl w9).alloc (.cells #[.int .i64 (yA : Nat), .int .i64 (yB : Nat)] 24))); replace B := Lib.hid (B.out.alloc (.cells #[.int .i64 (yA : Nat), .int .i64 (yB : Nat)] 24)); have V := Lib.hid (VB.new w9 [.int .i64 (yA : Nat), .int .i64 (yB : Nat)] 24); clear hE9) | (go_at_call 23; refine (R23.out _ B.out).mono ?_; rintro e w9 ⟨rfl, hE9⟩; replace B := Lib.hid (B.out.next hE9); (try clear c0 c1 c2 c3 c4 c5 c6 c7 c8 c9 c10 c11 c12); have c0 := B.out.box 0 _ rfl; have c1 := B.out.box 1 _ rfl; have c2 := B.out.box 2 _ rfl; have c3 := B.out.box 3 _ rfl; have c4 := B.out.box 4 _ rfl; have c5 := B.out.box 5 _ rfl; have c6 := B.out.box 6 _ rfl; have c7 := B.out.box 7 _ rfl; have c8 := B.out.box 8 _ rfl; have c9 := B.out.box 9 _ rfl; have c10 := B.out.box 10 _ rfl; have c11 := B.out.box 11 _ rfl; have c12 := B.out.box 12 _ rfl; replace U := Lib.hid (U.out.ext hE9); (try clear v0 v1 v2 v3 v4); have v0 : World.cell? w9 ⟨(w.heap.size + 1), 0, none⟩ = some (.slice ob (ofTr T).tins.length cb) := U.out 0 _ rfl; have v1 := U.out 1 _ rfl; have v2 := U.out 2 _ rfl; have v3 := U.out 3 _ rfl; have v4 := U.out 4 _ rfl; replace Y := Lib.hid (Y.out.ext hE9); replace Z := Lib.hid (Z.out.ext hE9); replace V := Lib.hid (V.out.ext hE9); clear hE9) | (go_at_call 27; refine (R27.out _ B.out).mono ?_; rintro e w9 ⟨rfl, hE9⟩; replace B := Lib.hid (B.out.next hE9); (try clear c0 c1 c2 c3 c4 c5 c6 c7 c8 c9 c10 c11 c12); have c0 := B.out.box 0 _ rfl; have c1 := B.out.box 1 _ rfl; have c2 := B.out.box 2 _ rfl; have c3 := B.out.box 3 _ rfl; have c4 := B.out.box 4 _ rfl; have c5 := B.out.box 5 _ rfl; have c6 := B.out.box 6 _ rfl; have c7 := B.out.box 7 _ rfl; have c8 := B.out.box 8 _ rfl; have c9 := B.out.box 9 _ rfl; have c10 := B.out.box 10 _ rfl; have c11 := B.out.box 11 _ rfl; have c12 := B.out.box 12 _ rfl; replace U := Lib.hid (U.out.ext hE9); (try clear v0 v1 v2 v3 v4); have v0 : World.cell? w9 ⟨(w.heap.size + 1), 0, none⟩ = some (.slice ob (ofTr T).tins.length cb) := U.out 0 _ rfl; have v1 := U.out 1 _ rfl; have v2 := U.out 2 _ rfl; have v3 := U.out 3 _ rfl; have v4 := U.out 4 _ rfl; replace Y := Lib.hid (Y.out.ext hE9); replace Z := Lib.hid (Z.out.ext hE9); replace V := Lib.hid (V.out.ext hE9); clear hE9))
 have hB := B.out
 have hU := U.out
 have hY := Y.out
 have hZ := Z.out
 have hV := V.out
 (try clear c0 c1 c2 c3 c4 c5 c6 c7 c8 c9 c10 c11 c12 v0 v1 v2 v3 v4)
 obtain ⟨w1, hw1⟩ : ∃ W, W = w9 := ⟨_, rfl⟩
 rw [← hw1] at hB hU hY hZ hV ⊢
 have HB1 := Lib.hid hB
 have HU1 := Lib.hid hU
 have HY1 := Lib.hid hY
 have HZ1 := Lib.hid hZ
 have HV1 := Lib.hid hV
 clear hB hU hY hZ hV hw1 B U Y Z V
 go_loopg [17, 18, 19] 3 (fun g i a b wr => ∃ j : Nat, j + g = 3 ∧ i = .int .i64 j ∧ Ext w1 wr)
 case atStart => exact ⟨0, by omega, rfl, Ext.refl _⟩
 case round =>
  obtain ⟨j, hj, rfl, hE⟩ := hrel
  have B := Lib.hid (HB1.out.next hE)
  have U := Lib.hid (HU1.out.ext hE)
  have Y := Lib.hid (HY1.out.ext hE)
  have Z := Lib.hid (HZ1.out.ext hE)
  have V := Lib.hid (HV1.out.ext hE)
  have HE := Lib.hid hE
  clear hE
  have c0 := B.out.box 0 _ rfl; have c1 := B.out.box 1 _ rfl; have c2 := B.out.box 2 _ rfl; have c3 := B.out.box 3 _ rfl; have c4 := B.out.box 4 _ rfl; have c5 := B.out.box 5 _ rfl; have c6 := B.out.box 6 _ rfl; have c7 := B.out.box 7 _ rfl; have c8 := B.out.box 8 _ rfl; have c9 := B.out.box 9 _ rfl; have c10 := B.out.box 10 _ rfl; have c11 := B.out.box 11 _ rfl; have c12 := B.out.box 12 _ rfl
  have v0 : World.cell? wr ⟨(w.heap.size + 1), 0, none⟩ = some (.slice ob (ofTr T).tins.length cb) := U.out 0 _ rfl; have v1 := U.out 1 _ rfl; have v2 := U.out 2 _ rfl; have v3 := U.out 3 _ rfl; have v4 := U.out 4 _ rfl
  by_cases hlt : j < 3
  ·have hjI : (j : Int) < 3 := by omega
   have vf := U.out.fade hlt
   rw [Uc.out j hlt] at vf
   have hn := Hn.out j hlt
   have hs := Hs.out j hlt
   have y0 := Y.out (j * 2) (.int .i64 (aimLo s j)) (by match j, hlt with | 0, _ => rfl | 1, _ => rfl | 2, _ => rfl)
   have y1 := Y.out (j * 2 + 1) (.int .i64 (aimHi s j)) (by match j, hlt with | 0, _ => rfl | 1, _ => rfl | 2, _ => rfl)
   have z0 := Z.out (j * 2) (.int .i64 (lowS s m j : Nat)) (by match j, hlt with | 0, _ => rfl | 1, _ => rfl | 2, _ => rfl)
   have z1 := Z.out (j * 2 + 1) (.int .i64 (highS s m j : Nat)) (by match j, hlt with | 0, _ => rfl | 1, _ => rfl | 2, _ => rfl)
   have r35 := Lib.hid (R35.out j hlt)
   have r36 := Lib.hid (R36.out j hlt)
   generalize left (s.old j) T.years (T.fade j) = A at *
   generalize sumT m T j = M at *
   generalize aimLo s j = a1 at *
   generalize aimHi s j = a2 at *
   generalize lowS s m j = b1 at *
   generalize highS s m j = b2 at *
   have n1 : ¬ (A : Int) < (a1 : Int) := by omega
   have n2 : ¬ (a2 : Int) < (A : Int) := by omega
   have n3 : ¬ (M : Int) < (b1 : Int) := by omega
   have n4 : ¬ (b2 : Int) < (M : Int) := by omega
   replace v1 : wr.cell? ⟨w.heap.size + 1, 1, none⟩ = some (.int .i64 (T.years : Nat)) := v1
   go_wp2_with fail
   refine wp_region_plan (.take 0 <| .take 1 <| .take 2 <| .take 3 <| .take 4 <| .take 5 <| .take 6 <| .take 7 <| .take 9 <| .take 10 <| .take 11 <| .only 8 <| .only 12 <| .take 13 <| .take 14 <| .done) (fun W => Ext wr W) mixed (by kernel_rfl) (by kernel_rfl) rfl (fun _ _ d _ _ h => by cases d <;> exact h) ((Ext.refl wr).drew) ?_
   repeat ((first | (refine plan_take (v := ?_) rfl rfl (fun W hW => ?_) ?_; rotate_left; (focus (have d0 := cell_ext hW c0; have d1 := cell_ext hW c1; have d2 := cell_ext hW c2; have d3 := cell_ext hW c3; have d4 := cell_ext hW c4; have d5 := cell_ext hW c5; have d6 := cell_ext hW c6; have d7 := cell_ext hW c7; have d8 := cell_ext hW c8; have d9 := cell_ext hW c9; have d10 := cell_ext hW c10; have d11 := cell_ext hW c11; have d12 := cell_ext hW c12; have u0 := cell_ext hW v0; have u1 := cell_ext hW v1; have u2 := cell_ext hW v2; have u3 := cell_ext hW v3; have u4 := cell_ext hW v4; have u5 := cell_ext hW vf; go_simp; first | exact rfl | (split <;> first | exact rfl | (exfalso; omega)) | done))) | refine plan_skip rfl rfl ?_); simp only [puts])
   refine plan_walk rfl ?_; intro K hK
   go_wp2_with (first | (go_at_call 35; refine (r35.out _).mono ?_; rintro e w5 ⟨rfl, hE5⟩))
   have X := Lib.hid ((Ext.refl wr).drew.trans hE5)
   refine hK _ _ X.out ?_
   clear hE5 hK
   repeat ((first | (refine plan_take (v := ?_) rfl rfl (fun W hW => ?_) ?_; rotate_left; (focus (have u0 := cell_ext hW v0; have u1 := cell_ext hW v1; have u2 := cell_ext hW v2; have u3 := cell_ext hW v3; have u4 := cell_ext hW v4; go_simp; first | exact rfl | (split <;> first | exact rfl | (exfalso; omega)) | done))) | refine plan_skip rfl rfl ?_); simp only [puts])
   refine plan_walk rfl ?_; intro K hK
   go_wp2_with (first | (go_at_call 36; refine (r36.out _ (B.out.next X.out)).mono ?_; rintro e w6 ⟨rfl, hE6⟩))
   replace X := Lib.hid (X.out.trans hE6)
   refine hK _ _ X.out ?_
   clear hE6 hK
   repeat ((first | (refine plan_take (v := ?_) rfl rfl (fun W hW => ?_) ?_; rotate_left; (focus (skip; go_simp; first | exact rfl | (split <;> first | exact rfl | (exfalso; omega)) | done))) | refine plan_skip rfl rfl ?_); simp only [puts])
   refine plan_done ?_
   have e0 := cell_ext X.out y0
   have e1 := cell_ext X.out y1
   have e2 := cell_ext X.out z0
   have e3 := cell_ext X.out z1
   clear y0 y1 z0 z1 c0 c1 c2 c3 c4 c5 c6 c7 c8 c9 c10 c11 c12 v0 v1 v2 v3 v4 vf hn hs
   go_wp2
   go_roundg (gk - 1)
   case measure => omega
   case rel => exact ⟨j + 1, by omega, by go_num, HE.out.trans X.out⟩
  ·obtain rfl : j = 3 := by omega
   have y0 := V.out 0 _ rfl
   have y1 := V.out 1 _ rfl
   clear HB1 HU1 HY1 HZ1 HV1 Y Z
   go_wp2_with (first | (go_at_call 22; refine (Rk.out _ B.out).mono ?_; rintro e w9 ⟨rfl, hE9⟩; replace B := Lib.hid (B.out.next hE9); (try clear c0 c1 c2 c3 c4 c5 c6 c7 c8 c9 c10 c11 c12); have c0 := B.out.box 0 _ rfl; have c1 := B.out.box 1 _ rfl; have c2 := B.out.box 2 _ rfl; have c3 := B.out.box 3 _ rfl; have c4 := B.out.box 4 _ rfl; have c5 := B.out.box 5 _ rfl; have c6 := B.out.box 6 _ rfl; have c7 := B.out.box 7 _ rfl; have c8 := B.out.box 8 _ rfl; have c9 := B.out.box 9 _ rfl; have c10 := B.out.box 10 _ rfl; have c11 := B.out.box 11 _ rfl; have c12 := B.out.box 12 _ rfl; clear hE9))
   go_ret
   exact ⟨rfl, B.out.ext⟩

theorem law5_3t {s : Sh} (g : Fine s) {m : List Nat} (hm : IsMix s m) {T : Tr} (hT : GoodT s T) (hq : wordOf s m = 3) (his : trueOf s m T = true) {ot ol ob : Option Addr} {cap cl cb : Nat} {w : World} (h : TinsAt w ot (ofSh s).tins) (hi : IntsAt w ol (upL m)) (ht : TrisAt w ob (ofTr T).tins) (k : Int) (hk : w.cell? ⟨1, 0, none⟩ = some (.int .i64 k)) :
  Calls Tryz.prog 5 #[sheetV (ofSh s) ot cap, .slice ol m.length cl, truthV (ofTr T) ob cb] w fun e w' => e = .returned (.bool true) ∧ Ext w w' := by
 have B := Lib.hid ((LB.start (cap := cap) h).alloc (.cells (truthC (ofTr T) ob cb) 32))
 have U := Lib.hid (show TruthBox ((w.alloc (.cells (sheetC (ofSh s) ot cap) 28)).alloc (.cells (truthC (ofTr T) ob cb) 32)) (w.heap.size + 1) (ofTr T) ob cb by
  have := TruthBox.new (w.alloc (.cells (sheetC (ofSh s) ot cap) 28)) (ofTr T) ob cb
  simpa only [World.size_alloc] using this)
 have R32 := Lib.hid (fun W (hW : LB (ofSh s) ot cap w W) => right_up g hm ot cap ol cl W hW.tins (hi.ext hW.ext))
 have R26 := Lib.hid (fun W (hW : LB (ofSh s) ot cap w W) => rTruth_any s g ot cap (ofTr T) ob cb W hW.tins (ht.ext hW.ext) (by have := hT.len; have := g.len2; simp [ofTr]; omega))
 simp only [truth_of hT] at R26
 have R33 := Lib.hid (fun W (hW : LB (ofSh s) ot cap w W) => sAim_ok s g ot cap W hW.tins)
 have R34 := Lib.hid (fun W (hW : LB (ofSh s) ot cap w W) => sSums_ok s g m hm ot cap ol cl W hW.tins (hi.ext hW.ext))
 have R28 := Lib.hid (fun W (hW : LB (ofSh s) ot cap w W) => sWord_ok s g m hm ot cap ol cl W hW.tins (hi.ext hW.ext))
 have R29 := Lib.hid (fun W (hW : LB (ofSh s) ot cap w W) => sYears_ok s g m hm ot cap ol cl W hW.tins (hi.ext hW.ext))
 have R23 := Lib.hid (fun W (hW : LB (ofSh s) ot cap w W) => sTrue_ok s g m hm T hT ot cap ol cl ob cb W hW.tins (hi.ext hW.ext) (ht.ext hW.ext))
 have R27 := Lib.hid (fun W (hW : LB (ofSh s) ot cap w W) => rTrue_any s g m hm T hT ot cap ol cl ob cb W (hi.ext hW.ext) (ht.ext hW.ext))
 have R36 := Lib.hid (fun p (hp : p < 3) W (hW : LB (ofSh s) ot cap w W) => rSum_any s g m hm T hT ol cl ob cb p hp W (hi.ext hW.ext) (ht.ext hW.ext))
 have R35 := Lib.hid (fun p (hp : p < 3) W => faded_any s g ot cap p T.years (T.fade p) hp (Nat.le_trans hT.y2 g.yhi) (Nat.le_trans (hT.f2 p hp) (g.fhi p hp)) W)
 have Rk := Lib.hid (fun (W : World) (hW : LB (ofSh s) ot cap w W) => known_any W k (cell_ext hW.ext hk))
 rw [hq] at R28
 rw [his] at R23 R27
 have Hn := Lib.hid (fun p (hp : p < 3) => (show aimLo s p ≤ left (s.old p) T.years (T.fade p) ∧ left (s.old p) T.years (T.fade p) ≤ aimHi s p from left_in hT hp))
 have Hs := Lib.hid (fun p (hp : p < 3) => low_sum hT hm.len hp)
 have htl : ¬ (6 : Int) < ((ofTr T).tins.length : Int) := by have := hT.len; have := g.len2; simp [ofTr]; omega
 have hY := surely_ends g hm (by have := word_surely.1 hq; simpa [surely] using this)
 rw [yearsV_some hY.2.2, hY.1, hY.2.1] at R29
 have R29 := Lib.hid (fun W (hW : LB (ofSh s) ot cap w W) => (show Calls Tryz.prog 29 #[sheetV (ofSh s) ot cap, .slice ol m.length cl] W fun e w' => e = .returned (.tuple #[spanV (ofSh s).ylo (ofSh s).yhi, .int .i64 0]) ∧ Ext W w' from R29.out W hW))
 have hy1 : (ofSh s).ylo ≤ (ofTr T).years := by have := hT.y1; simp only [ofSh, ofTr]; omega
 have hy2 : (ofTr T).years ≤ (ofSh s).yhi := by have := hT.y2; simp only [ofSh, ofTr]; omega
 clear hY
 clear g hm hT hq his h hi ht hk
 have Uc := Lib.hid (show ∀ p, p < 3 → (ofTr T).f p = (T.fade p : Nat) from fun p hp => ofTr_f T hp)
 go_enter Tryz.func5, Tryz.ntmps5
 go_wp2_with (first | (go_at_call 32; refine (R32.out _ B.out).mono ?_; rintro e w9 ⟨rfl, hE9⟩; replace B := Lib.hid (B.out.next hE9); (try clear c0 c1 c2 c3 c4 c5 c6 c7 c8 c9 c10 c11 c12); have c0 := B.out.box 0 _ rfl; have c1 := B.out.box 1 _ rfl; have c2 := B.out.box 2 _ rfl; have c3 := B.out.box 3 _ rfl; have c4 := B.out.box 4 _ rfl; have c5 := B.out.box 5 _ rfl; have c6 := B.out.box 6 _ rfl; have c7 := B.out.box 7 _ rfl; have c8 := B.out.box 8 _ rfl; have c9 := B.out.box 9 _ rfl; have c10 := B.out.box 10 _ rfl; have c11 := B.out.box 11 _ rfl; have c12 := B.out.box 12 _ rfl; replace U := Lib.hid (U.out.ext hE9); (try clear v0 v1 v2 v3 v4); have v0 : World.cell? w9 ⟨(w.heap.size + 1), 0, none⟩ = some (.slice ob (ofTr T).tins.length cb) := U.out 0 _ rfl; have v1 := U.out 1 _ rfl; have v2 := U.out 2 _ rfl; have v3 := U.out 3 _ rfl; have v4 := U.out 4 _ rfl; clear hE9) | (go_at_call 26; refine (R26.out _ B.out).mono ?_; rintro e w9 ⟨rfl, hE9⟩; replace B := Lib.hid (B.out.next hE9); (try clear c0 c1 c2 c3 c4 c5 c6 c7 c8 c9 c10 c11 c12); have c0 := B.out.box 0 _ rfl; have c1 := B.out.box 1 _ rfl; have c2 := B.out.box 2 _ rfl; have c3 := B.out.box 3 _ rfl; have c4 := B.out.box 4 _ rfl; have c5 := B.out.box 5 _ rfl; have c6 := B.out.box 6 _ rfl; have c7 := B.out.box 7 _ rfl; have c8 := B.out.box 8 _ rfl; have c9 := B.out.box 9 _ rfl; have c10 := B.out.box 10 _ rfl; have c11 := B.out.box 11 _ rfl; have c12 := B.out.box 12 _ rfl; replace U := Lib.hid (U.out.ext hE9); (try clear v0 v1 v2 v3 v4); have v0 : World.cell? w9 ⟨(w.heap.size + 1), 0, none⟩ = some (.slice ob (ofTr T).tins.length cb) := U.out 0 _ rfl; have v1 := U.out 1 _ rfl; have v2 := U.out 2 _ rfl; have v3 := U.out 3 _ rfl; have v4 := U.out 4 _ rfl; clear hE9) | (go_at_call 33; refine (R33.out _ B.out).mono ?_; rintro e w9 ⟨rfl, hE9⟩; replace B := Lib.hid (B.out.next hE9); (try clear c0 c1 c2 c3 c4 c5 c6 c7 c8 c9 c10 c11 c12); have c0 := B.out.box 0 _ rfl; have c1 := B.out.box 1 _ rfl; have c2 := B.out.box 2 _ rfl; have c3 := B.out.box 3 _ rfl; have c4 := B.out.box 4 _ rfl; have c5 := B.out.box 5 _ rfl; have c6 := B.out.box 6 _ rfl; have c7 := B.out.box 7 _ rfl; have c8 := B.out.box 8 _ rfl; have c9 := B.out.box 9 _ rfl; have c10 := B.out.box 10 _ rfl; have c11 := B.out.box 11 _ rfl; have c12 := B.out.box 12 _ rfl; replace U := Lib.hid (U.out.ext hE9); (try clear v0 v1 v2 v3 v4); have v0 : World.cell? w9 ⟨(w.heap.size + 1), 0, none⟩ = some (.slice ob (ofTr T).tins.length cb) := U.out 0 _ rfl; have v1 := U.out 1 _ rfl; have v2 := U.out 2 _ rfl; have v3 := U.out 3 _ rfl; have v4 := U.out 4 _ rfl; have hltA := World.block_lt_of_cell? _ _ c0; have hneA := Nat.ne_of_lt hltA; simp only at hltA hneA; replace U := Lib.hid (U.out.ext ((Ext.refl w9).alloc (.cells #[.int .i64 (aimLo s 0), .int .i64 (aimHi s 0), .int .i64 (aimLo s 1), .int .i64 (aimHi s 1), .int .i64 (aimLo s 2), .int .i64 (aimHi s 2)] 25))); replace B := Lib.hid (B.out.alloc (.cells #[.int .i64 (aimLo s 0), .int .i64 (aimHi s 0), .int .i64 (aimLo s 1), .int .i64 (aimHi s 1), .int .i64 (aimLo s 2), .int .i64 (aimHi s 2)] 25)); have Y := Lib.hid (VB.new w9 [.int .i64 (aimLo s 0), .int .i64 (aimHi s 0), .int .i64 (aimLo s 1), .int .i64 (aimHi s 1), .int .i64 (aimLo s 2), .int .i64 (aimHi s 2)] 25); clear hE9) | (go_at_call 34; refine (R34.out _ B.out).mono ?_; rintro e w9 ⟨rfl, hE9⟩; replace B := Lib.hid (B.out.next hE9); (try clear c0 c1 c2 c3 c4 c5 c6 c7 c8 c9 c10 c11 c12); have c0 := B.out.box 0 _ rfl; have c1 := B.out.box 1 _ rfl; have c2 := B.out.box 2 _ rfl; have c3 := B.out.box 3 _ rfl; have c4 := B.out.box 4 _ rfl; have c5 := B.out.box 5 _ rfl; have c6 := B.out.box 6 _ rfl; have c7 := B.out.box 7 _ rfl; have c8 := B.out.box 8 _ rfl; have c9 := B.out.box 9 _ rfl; have c10 := B.out.box 10 _ rfl; have c11 := B.out.box 11 _ rfl; have c12 := B.out.box 12 _ rfl; replace U := Lib.hid (U.out.ext hE9); (try clear v0 v1 v2 v3 v4); have v0 : World.cell? w9 ⟨(w.heap.size + 1), 0, none⟩ = some (.slice ob (ofTr T).tins.length cb) := U.out 0 _ rfl; have v1 := U.out 1 _ rfl; have v2 := U.out 2 _ rfl; have v3 := U.out 3 _ rfl; have v4 := U.out 4 _ rfl; replace Y := Lib.hid (Y.out.ext hE9); have hltA := World.block_lt_of_cell? _ _ c0; have hneA := Nat.ne_of_lt hltA; simp only at hltA hneA; replace U := Lib.hid (U.out.ext ((Ext.refl w9).alloc (.cells #[.int .i64 (lowS s m 0 : Nat), .int .i64 (highS s m 0 : Nat), .int .i64 (lowS s m 1 : Nat), .int .i64 (highS s m 1 : Nat), .int .i64 (lowS s m 2 : Nat), .int .i64 (highS s m 2 : Nat)] 25))); replace Y := Lib.hid (Y.out.ext ((Ext.refl w9).alloc (.cells #[.int .i64 (lowS s m 0 : Nat), .int .i64 (highS s m 0 : Nat), .int .i64 (lowS s m 1 : Nat), .int .i64 (highS s m 1 : Nat), .int .i64 (lowS s m 2 : Nat), .int .i64 (highS s m 2 : Nat)] 25))); replace B := Lib.hid (B.out.alloc (.cells #[.int .i64 (lowS s m 0 : Nat), .int .i64 (highS s m 0 : Nat), .int .i64 (lowS s m 1 : Nat), .int .i64 (highS s m 1 : Nat), .int .i64 (lowS s m 2 : Nat), .int .i64 (highS s m 2 : Nat)] 25)); have Z := Lib.hid (VB.new w9 [.int .i64 (lowS s m 0 : Nat), .int .i64 (highS s m 0 : Nat), .int .i64 (lowS s m 1 : Nat), .int .i64 (highS s m 1 : Nat), .int .i64 (lowS s m 2 : Nat), .int .i64 (highS s m 2 : Nat)] 25); clear hE9) | (go_at_call 28; refine (R28.out _ B.out).mono ?_; rintro e w9 ⟨rfl, hE9⟩; replace B := Lib.hid (B.out.next hE9); (try clear c0 c1 c2 c3 c4 c5 c6 c7 c8 c9 c10 c11 c12); have c0 := B.out.box 0 _ rfl; have c1 := B.out.box 1 _ rfl; have c2 := B.out.box 2 _ rfl; have c3 := B.out.box 3 _ rfl; have c4 := B.out.box 4 _ rfl; have c5 := B.out.box 5 _ rfl; have c6 := B.out.box 6 _ rfl; have c7 := B.out.box 7 _ rfl; have c8 := B.out.box 8 _ rfl; have c9 := B.out.box 9 _ rfl; have c10 := B.out.box 10 _ rfl; have c11 := B.out.box 11 _ rfl; have c12 := B.out.box 12 _ rfl; replace U := Lib.hid (U.out.ext hE9); (try clear v0 v1 v2 v3 v4); have v0 : World.cell? w9 ⟨(w.heap.size + 1), 0, none⟩ = some (.slice ob (ofTr T).tins.length cb) := U.out 0 _ rfl; have v1 := U.out 1 _ rfl; have v2 := U.out 2 _ rfl; have v3 := U.out 3 _ rfl; have v4 := U.out 4 _ rfl; replace Y := Lib.hid (Y.out.ext hE9); replace Z := Lib.hid (Z.out.ext hE9); clear hE9) | (go_at_call 29; refine (R29.out _ B.out).mono ?_; rintro e w9 ⟨rfl, hE9⟩; replace B := Lib.hid (B.out.next hE9); (try clear c0 c1 c2 c3 c4 c5 c6 c7 c8 c9 c10 c11 c12); have c0 := B.out.box 0 _ rfl; have c1 := B.out.box 1 _ rfl; have c2 := B.out.box 2 _ rfl; have c3 := B.out.box 3 _ rfl; have c4 := B.out.box 4 _ rfl; have c5 := B.out.box 5 _ rfl; have c6 := B.out.box 6 _ rfl; have c7 := B.out.box 7 _ rfl; have c8 := B.out.box 8 _ rfl; have c9 := B.out.box 9 _ rfl; have c10 := B.out.box 10 _ rfl; have c11 := B.out.box 11 _ rfl; have c12 := B.out.box 12 _ rfl; replace U := Lib.hid (U.out.ext hE9); (try clear v0 v1 v2 v3 v4); have v0 : World.cell? w9 ⟨(w.heap.size + 1), 0, none⟩ = some (.slice ob (ofTr T).tins.length cb) := U.out 0 _ rfl; have v1 := U.out 1 _ rfl; have v2 := U.out 2 _ rfl; have v3 := U.out 3 _ rfl; have v4 := U.out 4 _ rfl; replace Y := Lib.hid (Y.out.ext hE9); replace Z := Lib.hid (Z.out.ext hE9); have hltA := World.block_lt_of_cell? _ _ c0; have hneA := Nat.ne_of_lt hltA; simp only at hltA hneA; have hltU := World.block_lt_of_cell? _ _ v0; have hneU := Nat.ne_of_lt hltU; simp only at hltU hneU; replace U := Lib.hid (U.out.ext ((Ext.refl w9).alloc (.cells #[.int .i64 (ofSh s).ylo, .int .i64 (ofSh s).yhi] 24))); replace Y := Lib.hid (Y.out.ext ((Ext.refl w9).alloc (.cells #[.int .i64 (ofSh s).ylo, .int .i64 (ofSh s).yhi] 24))); replace Z := Lib.hid (Z.out.ext ((Ext.refl w9).alloc (.cells #[.int .i64 (ofSh s).ylo, .int .i64 (ofSh s).yhi] 24))); replace B := Lib.hid (B.out.alloc (.cells #[.int .i64 (ofSh s).ylo, .int .i64 (ofSh s).yhi] 24)); have V := Lib.hid (VB.new w9 [.int .i64 (ofSh s).ylo, .int .i64 (ofSh s).yhi] 24); clear hE9) | (go_at_call 23; refine (R23.out _ B.out).mono ?_; rintro e w9 ⟨rfl, hE9⟩; replace B := Lib.hid (B.out.next hE9); (try clear c0 c1 c2 c3 c4 c5 c6 c7 c8 c9 c10 c11 c12); have c0 := B.out.box 0 _ rfl; have c1 := B.out.box 1 _ rfl; have c2 := B.out.box 2 _ rfl; have c3 := B.out.box 3 _ rfl; have c4 := B.out.box 4 _ rfl; have c5 := B.out.box 5 _ rfl; have c6 := B.out.box 6 _ rfl; have c7 := B.out.box 7 _ rfl; have c8 := B.out.box 8 _ rfl; have c9 := B.out.box 9 _ rfl; have c10 := B.out.box 10 _ rfl; have c11 := B.out.box 11 _ rfl; have c12 := B.out.box 12 _ rfl; replace U := Lib.hid (U.out.ext hE9); (try clear v0 v1 v2 v3 v4); have v0 : World.cell? w9 ⟨(w.heap.size + 1), 0, none⟩ = some (.slice ob (ofTr T).tins.length cb) := U.out 0 _ rfl; have v1 := U.out 1 _ rfl; have v2 := U.out 2 _ rfl; have v3 := U.out 3 _ rfl; have v4 := U.out 4 _ rfl; replace Y := Lib.hid (Y.out.ext hE9); replace Z := Lib.hid (Z.out.ext hE9); replace V := Lib.hid (V.out.ext hE9); clear hE9) | (go_at_call 27; refine (R27.out _ B.out).mono ?_; rintro e w9 ⟨rfl, hE9⟩; replace B := Lib.hid (B.out.next hE9); (try clear c0 c1 c2 c3 c4 c5 c6 c7 c8 c9 c10 c11 c12); have c0 := B.out.box 0 _ rfl; have c1 := B.out.box 1 _ rfl; have c2 := B.out.box 2 _ rfl; have c3 := B.out.box 3 _ rfl; have c4 := B.out.box 4 _ rfl; have c5 := B.out.box 5 _ rfl; have c6 := B.out.box 6 _ rfl; have c7 := B.out.box 7 _ rfl; have c8 := B.out.box 8 _ rfl; have c9 := B.out.box 9 _ rfl; have c10 := B.out.box 10 _ rfl; have c11 := B.out.box 11 _ rfl; have c12 := B.out.box 12 _ rfl; replace U := Lib.hid (U.out.ext hE9); (try clear v0 v1 v2 v3 v4); have v0 : World.cell? w9 ⟨(w.heap.size + 1), 0, none⟩ = some (.slice ob (ofTr T).tins.length cb) := U.out 0 _ rfl; have v1 := U.out 1 _ rfl; have v2 := U.out 2 _ rfl; have v3 := U.out 3 _ rfl; have v4 := U.out 4 _ rfl; replace Y := Lib.hid (Y.out.ext hE9); replace Z := Lib.hid (Z.out.ext hE9); replace V := Lib.hid (V.out.ext hE9); clear hE9))
 have hB := B.out
 have hU := U.out
 have hY := Y.out
 have hZ := Z.out
 have hV := V.out
 (try clear c0 c1 c2 c3 c4 c5 c6 c7 c8 c9 c10 c11 c12 v0 v1 v2 v3 v4)
 obtain ⟨w1, hw1⟩ : ∃ W, W = w9 := ⟨_, rfl⟩
 rw [← hw1] at hB hU hY hZ hV ⊢
 have HB1 := Lib.hid hB
 have HU1 := Lib.hid hU
 have HY1 := Lib.hid hY
 have HZ1 := Lib.hid hZ
 have HV1 := Lib.hid hV
 clear hB hU hY hZ hV hw1 B U Y Z V
 go_loopg [17, 18, 19] 3 (fun g i a b wr => ∃ j : Nat, j + g = 3 ∧ i = .int .i64 j ∧ Ext w1 wr)
 case atStart => exact ⟨0, by omega, rfl, Ext.refl _⟩
 case round =>
  obtain ⟨j, hj, rfl, hE⟩ := hrel
  have B := Lib.hid (HB1.out.next hE)
  have U := Lib.hid (HU1.out.ext hE)
  have Y := Lib.hid (HY1.out.ext hE)
  have Z := Lib.hid (HZ1.out.ext hE)
  have V := Lib.hid (HV1.out.ext hE)
  have HE := Lib.hid hE
  clear hE
  have c0 := B.out.box 0 _ rfl; have c1 := B.out.box 1 _ rfl; have c2 := B.out.box 2 _ rfl; have c3 := B.out.box 3 _ rfl; have c4 := B.out.box 4 _ rfl; have c5 := B.out.box 5 _ rfl; have c6 := B.out.box 6 _ rfl; have c7 := B.out.box 7 _ rfl; have c8 := B.out.box 8 _ rfl; have c9 := B.out.box 9 _ rfl; have c10 := B.out.box 10 _ rfl; have c11 := B.out.box 11 _ rfl; have c12 := B.out.box 12 _ rfl
  have v0 : World.cell? wr ⟨(w.heap.size + 1), 0, none⟩ = some (.slice ob (ofTr T).tins.length cb) := U.out 0 _ rfl; have v1 := U.out 1 _ rfl; have v2 := U.out 2 _ rfl; have v3 := U.out 3 _ rfl; have v4 := U.out 4 _ rfl
  by_cases hlt : j < 3
  ·have hjI : (j : Int) < 3 := by omega
   have vf := U.out.fade hlt
   rw [Uc.out j hlt] at vf
   have hn := Hn.out j hlt
   have hs := Hs.out j hlt
   have y0 := Y.out (j * 2) (.int .i64 (aimLo s j)) (by match j, hlt with | 0, _ => rfl | 1, _ => rfl | 2, _ => rfl)
   have y1 := Y.out (j * 2 + 1) (.int .i64 (aimHi s j)) (by match j, hlt with | 0, _ => rfl | 1, _ => rfl | 2, _ => rfl)
   have z0 := Z.out (j * 2) (.int .i64 (lowS s m j : Nat)) (by match j, hlt with | 0, _ => rfl | 1, _ => rfl | 2, _ => rfl)
   have z1 := Z.out (j * 2 + 1) (.int .i64 (highS s m j : Nat)) (by match j, hlt with | 0, _ => rfl | 1, _ => rfl | 2, _ => rfl)
   have r35 := Lib.hid (R35.out j hlt)
   have r36 := Lib.hid (R36.out j hlt)
   generalize left (s.old j) T.years (T.fade j) = A at *
   generalize sumT m T j = M at *
   generalize aimLo s j = a1 at *
   generalize aimHi s j = a2 at *
   generalize lowS s m j = b1 at *
   generalize highS s m j = b2 at *
   have n1 : ¬ (A : Int) < (a1 : Int) := by omega
   have n2 : ¬ (a2 : Int) < (A : Int) := by omega
   have n3 : ¬ (M : Int) < (b1 : Int) := by omega
   have n4 : ¬ (b2 : Int) < (M : Int) := by omega
   replace v1 : wr.cell? ⟨w.heap.size + 1, 1, none⟩ = some (.int .i64 (T.years : Nat)) := v1
   go_wp2_with fail
   refine wp_region_plan (.take 0 <| .take 1 <| .take 2 <| .take 3 <| .take 4 <| .take 5 <| .take 6 <| .take 7 <| .take 9 <| .take 10 <| .take 11 <| .only 8 <| .only 12 <| .take 13 <| .take 14 <| .done) (fun W => Ext wr W) mixed (by kernel_rfl) (by kernel_rfl) rfl (fun _ _ d _ _ h => by cases d <;> exact h) ((Ext.refl wr).drew) ?_
   repeat ((first | (refine plan_take (v := ?_) rfl rfl (fun W hW => ?_) ?_; rotate_left; (focus (have d0 := cell_ext hW c0; have d1 := cell_ext hW c1; have d2 := cell_ext hW c2; have d3 := cell_ext hW c3; have d4 := cell_ext hW c4; have d5 := cell_ext hW c5; have d6 := cell_ext hW c6; have d7 := cell_ext hW c7; have d8 := cell_ext hW c8; have d9 := cell_ext hW c9; have d10 := cell_ext hW c10; have d11 := cell_ext hW c11; have d12 := cell_ext hW c12; have u0 := cell_ext hW v0; have u1 := cell_ext hW v1; have u2 := cell_ext hW v2; have u3 := cell_ext hW v3; have u4 := cell_ext hW v4; have u5 := cell_ext hW vf; go_simp; first | exact rfl | (split <;> first | exact rfl | (exfalso; omega)) | done))) | refine plan_skip rfl rfl ?_); simp only [puts])
   refine plan_walk rfl ?_; intro K hK
   go_wp2_with (first | (go_at_call 35; refine (r35.out _).mono ?_; rintro e w5 ⟨rfl, hE5⟩))
   have X := Lib.hid ((Ext.refl wr).drew.trans hE5)
   refine hK _ _ X.out ?_
   clear hE5 hK
   repeat ((first | (refine plan_take (v := ?_) rfl rfl (fun W hW => ?_) ?_; rotate_left; (focus (have u0 := cell_ext hW v0; have u1 := cell_ext hW v1; have u2 := cell_ext hW v2; have u3 := cell_ext hW v3; have u4 := cell_ext hW v4; go_simp; first | exact rfl | (split <;> first | exact rfl | (exfalso; omega)) | done))) | refine plan_skip rfl rfl ?_); simp only [puts])
   refine plan_walk rfl ?_; intro K hK
   go_wp2_with (first | (go_at_call 36; refine (r36.out _ (B.out.next X.out)).mono ?_; rintro e w6 ⟨rfl, hE6⟩))
   replace X := Lib.hid (X.out.trans hE6)
   refine hK _ _ X.out ?_
   clear hE6 hK
   repeat ((first | (refine plan_take (v := ?_) rfl rfl (fun W hW => ?_) ?_; rotate_left; (focus (skip; go_simp; first | exact rfl | (split <;> first | exact rfl | (exfalso; omega)) | done))) | refine plan_skip rfl rfl ?_); simp only [puts])
   refine plan_done ?_
   have e0 := cell_ext X.out y0
   have e1 := cell_ext X.out y1
   have e2 := cell_ext X.out z0
   have e3 := cell_ext X.out z1
   clear y0 y1 z0 z1 c0 c1 c2 c3 c4 c5 c6 c7 c8 c9 c10 c11 c12 v0 v1 v2 v3 v4 vf hn hs
   go_wp2
   go_roundg (gk - 1)
   case measure => omega
   case rel => exact ⟨j + 1, by omega, by go_num, HE.out.trans X.out⟩
  ·obtain rfl : j = 3 := by omega
   have y0 := V.out 0 _ rfl
   have y1 := V.out 1 _ rfl
   clear HB1 HU1 HY1 HZ1 HV1 Y Z
   go_wp2_with (first | (go_at_call 22; refine (Rk.out _ B.out).mono ?_; rintro e w9 ⟨rfl, hE9⟩; replace B := Lib.hid (B.out.next hE9); (try clear c0 c1 c2 c3 c4 c5 c6 c7 c8 c9 c10 c11 c12); have c0 := B.out.box 0 _ rfl; have c1 := B.out.box 1 _ rfl; have c2 := B.out.box 2 _ rfl; have c3 := B.out.box 3 _ rfl; have c4 := B.out.box 4 _ rfl; have c5 := B.out.box 5 _ rfl; have c6 := B.out.box 6 _ rfl; have c7 := B.out.box 7 _ rfl; have c8 := B.out.box 8 _ rfl; have c9 := B.out.box 9 _ rfl; have c10 := B.out.box 10 _ rfl; have c11 := B.out.box 11 _ rfl; have c12 := B.out.box 12 _ rfl; clear hE9))
   go_ret
   exact ⟨rfl, B.out.ext⟩

theorem law5 {S : SI} {l : List Int} {t : TI} {ot ol ob : Option Addr} {cap cl cb : Nat} {w : World} (h : SArg w S ot cap) (hl : LArg w l ol cl) (ht : UArg w t ob cb) (k : Int) (hk : w.cell? ⟨1, 0, none⟩ = some (.int .i64 k)) :
  Calls Tryz.prog 5 #[sheetV S ot cap, .slice ol l.length cl, truthV t ob cb] w fun e w' => e = .returned (.bool true) ∧ Ext w w' := by
 have B := Lib.hid ((LB.start (cap := cap) h.tins).alloc (.cells (truthC t ob cb) 32))
 have U := Lib.hid (show TruthBox ((w.alloc (.cells (sheetC S ot cap) 28)).alloc (.cells (truthC t ob cb) 32)) (w.heap.size + 1) t ob cb by
  have := TruthBox.new (w.alloc (.cells (sheetC S ot cap) 28)) t ob cb
  simpa only [World.size_alloc] using this)
 have R32 := Lib.hid (fun W (hW : LB S ot cap w W) => right_any S ot cap l ol cl W hW.tins h.small (hl.ints.ext hW.ext) hl.small)
 have Rk := Lib.hid (fun (W : World) (hW : LB S ot cap w W) => known_any W k (cell_ext hW.ext hk))
 cases hr : rightB S l
 ·rw [hr] at R32
  clear h hl ht hk hr
  go_enter Tryz.func5, Tryz.ntmps5
  go_wp2_with (first | (go_at_call 32; refine (R32.out _ B.out).mono ?_; rintro e w9 ⟨rfl, hE9⟩; replace B := Lib.hid (B.out.next hE9); (try clear c0 c1 c2 c3 c4 c5 c6 c7 c8 c9 c10 c11 c12); have c0 := B.out.box 0 _ rfl; have c1 := B.out.box 1 _ rfl; have c2 := B.out.box 2 _ rfl; have c3 := B.out.box 3 _ rfl; have c4 := B.out.box 4 _ rfl; have c5 := B.out.box 5 _ rfl; have c6 := B.out.box 6 _ rfl; have c7 := B.out.box 7 _ rfl; have c8 := B.out.box 8 _ rfl; have c9 := B.out.box 9 _ rfl; have c10 := B.out.box 10 _ rfl; have c11 := B.out.box 11 _ rfl; have c12 := B.out.box 12 _ rfl; clear hE9) | (go_at_call 22; refine (Rk.out _ B.out).mono ?_; rintro e w9 ⟨rfl, hE9⟩; replace B := Lib.hid (B.out.next hE9); (try clear c0 c1 c2 c3 c4 c5 c6 c7 c8 c9 c10 c11 c12); have c0 := B.out.box 0 _ rfl; have c1 := B.out.box 1 _ rfl; have c2 := B.out.box 2 _ rfl; have c3 := B.out.box 3 _ rfl; have c4 := B.out.box 4 _ rfl; have c5 := B.out.box 5 _ rfl; have c6 := B.out.box 6 _ rfl; have c7 := B.out.box 7 _ rfl; have c8 := B.out.box 8 _ rfl; have c9 := B.out.box 9 _ rfl; have c10 := B.out.box 10 _ rfl; have c11 := B.out.box 11 _ rfl; have c12 := B.out.box 12 _ rfl; clear hE9))
  go_ret
  exact ⟨rfl, B.out.ext⟩
 ·by_cases ht6 : t.tins.length ≤ 6
  ·have ht6I : ¬ (6 : Int) < (t.tins.length : Int) := by omega
   obtain ⟨s, m, rfl, g, rfl, hm⟩ := right_lift h hr
   have R26 := Lib.hid (fun W (hW : LB (ofSh s) ot cap w W) => rTruth_any s g ot cap t ob cb W hW.tins (ht.tris.ext hW.ext) ht.small)
   cases hu : truthB s t
   ·rw [hr, upL_length] at R32
    rw [hu] at R26
    rw [upL_length]
    clear h hl ht hk hr ht6 hu g hm
    go_enter Tryz.func5, Tryz.ntmps5
    go_wp2_with (first | (go_at_call 32; refine (R32.out _ B.out).mono ?_; rintro e w9 ⟨rfl, hE9⟩; replace B := Lib.hid (B.out.next hE9); (try clear c0 c1 c2 c3 c4 c5 c6 c7 c8 c9 c10 c11 c12); have c0 := B.out.box 0 _ rfl; have c1 := B.out.box 1 _ rfl; have c2 := B.out.box 2 _ rfl; have c3 := B.out.box 3 _ rfl; have c4 := B.out.box 4 _ rfl; have c5 := B.out.box 5 _ rfl; have c6 := B.out.box 6 _ rfl; have c7 := B.out.box 7 _ rfl; have c8 := B.out.box 8 _ rfl; have c9 := B.out.box 9 _ rfl; have c10 := B.out.box 10 _ rfl; have c11 := B.out.box 11 _ rfl; have c12 := B.out.box 12 _ rfl; replace U := Lib.hid (U.out.ext hE9); (try clear v0 v1 v2 v3 v4); have v0 : World.cell? w9 ⟨(w.heap.size + 1), 0, none⟩ = some (.slice ob t.tins.length cb) := U.out 0 _ rfl; have v1 := U.out 1 _ rfl; have v2 := U.out 2 _ rfl; have v3 := U.out 3 _ rfl; have v4 := U.out 4 _ rfl; clear hE9) | (go_at_call 26; refine (R26.out _ B.out).mono ?_; rintro e w9 ⟨rfl, hE9⟩; replace B := Lib.hid (B.out.next hE9); (try clear c0 c1 c2 c3 c4 c5 c6 c7 c8 c9 c10 c11 c12); have c0 := B.out.box 0 _ rfl; have c1 := B.out.box 1 _ rfl; have c2 := B.out.box 2 _ rfl; have c3 := B.out.box 3 _ rfl; have c4 := B.out.box 4 _ rfl; have c5 := B.out.box 5 _ rfl; have c6 := B.out.box 6 _ rfl; have c7 := B.out.box 7 _ rfl; have c8 := B.out.box 8 _ rfl; have c9 := B.out.box 9 _ rfl; have c10 := B.out.box 10 _ rfl; have c11 := B.out.box 11 _ rfl; have c12 := B.out.box 12 _ rfl; clear hE9) | (go_at_call 22; refine (Rk.out _ B.out).mono ?_; rintro e w9 ⟨rfl, hE9⟩; replace B := Lib.hid (B.out.next hE9); (try clear c0 c1 c2 c3 c4 c5 c6 c7 c8 c9 c10 c11 c12); have c0 := B.out.box 0 _ rfl; have c1 := B.out.box 1 _ rfl; have c2 := B.out.box 2 _ rfl; have c3 := B.out.box 3 _ rfl; have c4 := B.out.box 4 _ rfl; have c5 := B.out.box 5 _ rfl; have c6 := B.out.box 6 _ rfl; have c7 := B.out.box 7 _ rfl; have c8 := B.out.box 8 _ rfl; have c9 := B.out.box 9 _ rfl; have c10 := B.out.box 10 _ rfl; have c11 := B.out.box 11 _ rfl; have c12 := B.out.box 12 _ rfl; clear hE9))
    go_ret
    exact ⟨rfl, B.out.ext⟩
   ·obtain ⟨T, rfl, hT⟩ := truth_lift (tris_three ht.tris) hu
    rw [upL_length]
    have hin := word_in s m
    rcases (show wordOf s m = 1 ∨ wordOf s m = 2 ∨ wordOf s m = 3 by omega) with hq | hq | hq
    ·have hf : trueOf s m T = false := by
      cases hf : trueOf s m T with
      | false => rfl
      | true => have := true_year hm hT hf; rw [(Go.TintM.word_never g hm).1 hq] at this; cases this
     exact law5_1f g hm hT hq hf h.tins hl.ints ht.tris k hk
    ·cases hf : trueOf s m T with
     | false => exact law5_2f g hm hT hq hf h.tins hl.ints ht.tris k hk
     | true => exact law5_2t g hm hT hq hf h.tins hl.ints ht.tris k hk
    ·exact law5_3t g hm hT hq (surely_true g hm (by have := word_surely.1 hq; simpa [surely] using this) hT) h.tins hl.ints ht.tris k hk
  ·have ht6I : (6 : Int) < (t.tins.length : Int) := by omega
   rw [hr] at R32
   clear h hl ht hk hr ht6
   go_enter Tryz.func5, Tryz.ntmps5
   go_wp2_with (first | (go_at_call 32; refine (R32.out _ B.out).mono ?_; rintro e w9 ⟨rfl, hE9⟩; replace B := Lib.hid (B.out.next hE9); (try clear c0 c1 c2 c3 c4 c5 c6 c7 c8 c9 c10 c11 c12); have c0 := B.out.box 0 _ rfl; have c1 := B.out.box 1 _ rfl; have c2 := B.out.box 2 _ rfl; have c3 := B.out.box 3 _ rfl; have c4 := B.out.box 4 _ rfl; have c5 := B.out.box 5 _ rfl; have c6 := B.out.box 6 _ rfl; have c7 := B.out.box 7 _ rfl; have c8 := B.out.box 8 _ rfl; have c9 := B.out.box 9 _ rfl; have c10 := B.out.box 10 _ rfl; have c11 := B.out.box 11 _ rfl; have c12 := B.out.box 12 _ rfl; replace U := Lib.hid (U.out.ext hE9); (try clear v0 v1 v2 v3 v4); have v0 : World.cell? w9 ⟨(w.heap.size + 1), 0, none⟩ = some (.slice ob t.tins.length cb) := U.out 0 _ rfl; have v1 := U.out 1 _ rfl; have v2 := U.out 2 _ rfl; have v3 := U.out 3 _ rfl; have v4 := U.out 4 _ rfl; clear hE9) | (go_at_call 22; refine (Rk.out _ B.out).mono ?_; rintro e w9 ⟨rfl, hE9⟩; replace B := Lib.hid (B.out.next hE9); (try clear c0 c1 c2 c3 c4 c5 c6 c7 c8 c9 c10 c11 c12); have c0 := B.out.box 0 _ rfl; have c1 := B.out.box 1 _ rfl; have c2 := B.out.box 2 _ rfl; have c3 := B.out.box 3 _ rfl; have c4 := B.out.box 4 _ rfl; have c5 := B.out.box 5 _ rfl; have c6 := B.out.box 6 _ rfl; have c7 := B.out.box 7 _ rfl; have c8 := B.out.box 8 _ rfl; have c9 := B.out.box 9 _ rfl; have c10 := B.out.box 10 _ rfl; have c11 := B.out.box 11 _ rfl; have c12 := B.out.box 12 _ rfl; clear hE9))
   go_ret
   exact ⟨rfl, B.out.ext⟩

end Go.Proofs.YtjpekonfjihcoaaGreatDoor
