/- The walk of TintMore: it answers true. No condition. -/
import Derived.Test.YtjpekonfjihcoaaGreatDoorM33
import Derived.Test.YtjpekonfjihcoaaGreatDoorLRight
import Derived.Test.YtjpekonfjihcoaaGreatDoorMoreA
import Derived.Test.YtjpekonfjihcoaaGreatDoorM3
import Derived.Test.YtjpekonfjihcoaaGreatDoorM25
import Derived.Test.YtjpekonfjihcoaaGreatDoorM37
import Derived.Test.YtjpekonfjihcoaaGreatDoorM32
namespace Go.TintM
end Go.TintM
set_option maxRecDepth 100000
set_option maxHeartbeats 64000000
set_option linter.unusedVariables false
set_option linter.unusedSimpArgs false
namespace Go.Proofs.YtjpekonfjihcoaaGreatDoor
open Go.RowKit Go.My Go.TintM

theorem LB.of {S : SI} {ot : Option Addr} {cap : Nat} {w W W' : World} {b : Nat} (h0 : TinsAt w ot S.tins) (hE : Ext w W') (hb : LB S ot cap w W) (hB : Below b W W') (hl : w.heap.size < b) : LB S ot cap w W' :=
 ⟨hE, h0.ext hE, fun i v hv => cell_below hB hl (hb.box i v hv)⟩
theorem VB.below {W W' : World} {b B : Nat} {vs : List Value} (h : VB W b vs) (hB : Below B W W') (hl : b < B) : VB W' b vs := fun j v hv => cell_below hB hl (h j v hv)
theorem up_snoc0 (m : List Nat) : (upL m).map (Value.int .i64) ++ [.int .i64 0] = (upL (m ++ [0])).map (Value.int .i64) := by simp [upL]
theorem cell_bel {w w' : World} {B b i : Nat} {v : Value} (hB : Below B w w') (hb : b < B) (h : w.cell? ⟨b, i, none⟩ = some v) : w'.cell? ⟨b, i, none⟩ = some v := cell_below hB hb h
theorem rowsC_snoc (ts : List (List Int)) (t0 t1 t2 t3 t4 t5 : Int) : rowsC ts ++ [.int .i64 t0, .int .i64 t1, .int .i64 t2, .int .i64 t3, .int .i64 t4, .int .i64 t5] = rowsC (ts ++ [[t0, t1, t2, t3, t4, t5]]) := by simp [rowsC]
theorem six_snoc {ts : List (List Int)} (h : ∀ t ∈ ts, t.length = 6) (t0 t1 t2 t3 t4 t5 : Int) : ∀ t ∈ ts ++ [[t0, t1, t2, t3, t4, t5]], t.length = 6 := fun t ht => by
 rcases List.mem_append.1 ht with h1 | h1
 ·exact h t h1
 ·simp at h1; rw [h1]; rfl
theorem get_some {l : List Value} {i : Nat} (h : i < l.length) : ∃ u, l[i]? = some u := ⟨l[i], by simp [h]⟩
theorem min20 (x : Int) : (if x < 20 then x else 20) = min 20 x := by split <;> omega

theorem law16g {s : Sh} (g : Fine s) {m : List Nat} (hm : IsMix s m) {ii pp oo : Nat} (hii : ii < s.tins.length) (h3 : s.tins.length ≤ 3) (hpp : pp < 3) (hoo : oo ≤ 20) {sl sh fl fh yl yh t0 t1 t2 t3 t4 t5 : Int} {ot ol : Option Addr} {cap cl : Nat} {w : World} (h : TinsAt w ot (ofSh s).tins) (hi : LArg w (upL m) ol cl) (q : Int) (hq : w.cell? ⟨1, 0, none⟩ = some (.int .i64 q)) :
  Calls Tryz.prog 16 #[sheetV (ofSh s) ot cap, .slice ol m.length cl, .int .i64 (ii : Nat), .int .i64 (pp : Nat), .agg #[.int .i64 sl, .int .i64 sh], .agg #[.int .i64 fl, .int .i64 fh], .agg #[.int .i64 yl, .int .i64 yh], .int .i64 (oo : Nat), .agg #[.int .i64 t0, .int .i64 t1, .int .i64 t2, .int .i64 t3, .int .i64 t4, .int .i64 t5]] w fun e w' => e = .returned (.bool true) ∧ Ext w w' := by
 have R32 := Lib.hid (fun W (hW : LB (ofSh s) ot cap w W) => right_up g hm ot cap ol cl W hW.tins (hi.ints.ext hW.ext))
 have Rk := Lib.hid (fun (W : World) (hW : LB (ofSh s) ot cap w W) => known_any W q (cell_ext hW.ext hq))
 have R45 := Lib.hid (fun W (hW : LB (ofSh s) ot cap w W) => word45 s g m hm ot cap ol cl W hW.tins (hi.ints.ext hW.ext))
 have R40 := Lib.hid (fun W (hW : LB (ofSh s) ot cap w W) => sCount_any s g ot cap W hW.tins)
 have H := Lib.hid h
 have HI := Lib.hid hi
 have HG := Lib.hid g
 have HM0 := Lib.hid hm
 have h6 := tins_six h
 have htl := tins_len s
 obtain ⟨bS, oS, hoS, hbS, kS0, kS1⟩ := tins_pig h (i := ii) (p := pp) (by rw [htl]; exact hii) hpp
 have hgd : (ofSh s).tins.getD ii [] = upL (s.tins.getD ii []) := by simp [ofSh, List.getD, hii]
 have hup : ∀ k, (upL (s.tins.getD ii [])).getD k 0 = (((s.tins.getD ii []).getD k 0 : Nat) : Int) := fun k => by
  simp only [upL, List.getD_eq_getElem?_getD, List.getElem?_map]
  cases ((s.tins[ii]?).getD [])[k]? <;> rfl
 rw [hgd, hup] at kS0 kS1
 change w.cell? _ = some (.int .i64 (tlo (s.tins.getD ii []) pp : Nat)) at kS0
 change w.cell? _ = some (.int .i64 (thi (s.tins.getD ii []) pp : Nat)) at kS1
 have Hnar := Lib.hid (fun (x : Sh) (sl sh fl fh yl yh off : Int) (more : List Int) (h6 : more.length = 6) => more_narrow (x := x) (sl := sl) (sh := sh) (fl := fl) (fh := fh) (yl := yl) (yh := yh) (off := off) (more := more) g hii hpp h6)
 generalize tlo (s.tins.getD ii []) pp = A0 at *
 generalize thi (s.tins.getD ii []) pp = A1 at *
 have HoS := Lib.hid hoS
 clear hoS
 have hlen : (ofSh s).tins.length ≤ 3 := by rw [htl]; exact h3
 have hlen1 : 0 < (ofSh s).tins.length := by rw [htl]; have := g.len1; omega
 have hi0 : ¬ ((ii : Nat) : Int) < 0 := by omega
 have hi1 : ¬ (((ofSh s).tins.length : Nat) : Int) ≤ (ii : Int) := by rw [htl]; omega
 have hp0 : ¬ ((pp : Nat) : Int) < 0 := by omega
 have hp1 : ¬ (2 : Int) < ((pp : Nat) : Int) := by omega
 have ho0 : ¬ ((oo : Nat) : Int) < 0 := by omega
 have ho1 : ¬ (20 : Int) < ((oo : Nat) : Int) := by omega
 have hl4 : ¬ (4 : Int) ≤ (((ofSh s).tins.length : Nat) : Int) := by omega
 have hiI : ((ii : Nat) : Int) < (((ofSh s).tins.length : Nat) : Int) := by rw [htl]; omega
 have hpI : ((pp : Nat) : Int) < 3 := by omega
 have B := Lib.hid (((((LB.start (cap := cap) h).alloc (.cells #[.int .i64 sl, .int .i64 sh] 24)).alloc (.cells #[.int .i64 fl, .int .i64 fh] 24)).alloc (.cells #[.int .i64 yl, .int .i64 yh] 24)).alloc (.cells #[.int .i64 t0, .int .i64 t1, .int .i64 t2, .int .i64 t3, .int .i64 t4, .int .i64 t5] 82))
 have SP := Lib.hid (show VB (((((w.alloc (.cells (sheetC (ofSh s) ot cap) 28)).alloc (.cells #[.int .i64 sl, .int .i64 sh] 24)).alloc (.cells #[.int .i64 fl, .int .i64 fh] 24)).alloc (.cells #[.int .i64 yl, .int .i64 yh] 24)).alloc (.cells #[.int .i64 t0, .int .i64 t1, .int .i64 t2, .int .i64 t3, .int .i64 t4, .int .i64 t5] 82)) (w.heap.size + 1) [.int .i64 sl, .int .i64 sh] by
  have := ((((VB.new (w.alloc (.cells (sheetC (ofSh s) ot cap) 28)) [.int .i64 sl, .int .i64 sh] 24).ext ((Ext.refl _).alloc (.cells #[.int .i64 fl, .int .i64 fh] 24))).ext ((Ext.refl _).alloc (.cells #[.int .i64 yl, .int .i64 yh] 24))).ext ((Ext.refl _).alloc (.cells #[.int .i64 t0, .int .i64 t1, .int .i64 t2, .int .i64 t3, .int .i64 t4, .int .i64 t5] 82)))
  simpa only [World.size_alloc] using this)
 have FD := Lib.hid (show VB (((((w.alloc (.cells (sheetC (ofSh s) ot cap) 28)).alloc (.cells #[.int .i64 sl, .int .i64 sh] 24)).alloc (.cells #[.int .i64 fl, .int .i64 fh] 24)).alloc (.cells #[.int .i64 yl, .int .i64 yh] 24)).alloc (.cells #[.int .i64 t0, .int .i64 t1, .int .i64 t2, .int .i64 t3, .int .i64 t4, .int .i64 t5] 82)) (w.heap.size + 1 + 1) [.int .i64 fl, .int .i64 fh] by
  have := (((VB.new ((w.alloc (.cells (sheetC (ofSh s) ot cap) 28)).alloc (.cells #[.int .i64 sl, .int .i64 sh] 24)) [.int .i64 fl, .int .i64 fh] 24).ext ((Ext.refl _).alloc (.cells #[.int .i64 yl, .int .i64 yh] 24))).ext ((Ext.refl _).alloc (.cells #[.int .i64 t0, .int .i64 t1, .int .i64 t2, .int .i64 t3, .int .i64 t4, .int .i64 t5] 82)))
  simpa only [World.size_alloc] using this)
 have YR := Lib.hid (show VB (((((w.alloc (.cells (sheetC (ofSh s) ot cap) 28)).alloc (.cells #[.int .i64 sl, .int .i64 sh] 24)).alloc (.cells #[.int .i64 fl, .int .i64 fh] 24)).alloc (.cells #[.int .i64 yl, .int .i64 yh] 24)).alloc (.cells #[.int .i64 t0, .int .i64 t1, .int .i64 t2, .int .i64 t3, .int .i64 t4, .int .i64 t5] 82)) (w.heap.size + 1 + 1 + 1) [.int .i64 yl, .int .i64 yh] by
  have := ((VB.new (((w.alloc (.cells (sheetC (ofSh s) ot cap) 28)).alloc (.cells #[.int .i64 sl, .int .i64 sh] 24)).alloc (.cells #[.int .i64 fl, .int .i64 fh] 24)) [.int .i64 yl, .int .i64 yh] 24).ext ((Ext.refl _).alloc (.cells #[.int .i64 t0, .int .i64 t1, .int .i64 t2, .int .i64 t3, .int .i64 t4, .int .i64 t5] 82)))
  simpa only [World.size_alloc] using this)
 have MO := Lib.hid (show VB (((((w.alloc (.cells (sheetC (ofSh s) ot cap) 28)).alloc (.cells #[.int .i64 sl, .int .i64 sh] 24)).alloc (.cells #[.int .i64 fl, .int .i64 fh] 24)).alloc (.cells #[.int .i64 yl, .int .i64 yh] 24)).alloc (.cells #[.int .i64 t0, .int .i64 t1, .int .i64 t2, .int .i64 t3, .int .i64 t4, .int .i64 t5] 82)) (w.heap.size + 1 + 1 + 1 + 1) [.int .i64 t0, .int .i64 t1, .int .i64 t2, .int .i64 t3, .int .i64 t4, .int .i64 t5] by
  have := (VB.new ((((w.alloc (.cells (sheetC (ofSh s) ot cap) 28)).alloc (.cells #[.int .i64 sl, .int .i64 sh] 24)).alloc (.cells #[.int .i64 fl, .int .i64 fh] 24)).alloc (.cells #[.int .i64 yl, .int .i64 yh] 24)) [.int .i64 t0, .int .i64 t1, .int .i64 t2, .int .i64 t3, .int .i64 t4, .int .i64 t5] 82)
  simpa only [World.size_alloc] using this)
 have Htl := Lib.hid htl
 have Hl1 := Lib.hid hlen1
 have Hl3 := Lib.hid hlen
 have Hii := Lib.hid (show ii < (ofSh s).tins.length by rw [htl]; exact hii)
 have Hpp := Lib.hid hpp
 have Hoo := Lib.hid hoo
 have H6 := Lib.hid h6
 clear g hm h hi hq htl hgd hup h6 hlen1 hii h3 hpp hoo hlen
 go_enter Tryz.func16, Tryz.ntmps16
 go_wp2_with (first | (go_at_call 32; refine (R32.out _ B.out).mono ?_; rintro e w9 ⟨rfl, hE9⟩; replace B := Lib.hid (B.out.next hE9); (try clear c0 c1 c2 c3 c4 c5 c6 c7 c8 c9 c10 c11 c12); have c0 := B.out.box 0 _ rfl; have c1 := B.out.box 1 _ rfl; have c2 := B.out.box 2 _ rfl; have c3 := B.out.box 3 _ rfl; have c4 := B.out.box 4 _ rfl; have c5 := B.out.box 5 _ rfl; have c6 := B.out.box 6 _ rfl; have c7 := B.out.box 7 _ rfl; have c8 := B.out.box 8 _ rfl; have c9 := B.out.box 9 _ rfl; have c10 := B.out.box 10 _ rfl; have c11 := B.out.box 11 _ rfl; have c12 := B.out.box 12 _ rfl; replace SP := Lib.hid (SP.out.ext hE9); (try clear s0 s1); have s0 := SP.out 0 _ rfl; have s1 := SP.out 1 _ rfl; (try dsimp only at s0 s1); replace FD := Lib.hid (FD.out.ext hE9); (try clear f0 f1); have f0 := FD.out 0 _ rfl; have f1 := FD.out 1 _ rfl; (try dsimp only at f0 f1); replace YR := Lib.hid (YR.out.ext hE9); (try clear y0 y1); have y0 := YR.out 0 _ rfl; have y1 := YR.out 1 _ rfl; (try dsimp only at y0 y1); replace MO := Lib.hid (MO.out.ext hE9); (try clear m0 m1 m2 m3 m4 m5); have m0 := MO.out 0 _ rfl; have m1 := MO.out 1 _ rfl; have m2 := MO.out 2 _ rfl; have m3 := MO.out 3 _ rfl; have m4 := MO.out 4 _ rfl; have m5 := MO.out 5 _ rfl; (try dsimp only at m0 m1 m2 m3 m4 m5); have hot := HoS.out; have kk0 := cell_ext B.out.ext kS0; have kk1 := cell_ext B.out.ext kS1; clear hE9))
 clear hot kk0 kk1
 have hlM := World.block_lt_of_cell? _ _ m0
 simp only at hlM
 have hE3 := (Ext.refl w9).alloc (.cells #[.int .i64 (A0 : Nat), .int .i64 (A1 : Nat)] 24)
 have hC := VB.new w9 [.int .i64 (A0 : Nat), .int .i64 (A1 : Nat)] 24
 replace B := Lib.hid (B.out.next hE3); replace SP := Lib.hid (SP.out.ext hE3); replace FD := Lib.hid (FD.out.ext hE3); replace YR := Lib.hid (YR.out.ext hE3); replace MO := Lib.hid (MO.out.ext hE3)
 clear c0 c1 c2 c3 c4 c5 c6 c7 c8 c9 c10 c11 c12 s0 s1 f0 f1 y0 y1 m0 m1 m2 m3 m4 m5 hE3
 generalize w9.alloc (.cells #[.int .i64 (A0 : Nat), .int .i64 (A1 : Nat)] 24) = w3 at *
 generalize w9.heap.size = bc at *
 obtain ⟨F0, F1⟩ := box_fade B.out.box Hpp.out
 have c0 := B.out.box 0 _ rfl; have c1 := B.out.box 1 _ rfl; have c2 := B.out.box 2 _ rfl; have c3 := B.out.box 3 _ rfl; have c4 := B.out.box 4 _ rfl; have c5 := B.out.box 5 _ rfl; have c6 := B.out.box 6 _ rfl; have c7 := B.out.box 7 _ rfl; have c8 := B.out.box 8 _ rfl; have c9 := B.out.box 9 _ rfl; have c10 := B.out.box 10 _ rfl; have c11 := B.out.box 11 _ rfl; have c12 := B.out.box 12 _ rfl
 have s0 := SP.out 0 _ rfl; have s1 := SP.out 1 _ rfl; have f0 := FD.out 0 _ rfl; have f1 := FD.out 1 _ rfl; have y0 := YR.out 0 _ rfl; have y1 := YR.out 1 _ rfl
 have x0 := hC 0 _ rfl
 have x1 := hC 1 _ rfl
 clear hC
 by_cases n0 : sl < (A0 : Int)
 ·refine wp_region_plan (.take 0 <| .take 1 <| .take 2 <| .take 3 <| .take 4 <| .take 5 <| .take 6 <| .take 7 <| .take 8 <| .take 9 <| .take 10 <| .take 11 <| .take 12 <| .take 13 <| .take 14 <| .take 15 <| .take 16 <| .take 17 <| .take 18 <| .take 19 <| .take 20 <| .take 21 <| .take 22 <| .take 23 <| .take 24 <| .take 25 <| .take 26 <| .take 27 <| .take 28 <| .take 29 <| .take 30 <| .take 31 <| .take 32 <| .take 33 <| .take 34 <| .take 35 <| .take 36 <| .take 37 <| .take 38 <| .take 39 <| .take 40 <| .take 41 <| .take 42 <| .take 43 <| .take 44 <| .take 45 <| .take 46 <| .take 47 <| .done) (fun W => Ext w3 W) mixed (by kernel_rfl) (by kernel_rfl) rfl (fun _ _ d _ _ h => by cases d <;> exact h) ((Ext.refl w3).drew) ?_
  repeat ((first | (refine plan_take (v := ?_) rfl rfl (fun W hW => ?_) ?_; rotate_left; (focus (have a0 := cell_ext hW s0; have a1 := cell_ext hW s1; have a2 := cell_ext hW x0; have a3 := cell_ext hW x1; have a4 := cell_ext hW f0; have a5 := cell_ext hW f1; have b0 := cell_ext hW F0; have b1 := cell_ext hW F1; have b2 := cell_ext hW c9; have b3 := cell_ext hW c10; have b4 := cell_ext hW y0; have b5 := cell_ext hW y1; go_simp; first | exact rfl | (split <;> first | exact rfl | (exfalso; omega)) | done))) | refine plan_skip rfl rfl ?_); simp only [puts])
  refine plan_done ?_
  replace B := Lib.hid (B.out.next (Ext.refl w3).drew)
  clear c0 c1 c2 c3 c4 c5 c6 c7 c8 c9 c10 c11 c12 s0 s1 f0 f1 y0 y1 F0 F1 x0 x1
  generalize w3.drew = w4 at *
  go_wp2_with (first | (go_at_call 22; refine (Rk.out _ B.out).mono ?_; rintro e w9 ⟨rfl, hE9⟩; replace B := Lib.hid (B.out.next hE9); (try clear c0 c1 c2 c3 c4 c5 c6 c7 c8 c9 c10 c11 c12); have c0 := B.out.box 0 _ rfl; have c1 := B.out.box 1 _ rfl; have c2 := B.out.box 2 _ rfl; have c3 := B.out.box 3 _ rfl; have c4 := B.out.box 4 _ rfl; have c5 := B.out.box 5 _ rfl; have c6 := B.out.box 6 _ rfl; have c7 := B.out.box 7 _ rfl; have c8 := B.out.box 8 _ rfl; have c9 := B.out.box 9 _ rfl; have c10 := B.out.box 10 _ rfl; have c11 := B.out.box 11 _ rfl; have c12 := B.out.box 12 _ rfl; clear hE9))
  go_ret
  exact ⟨rfl, B.out.ext⟩
 ·by_cases n1 : (A1 : Int) < sh
  ·refine wp_region_plan (.take 0 <| .take 1 <| .take 2 <| .take 3 <| .take 4 <| .take 5 <| .take 6 <| .take 7 <| .take 8 <| .take 9 <| .take 10 <| .take 11 <| .take 12 <| .take 13 <| .take 14 <| .take 15 <| .take 16 <| .take 17 <| .take 18 <| .take 19 <| .take 20 <| .take 21 <| .take 22 <| .take 23 <| .take 24 <| .take 25 <| .take 26 <| .take 27 <| .take 28 <| .take 29 <| .take 30 <| .take 31 <| .take 32 <| .take 33 <| .take 34 <| .take 35 <| .take 36 <| .take 37 <| .take 38 <| .take 39 <| .take 40 <| .take 41 <| .take 42 <| .take 43 <| .take 44 <| .take 45 <| .take 46 <| .take 47 <| .done) (fun W => Ext w3 W) mixed (by kernel_rfl) (by kernel_rfl) rfl (fun _ _ d _ _ h => by cases d <;> exact h) ((Ext.refl w3).drew) ?_
   repeat ((first | (refine plan_take (v := ?_) rfl rfl (fun W hW => ?_) ?_; rotate_left; (focus (have a0 := cell_ext hW s0; have a1 := cell_ext hW s1; have a2 := cell_ext hW x0; have a3 := cell_ext hW x1; have a4 := cell_ext hW f0; have a5 := cell_ext hW f1; have b0 := cell_ext hW F0; have b1 := cell_ext hW F1; have b2 := cell_ext hW c9; have b3 := cell_ext hW c10; have b4 := cell_ext hW y0; have b5 := cell_ext hW y1; go_simp; first | exact rfl | (split <;> first | exact rfl | (exfalso; omega)) | done))) | refine plan_skip rfl rfl ?_); simp only [puts])
   refine plan_done ?_
   replace B := Lib.hid (B.out.next (Ext.refl w3).drew)
   clear c0 c1 c2 c3 c4 c5 c6 c7 c8 c9 c10 c11 c12 s0 s1 f0 f1 y0 y1 F0 F1 x0 x1
   generalize w3.drew = w4 at *
   go_wp2_with (first | (go_at_call 22; refine (Rk.out _ B.out).mono ?_; rintro e w9 ⟨rfl, hE9⟩; replace B := Lib.hid (B.out.next hE9); (try clear c0 c1 c2 c3 c4 c5 c6 c7 c8 c9 c10 c11 c12); have c0 := B.out.box 0 _ rfl; have c1 := B.out.box 1 _ rfl; have c2 := B.out.box 2 _ rfl; have c3 := B.out.box 3 _ rfl; have c4 := B.out.box 4 _ rfl; have c5 := B.out.box 5 _ rfl; have c6 := B.out.box 6 _ rfl; have c7 := B.out.box 7 _ rfl; have c8 := B.out.box 8 _ rfl; have c9 := B.out.box 9 _ rfl; have c10 := B.out.box 10 _ rfl; have c11 := B.out.box 11 _ rfl; have c12 := B.out.box 12 _ rfl; clear hE9))
   go_ret
   exact ⟨rfl, B.out.ext⟩
  ·by_cases n2 : fl < (s.flo pp : Int)
   ·refine wp_region_plan (.take 0 <| .take 1 <| .take 2 <| .take 3 <| .take 4 <| .take 5 <| .take 6 <| .take 7 <| .take 8 <| .take 9 <| .take 10 <| .take 11 <| .take 12 <| .take 13 <| .take 14 <| .take 15 <| .take 16 <| .take 17 <| .take 18 <| .take 19 <| .take 20 <| .take 21 <| .take 22 <| .take 23 <| .take 24 <| .take 25 <| .take 26 <| .take 27 <| .take 28 <| .take 29 <| .take 30 <| .take 31 <| .take 32 <| .take 33 <| .take 34 <| .take 35 <| .take 36 <| .take 37 <| .take 38 <| .take 39 <| .take 40 <| .take 41 <| .take 42 <| .take 43 <| .take 44 <| .take 45 <| .take 46 <| .take 47 <| .done) (fun W => Ext w3 W) mixed (by kernel_rfl) (by kernel_rfl) rfl (fun _ _ d _ _ h => by cases d <;> exact h) ((Ext.refl w3).drew) ?_
    repeat ((first | (refine plan_take (v := ?_) rfl rfl (fun W hW => ?_) ?_; rotate_left; (focus (have a0 := cell_ext hW s0; have a1 := cell_ext hW s1; have a2 := cell_ext hW x0; have a3 := cell_ext hW x1; have a4 := cell_ext hW f0; have a5 := cell_ext hW f1; have b0 := cell_ext hW F0; have b1 := cell_ext hW F1; have b2 := cell_ext hW c9; have b3 := cell_ext hW c10; have b4 := cell_ext hW y0; have b5 := cell_ext hW y1; go_simp; first | exact rfl | (split <;> first | exact rfl | (exfalso; omega)) | done))) | refine plan_skip rfl rfl ?_); simp only [puts])
    refine plan_done ?_
    replace B := Lib.hid (B.out.next (Ext.refl w3).drew)
    clear c0 c1 c2 c3 c4 c5 c6 c7 c8 c9 c10 c11 c12 s0 s1 f0 f1 y0 y1 F0 F1 x0 x1
    generalize w3.drew = w4 at *
    go_wp2_with (first | (go_at_call 22; refine (Rk.out _ B.out).mono ?_; rintro e w9 ⟨rfl, hE9⟩; replace B := Lib.hid (B.out.next hE9); (try clear c0 c1 c2 c3 c4 c5 c6 c7 c8 c9 c10 c11 c12); have c0 := B.out.box 0 _ rfl; have c1 := B.out.box 1 _ rfl; have c2 := B.out.box 2 _ rfl; have c3 := B.out.box 3 _ rfl; have c4 := B.out.box 4 _ rfl; have c5 := B.out.box 5 _ rfl; have c6 := B.out.box 6 _ rfl; have c7 := B.out.box 7 _ rfl; have c8 := B.out.box 8 _ rfl; have c9 := B.out.box 9 _ rfl; have c10 := B.out.box 10 _ rfl; have c11 := B.out.box 11 _ rfl; have c12 := B.out.box 12 _ rfl; clear hE9))
    go_ret
    exact ⟨rfl, B.out.ext⟩
   ·by_cases n3 : (s.fhi pp : Int) < fh
    ·refine wp_region_plan (.take 0 <| .take 1 <| .take 2 <| .take 3 <| .take 4 <| .take 5 <| .take 6 <| .take 7 <| .take 8 <| .take 9 <| .take 10 <| .take 11 <| .take 12 <| .take 13 <| .take 14 <| .take 15 <| .take 16 <| .take 17 <| .take 18 <| .take 19 <| .take 20 <| .take 21 <| .take 22 <| .take 23 <| .take 24 <| .take 25 <| .take 26 <| .take 27 <| .take 28 <| .take 29 <| .take 30 <| .take 31 <| .take 32 <| .take 33 <| .take 34 <| .take 35 <| .take 36 <| .take 37 <| .take 38 <| .take 39 <| .take 40 <| .take 41 <| .take 42 <| .take 43 <| .take 44 <| .take 45 <| .take 46 <| .take 47 <| .done) (fun W => Ext w3 W) mixed (by kernel_rfl) (by kernel_rfl) rfl (fun _ _ d _ _ h => by cases d <;> exact h) ((Ext.refl w3).drew) ?_
     repeat ((first | (refine plan_take (v := ?_) rfl rfl (fun W hW => ?_) ?_; rotate_left; (focus (have a0 := cell_ext hW s0; have a1 := cell_ext hW s1; have a2 := cell_ext hW x0; have a3 := cell_ext hW x1; have a4 := cell_ext hW f0; have a5 := cell_ext hW f1; have b0 := cell_ext hW F0; have b1 := cell_ext hW F1; have b2 := cell_ext hW c9; have b3 := cell_ext hW c10; have b4 := cell_ext hW y0; have b5 := cell_ext hW y1; go_simp; first | exact rfl | (split <;> first | exact rfl | (exfalso; omega)) | done))) | refine plan_skip rfl rfl ?_); simp only [puts])
     refine plan_done ?_
     replace B := Lib.hid (B.out.next (Ext.refl w3).drew)
     clear c0 c1 c2 c3 c4 c5 c6 c7 c8 c9 c10 c11 c12 s0 s1 f0 f1 y0 y1 F0 F1 x0 x1
     generalize w3.drew = w4 at *
     go_wp2_with (first | (go_at_call 22; refine (Rk.out _ B.out).mono ?_; rintro e w9 ⟨rfl, hE9⟩; replace B := Lib.hid (B.out.next hE9); (try clear c0 c1 c2 c3 c4 c5 c6 c7 c8 c9 c10 c11 c12); have c0 := B.out.box 0 _ rfl; have c1 := B.out.box 1 _ rfl; have c2 := B.out.box 2 _ rfl; have c3 := B.out.box 3 _ rfl; have c4 := B.out.box 4 _ rfl; have c5 := B.out.box 5 _ rfl; have c6 := B.out.box 6 _ rfl; have c7 := B.out.box 7 _ rfl; have c8 := B.out.box 8 _ rfl; have c9 := B.out.box 9 _ rfl; have c10 := B.out.box 10 _ rfl; have c11 := B.out.box 11 _ rfl; have c12 := B.out.box 12 _ rfl; clear hE9))
     go_ret
     exact ⟨rfl, B.out.ext⟩
    ·by_cases n4 : yl < (ofSh s).ylo
     ·refine wp_region_plan (.take 0 <| .take 1 <| .take 2 <| .take 3 <| .take 4 <| .take 5 <| .take 6 <| .take 7 <| .take 8 <| .take 9 <| .take 10 <| .take 11 <| .take 12 <| .take 13 <| .take 14 <| .take 15 <| .take 16 <| .take 17 <| .take 18 <| .take 19 <| .take 20 <| .take 21 <| .take 22 <| .take 23 <| .take 24 <| .take 25 <| .take 26 <| .take 27 <| .take 28 <| .take 29 <| .take 30 <| .take 31 <| .take 32 <| .take 33 <| .take 34 <| .take 35 <| .take 36 <| .take 37 <| .take 38 <| .take 39 <| .take 40 <| .take 41 <| .take 42 <| .take 43 <| .take 44 <| .take 45 <| .take 46 <| .take 47 <| .done) (fun W => Ext w3 W) mixed (by kernel_rfl) (by kernel_rfl) rfl (fun _ _ d _ _ h => by cases d <;> exact h) ((Ext.refl w3).drew) ?_
      repeat ((first | (refine plan_take (v := ?_) rfl rfl (fun W hW => ?_) ?_; rotate_left; (focus (have a0 := cell_ext hW s0; have a1 := cell_ext hW s1; have a2 := cell_ext hW x0; have a3 := cell_ext hW x1; have a4 := cell_ext hW f0; have a5 := cell_ext hW f1; have b0 := cell_ext hW F0; have b1 := cell_ext hW F1; have b2 := cell_ext hW c9; have b3 := cell_ext hW c10; have b4 := cell_ext hW y0; have b5 := cell_ext hW y1; go_simp; first | exact rfl | (split <;> first | exact rfl | (exfalso; omega)) | done))) | refine plan_skip rfl rfl ?_); simp only [puts])
      refine plan_done ?_
      replace B := Lib.hid (B.out.next (Ext.refl w3).drew)
      clear c0 c1 c2 c3 c4 c5 c6 c7 c8 c9 c10 c11 c12 s0 s1 f0 f1 y0 y1 F0 F1 x0 x1
      generalize w3.drew = w4 at *
      go_wp2_with (first | (go_at_call 22; refine (Rk.out _ B.out).mono ?_; rintro e w9 ⟨rfl, hE9⟩; replace B := Lib.hid (B.out.next hE9); (try clear c0 c1 c2 c3 c4 c5 c6 c7 c8 c9 c10 c11 c12); have c0 := B.out.box 0 _ rfl; have c1 := B.out.box 1 _ rfl; have c2 := B.out.box 2 _ rfl; have c3 := B.out.box 3 _ rfl; have c4 := B.out.box 4 _ rfl; have c5 := B.out.box 5 _ rfl; have c6 := B.out.box 6 _ rfl; have c7 := B.out.box 7 _ rfl; have c8 := B.out.box 8 _ rfl; have c9 := B.out.box 9 _ rfl; have c10 := B.out.box 10 _ rfl; have c11 := B.out.box 11 _ rfl; have c12 := B.out.box 12 _ rfl; clear hE9))
      go_ret
      exact ⟨rfl, B.out.ext⟩
     ·by_cases n5 : (ofSh s).yhi < yh
      ·refine wp_region_plan (.take 0 <| .take 1 <| .take 2 <| .take 3 <| .take 4 <| .take 5 <| .take 6 <| .take 7 <| .take 8 <| .take 9 <| .take 10 <| .take 11 <| .take 12 <| .take 13 <| .take 14 <| .take 15 <| .take 16 <| .take 17 <| .take 18 <| .take 19 <| .take 20 <| .take 21 <| .take 22 <| .take 23 <| .take 24 <| .take 25 <| .take 26 <| .take 27 <| .take 28 <| .take 29 <| .take 30 <| .take 31 <| .take 32 <| .take 33 <| .take 34 <| .take 35 <| .take 36 <| .take 37 <| .take 38 <| .take 39 <| .take 40 <| .take 41 <| .take 42 <| .take 43 <| .take 44 <| .take 45 <| .take 46 <| .take 47 <| .done) (fun W => Ext w3 W) mixed (by kernel_rfl) (by kernel_rfl) rfl (fun _ _ d _ _ h => by cases d <;> exact h) ((Ext.refl w3).drew) ?_
       repeat ((first | (refine plan_take (v := ?_) rfl rfl (fun W hW => ?_) ?_; rotate_left; (focus (have a0 := cell_ext hW s0; have a1 := cell_ext hW s1; have a2 := cell_ext hW x0; have a3 := cell_ext hW x1; have a4 := cell_ext hW f0; have a5 := cell_ext hW f1; have b0 := cell_ext hW F0; have b1 := cell_ext hW F1; have b2 := cell_ext hW c9; have b3 := cell_ext hW c10; have b4 := cell_ext hW y0; have b5 := cell_ext hW y1; go_simp; first | exact rfl | (split <;> first | exact rfl | (exfalso; omega)) | done))) | refine plan_skip rfl rfl ?_); simp only [puts])
       refine plan_done ?_
       replace B := Lib.hid (B.out.next (Ext.refl w3).drew)
       clear c0 c1 c2 c3 c4 c5 c6 c7 c8 c9 c10 c11 c12 s0 s1 f0 f1 y0 y1 F0 F1 x0 x1
       generalize w3.drew = w4 at *
       go_wp2_with (first | (go_at_call 22; refine (Rk.out _ B.out).mono ?_; rintro e w9 ⟨rfl, hE9⟩; replace B := Lib.hid (B.out.next hE9); (try clear c0 c1 c2 c3 c4 c5 c6 c7 c8 c9 c10 c11 c12); have c0 := B.out.box 0 _ rfl; have c1 := B.out.box 1 _ rfl; have c2 := B.out.box 2 _ rfl; have c3 := B.out.box 3 _ rfl; have c4 := B.out.box 4 _ rfl; have c5 := B.out.box 5 _ rfl; have c6 := B.out.box 6 _ rfl; have c7 := B.out.box 7 _ rfl; have c8 := B.out.box 8 _ rfl; have c9 := B.out.box 9 _ rfl; have c10 := B.out.box 10 _ rfl; have c11 := B.out.box 11 _ rfl; have c12 := B.out.box 12 _ rfl; clear hE9))
       go_ret
       exact ⟨rfl, B.out.ext⟩
      ·refine wp_region_plan (.take 0 <| .take 1 <| .take 2 <| .take 3 <| .take 4 <| .take 5 <| .take 6 <| .take 7 <| .take 8 <| .take 9 <| .take 10 <| .take 11 <| .take 12 <| .take 13 <| .take 14 <| .take 15 <| .take 16 <| .take 17 <| .take 18 <| .take 19 <| .take 20 <| .take 21 <| .take 22 <| .take 23 <| .take 24 <| .take 25 <| .take 26 <| .take 27 <| .take 28 <| .take 29 <| .take 30 <| .take 31 <| .take 32 <| .take 33 <| .take 34 <| .take 35 <| .take 36 <| .take 37 <| .take 38 <| .take 39 <| .take 40 <| .take 41 <| .take 42 <| .take 43 <| .take 44 <| .take 45 <| .take 46 <| .take 47 <| .done) (fun W => Ext w3 W) mixed (by kernel_rfl) (by kernel_rfl) rfl (fun _ _ d _ _ h => by cases d <;> exact h) ((Ext.refl w3).drew) ?_
       repeat ((first | (refine plan_take (v := ?_) rfl rfl (fun W hW => ?_) ?_; rotate_left; (focus (have a0 := cell_ext hW s0; have a1 := cell_ext hW s1; have a2 := cell_ext hW x0; have a3 := cell_ext hW x1; have a4 := cell_ext hW f0; have a5 := cell_ext hW f1; have b0 := cell_ext hW F0; have b1 := cell_ext hW F1; have b2 := cell_ext hW c9; have b3 := cell_ext hW c10; have b4 := cell_ext hW y0; have b5 := cell_ext hW y1; go_simp; first | exact rfl | (split <;> first | exact rfl | (exfalso; omega)) | done))) | refine plan_skip rfl rfl ?_); simp only [puts])
       refine plan_done ?_
       replace B := Lib.hid (B.out.next (Ext.refl w3).drew); replace SP := Lib.hid (SP.out.ext (Ext.refl w3).drew); replace FD := Lib.hid (FD.out.ext (Ext.refl w3).drew); replace YR := Lib.hid (YR.out.ext (Ext.refl w3).drew); replace MO := Lib.hid (MO.out.ext (Ext.refl w3).drew)
       clear c0 c1 c2 c3 c4 c5 c6 c7 c8 c9 c10 c11 c12 s0 s1 f0 f1 y0 y1 F0 F1 x0 x1
       have hcond := Lib.hid (And.intro n0 (And.intro n1 (And.intro n2 (And.intro n3 (And.intro n4 n5)))))
       clear n0 n1 n2 n3 n4 n5
       generalize w3.drew = w4 at *
       have c0 := B.out.box 0 _ rfl; have c1 := B.out.box 1 _ rfl; have c2 := B.out.box 2 _ rfl; have c3 := B.out.box 3 _ rfl; have c4 := B.out.box 4 _ rfl; have c5 := B.out.box 5 _ rfl; have c6 := B.out.box 6 _ rfl; have c7 := B.out.box 7 _ rfl; have c8 := B.out.box 8 _ rfl; have c9 := B.out.box 9 _ rfl; have c10 := B.out.box 10 _ rfl; have c11 := B.out.box 11 _ rfl; have c12 := B.out.box 12 _ rfl
       go_wp2
       have hlQ := World.block_lt_of_cell? _ _ (MO.out 0 _ rfl)
       simp only at hlQ
       have hE5 := (Ext.refl w4).alloc (.cells (sheetC (ofSh s) ot cap) 28)
       have hX := CB.new w4 (sheetC (ofSh s) ot cap).toList 28
       have hQ5 : w4.heap.size < (w4.alloc (.cells (sheetC (ofSh s) ot cap) 28)).heap.size := by rw [World.size_alloc]; omega
       replace B := Lib.hid (B.out.next hE5); replace SP := Lib.hid (SP.out.ext hE5); replace FD := Lib.hid (FD.out.ext hE5); replace YR := Lib.hid (YR.out.ext hE5); replace MO := Lib.hid (MO.out.ext hE5)
       clear c0 c1 c2 c3 c4 c5 c6 c7 c8 c9 c10 c11 c12 hE5
       have HX := Lib.hid hX
       clear hX
       generalize w4.alloc (.cells (sheetC (ofSh s) ot cap) 28) = w5 at *
       generalize w4.heap.size = Q at *
       have c0 := B.out.box 0 _ rfl; have c1 := B.out.box 1 _ rfl; have c2 := B.out.box 2 _ rfl; have c3 := B.out.box 3 _ rfl; have c4 := B.out.box 4 _ rfl; have c5 := B.out.box 5 _ rfl; have c6 := B.out.box 6 _ rfl; have c7 := B.out.box 7 _ rfl; have c8 := B.out.box 8 _ rfl; have c9 := B.out.box 9 _ rfl; have c10 := B.out.box 10 _ rfl; have c11 := B.out.box 11 _ rfl; have c12 := B.out.box 12 _ rfl
       have m0 := MO.out 0 _ rfl; have m1 := MO.out 1 _ rfl; have m2 := MO.out 2 _ rfl; have m3 := MO.out 3 _ rfl; have m4 := MO.out 4 _ rfl; have m5 := MO.out 5 _ rfl
       have hBq : w.heap.size < Q := by omega
       refine wp_region_plan (.take 0 <| .take 1 <| .take 3 <| .two 2 4 (.only 4 <| .only 5 <| .take 6 <| .only 7 <| .done) (.only 2 <| .only 5 <| .take 6 <| .only 7 <| .done)) (fun W => Below Q w5 W) mixed (by kernel_rfl) (by kernel_rfl) rfl (fun _ _ d _ _ h => by cases d <;> exact h) ((Below.refl Q w5).drew) ?_
       repeat ((first | (refine plan_take (v := ?_) rfl rfl (fun W hW => ?_) ?_; rotate_left; (focus (have d0 := cell_bel hW hBq c12; have e0 := cell_bel hW hlQ m0; have e1 := cell_bel hW hlQ m1; have e2 := cell_bel hW hlQ m2; have e3 := cell_bel hW hlQ m3; have e4 := cell_bel hW hlQ m4; have e5 := cell_bel hW hlQ m5; go_simp; first | exact rfl | (split <;> first | exact rfl | (exfalso; omega)) | done))) | refine plan_skip rfl rfl ?_); simp only [puts])
       refine plan_share (fun A a' w' => ∃ (v1 v2 : Value) (g0 cg : Nat), a' = ((((A.put (some 127) v1).put (some 129) v2).put (some 130) (.slice (some ⟨g0, 0, none⟩) ((ofSh s).tins.length + 1) cg)).put (some 131) (.pointer (some ⟨Q, 12, none⟩))) ∧ Below Q w5 w' ∧ CB w' Q ((sheetC (ofSh s) ot cap).toList.set 12 (.slice (some ⟨g0, 0, none⟩) ((ofSh s).tins.length + 1) cg)) ∧ CB w' g0 (rowsC ((ofSh s).tins ++ [[t0, t1, t2, t3, t4, t5]])) ∧ Q < g0 ∧ (ofSh s).tins.length + 1 ≤ cg ∧ cg ≤ maxLen) ?_ ?_
       ·have HBd := Lib.hid (show Below Q w5 w5.drew from (Below.refl Q w5).drew)
        have hds : w5.heap.size ≤ w5.drew.heap.size := (Ext.refl w5).drew.size
        have HXd := Lib.hid (HX.out.ext (Ext.refl w5).drew)
        have HTd := Lib.hid (H.out.ext (B.out.ext.trans (Ext.refl w5).drew))
        obtain ⟨i82i, hi82⟩ := info_parts i82
        clear c0 c1 c2 c3 c4 c5 c6 c7 c8 c9 c10 c11 c12 m0 m1 m2 m3 m4 m5
        generalize w5.drew = wd at *
        have hQd : Q < wd.heap.size := by omega
        refine plan_two rfl rfl ?_ ?_
        ·intro K hK
         go_wp2_with (first | (at_builtin; refine wpList_appTins i82 _ rfl _ _ rfl (ofSh s).tins ot cap rfl rfl HTd.out H6.out Hl1.out (by have := Hl3.out; omega) ?_))
         intro v6 w6 ho6 hE6
         have Ho6 := Lib.hid ho6
         have HB6 := Lib.hid (HBd.out.trans (hE6.mono (Nat.le_of_lt hQd)))
         have HX6 := Lib.hid (HXd.out.ext hE6)
         have hs6 := hE6.size
         obtain ⟨g6, c6, rfl, _⟩ := own_cb ho6 Hl1.out
         clear ho6 hE6
         go_wp2
         refine hK _ _ HB6.out ?_
         refine plan_walk rfl ?_; intro K hK
         go_wp2
         have HB7 := Lib.hid (HB6.out.alloc (by omega) (.cells #[.int .i64 t0, .int .i64 t1, .int .i64 t2, .int .i64 t3, .int .i64 t4, .int .i64 t5] 82))
         have HX7 := Lib.hid (HX6.out.ext ((Ext.refl w6).alloc (.cells #[.int .i64 t0, .int .i64 t1, .int .i64 t2, .int .i64 t3, .int .i64 t4, .int .i64 t5] 82)))
         refine hK _ _ HB7.out ?_
         refine plan_walk rfl ?_; intro K hK
         go_wp2_with (first | (at_builtin; refine wpList_append_own_at _ rfl _ _ 26 rfl wd.heap.size 82 i82i (.agg #[.int .i64 0, .int .i64 0, .int .i64 0, .int .i64 0, .int .i64 0, .int .i64 0]) 6 48 Tryz.underlying26 hi82.1 hi82.2.1 hi82.2.2.1 hi82.2.2.2 rfl (by decide) _ (ofSh s).tins.length (rowsC (ofSh s).tins) rfl (own_ext Ho6.out ((Ext.refl w6).alloc _)) ⟨w6.heap.size, 0, none⟩ 1 1 [.int .i64 t0, .int .i64 t1, .int .i64 t2, .int .i64 t3, .int .i64 t4, .int .i64 t5] rfl rfl (six_cells w6 t0 t1 t2 t3 t4 t5) (by simp [Value.oneCell']) (by have := Hl3.out; unfold maxLen; omega) (by have := Hl3.out; omega) (by first | omega | (simp only [World.size_alloc]; omega)) ?_))
         intro v8 w8 hr8 hg8 _ _
         have hB8 := (Below.refl wd.heap.size _).grown hg8 (by first | omega | (simp only [World.size_alloc]; omega)) fun b hb => Nat.le_trans (by omega) ((Ho6.out).lt b hb).1
         obtain ⟨g8, c8, rfl, hg81, hc81, hc82, hCB8⟩ := own_cb hr8 (by omega)
         rw [rowsC_snoc] at hCB8
         have HB8 := Lib.hid (HB7.out.trans (hB8.mono (by omega)))
         have HX8 := Lib.hid (HX7.out.below hB8 (by omega))
         have HN8 := Lib.hid hCB8
         have HC8 := Lib.hid (And.intro hc81 hc82)
         have z0 := HX8.out.c 12 _ rfl
         have z1 := HX8.out.f 12 (by simp)
         have hgq : Q < g8 := by omega
         clear hr8 hg8 hB8 hCB8 hc81 hc82
         go_wp2
         refine hK _ _ HB8.out ?_
         repeat ((first | (refine plan_take (v := ?_) rfl rfl (fun W hW => ?_) ?_; rotate_left; (focus (skip; go_simp; first | exact rfl | (split <;> first | exact rfl | (exfalso; omega)) | done))) | refine plan_skip rfl rfl ?_); simp only [puts])
         refine plan_walk rfl ?_; intro K hK
         go_wp2
         refine hK _ _ (HB8.out.setCell (p := ⟨Q, 12, none⟩) (Nat.le_refl _) _) ?_
         refine plan_met ?_
         exact ⟨_, _, g8, c8, rfl, HB8.out.setCell (p := ⟨Q, 12, none⟩) (Nat.le_refl _) _, HX8.out.set (i := 12) (by simp) _, HN8.out.other _ _ (by omega), hgq, HC8.out.1, HC8.out.2⟩
        ·intro K hK
         go_wp2
         have HB6 := Lib.hid (HBd.out.alloc (by omega) (.cells #[.int .i64 t0, .int .i64 t1, .int .i64 t2, .int .i64 t3, .int .i64 t4, .int .i64 t5] 82))
         have HX6 := Lib.hid (HXd.out.ext ((Ext.refl wd).alloc (.cells #[.int .i64 t0, .int .i64 t1, .int .i64 t2, .int .i64 t3, .int .i64 t4, .int .i64 t5] 82)))
         refine hK _ _ HB6.out ?_
         refine plan_walk rfl ?_; intro K hK
         go_wp2_with (first | (at_builtin; refine wpList_appTins i82 _ rfl _ _ rfl (ofSh s).tins ot cap rfl rfl (HTd.out.ext ((Ext.refl wd).alloc _)) H6.out Hl1.out (by have := Hl3.out; omega) ?_))
         intro v6 w6 ho6 hE6
         have Ho6 := Lib.hid ho6
         have hs6 := hE6.size
         simp only [World.size_alloc] at hs6
         have HB7 := Lib.hid (HB6.out.trans (hE6.mono (by first | omega | (simp only [World.size_alloc]; omega))))
         have HX7 := Lib.hid (HX6.out.ext hE6)
         have Hsix := Lib.hid (fun j u hj => cell_ext hE6 (six_cells wd t0 t1 t2 t3 t4 t5 j u hj))
         obtain ⟨g6, c6, rfl, _⟩ := own_cb ho6 Hl1.out
         have Ho7 := Lib.hid ho6
         clear ho6 hE6
         go_wp2
         refine hK _ _ HB7.out ?_
         refine plan_walk rfl ?_; intro K hK
         go_wp2_with (first | (at_builtin; refine wpList_append_own_at _ rfl _ _ 26 rfl (wd.heap.size + 1) 82 i82i (.agg #[.int .i64 0, .int .i64 0, .int .i64 0, .int .i64 0, .int .i64 0, .int .i64 0]) 6 48 Tryz.underlying26 hi82.1 hi82.2.1 hi82.2.2.1 hi82.2.2.2 rfl (by decide) _ (ofSh s).tins.length (rowsC (ofSh s).tins) rfl Ho7.out ⟨wd.heap.size, 0, none⟩ 1 1 [.int .i64 t0, .int .i64 t1, .int .i64 t2, .int .i64 t3, .int .i64 t4, .int .i64 t5] rfl rfl Hsix.out (by simp [Value.oneCell']) (by have := Hl3.out; unfold maxLen; omega) (by have := Hl3.out; omega) (by first | omega | (simp only [World.size_alloc]; omega)) ?_))
         intro v8 w8 hr8 hg8 _ _
         have hB8 := (Below.refl wd.heap.size _).grown hg8 (by first | omega | (simp only [World.size_alloc]; omega)) fun b hb => Nat.le_trans (by first | omega | (simp only [World.size_alloc]; omega)) ((Ho6.out).lt b hb).1
         obtain ⟨g8, c8, rfl, hg81, hc81, hc82, hCB8⟩ := own_cb hr8 (by omega)
         rw [rowsC_snoc] at hCB8
         have HB8 := Lib.hid (HB7.out.trans (hB8.mono (by omega)))
         have HX8 := Lib.hid (HX7.out.below hB8 (by omega))
         have HN8 := Lib.hid hCB8
         have HC8 := Lib.hid (And.intro hc81 hc82)
         have z0 := HX8.out.c 12 _ rfl
         have z1 := HX8.out.f 12 (by simp)
         have hgq : Q < g8 := by omega
         clear hr8 hg8 hB8 hCB8 hc81 hc82
         go_wp2
         refine hK _ _ HB8.out ?_
         repeat ((first | (refine plan_take (v := ?_) rfl rfl (fun W hW => ?_) ?_; rotate_left; (focus (skip; go_simp; first | exact rfl | (split <;> first | exact rfl | (exfalso; omega)) | done))) | refine plan_skip rfl rfl ?_); simp only [puts])
         refine plan_walk rfl ?_; intro K hK
         go_wp2
         refine hK _ _ (HB8.out.setCell (p := ⟨Q, 12, none⟩) (Nat.le_refl _) _) ?_
         refine plan_met ?_
         exact ⟨_, _, g8, c8, rfl, HB8.out.setCell (p := ⟨Q, 12, none⟩) (Nat.le_refl _) _, HX8.out.set (i := 12) (by simp) _, HN8.out.other _ _ (by omega), hgq, HC8.out.1, HC8.out.2⟩
       ·rintro a' w6 ⟨v1, v2, g0, cg, rfl, hB6, hX6, hN6, hQg, hcg1, hcg2⟩
        have HB6 := Lib.hid hB6
        have HXb := Lib.hid hX6
        have HN := Lib.hid hN6
        have HC := Lib.hid (And.intro hcg1 hcg2)
        have hSq : w.heap.size + 1 < Q := by omega
        have hFq : w.heap.size + 1 + 1 < Q := by omega
        have hYq : w.heap.size + 1 + 1 + 1 < Q := by omega
        have hE6 : Ext w w6 := B.out.ext.below hB6 (by omega)
        replace B := Lib.hid (LB.of H.out hE6 B.out hB6 hBq)
        replace SP := Lib.hid (SP.out.below hB6 hSq)
        replace FD := Lib.hid (FD.out.below hB6 hFq)
        replace YR := Lib.hid (YR.out.below hB6 hYq)
        clear hB6 hX6 hN6 hcg1 hcg2 hE6 MO HX HB6
        try clear c0 c1 c2 c3 c4 c5 c6 c7 c8 c9 c10 c11 c12 m0 m1 m2 m3 m4 m5
        go_wp2
        have hE6d := (Ext.refl w6).drew
        have hlen7 : (rowsC ((ofSh s).tins ++ [[t0, t1, t2, t3, t4, t5]])).length = ((ofSh s).tins.length + 1) * 6 := by rw [rowsC_len (six_snoc H6.out t0 t1 t2 t3 t4 t5)]; simp
        have hi8 : ii * 6 + pp * 2 + 1 < (rowsC ((ofSh s).tins ++ [[t0, t1, t2, t3, t4, t5]])).length := by rw [hlen7]; have := Hii.out; have := Hpp.out; omega
        have Hi8 := Lib.hid hi8
        obtain ⟨u0, hu0⟩ := get_some (l := rowsC ((ofSh s).tins ++ [[t0, t1, t2, t3, t4, t5]])) (i := ii * 6 + pp * 2) (by omega)
        obtain ⟨u1, hu1⟩ := get_some hi8
        have HND := Lib.hid (HN.out.ext hE6d)
        have k0 := HND.out.c _ _ hu0
        have k1 := HND.out.c _ _ hu1
        have k2 := HND.out.f (ii * 6 + pp * 2) (by omega)
        have k3 := HND.out.f _ hi8
        have b12 := HXb.out.c 12 _ rfl
        have s0 := SP.out 0 _ rfl
        have s1 := SP.out 1 _ rfl
        have hSg : w.heap.size + 1 < g0 := by omega
        have hiG : ((ii : Nat) : Int) < (((ofSh s).tins.length + 1 : Nat) : Int) := by have := Hii.out; omega
        have hp3I : ((pp : Nat) : Int) < 3 := hpI
        clear hlen7 hi8 hu0 hu1
        refine wp_region_plan (.take 0 <| .take 1 <| .take 2 <| .take 3 <| .take 4 <| .take 5 <| .take 6 <| .take 7 <| .only 8 <| .done) (fun W => Below g0 w6 W) mixed (by kernel_rfl) (by kernel_rfl) rfl (fun _ _ d _ _ h => by cases d <;> exact h) ((Below.refl g0 w6).drew) ?_
        repeat ((first | (refine plan_take (v := ?_) rfl rfl (fun W hW => ?_) ?_; rotate_left; (focus (have d0 := cell_bel hW hQg b12; have d1 := cell_bel hW hSg s0; have d2 := cell_bel hW hSg s1; go_simp; first | exact rfl | (split <;> first | exact rfl | (exfalso; omega)) | done))) | refine plan_skip rfl rfl ?_); simp only [puts])
        have hBd := (Below.refl g0 w6).drew
        have HBd := Lib.hid hBd
        have HXd := Lib.hid (HXb.out.ext hE6d)
        clear b12 s0 s1 hE6d hBd
        generalize w6.drew = wd at *
        refine plan_walk rfl ?_; intro K hK
        go_wp2
        have HN2 := Lib.hid (show CB ((wd.setCell ⟨g0, ii * 6 + pp * 2, none⟩ (.int .i64 sl)).setCell ⟨g0, ii * 6 + pp * 2 + 1, none⟩ (.int .i64 sh)) g0 (rowsC (((ofSh s).tins ++ [[t0, t1, t2, t3, t4, t5]]).set ii (setPig (((ofSh s).tins ++ [[t0, t1, t2, t3, t4, t5]]).getD ii []) pp sl sh))) by
         have h1 := (HND.out.set (i := ii * 6 + pp * 2) (by have := Hi8.out; omega) (.int .i64 sl)).set (i := ii * 6 + pp * 2 + 1) (by rw [List.length_set]; exact Hi8.out) (.int .i64 sh)
         rw [rowsC_pig (six_snoc H6.out t0 t1 t2 t3 t4 t5) (by have := Hii.out; simp; omega) Hpp.out] at h1
         exact h1)
        have HX2 := Lib.hid ((HXd.out.other (q := g0) (ii * 6 + pp * 2) (.int .i64 sl) (by omega)).other (q := g0) (ii * 6 + pp * 2 + 1) (.int .i64 sh) (by omega))
        have HB2 := Lib.hid ((HBd.out.setCell (p := ⟨g0, ii * 6 + pp * 2, none⟩) (Nat.le_refl _) (.int .i64 sl)).setCell (p := ⟨g0, ii * 6 + pp * 2 + 1, none⟩) (Nat.le_refl _) (.int .i64 sh))
        refine hK _ _ HB2.out ?_
        refine plan_done ?_
        clear k0 k1 k2 k3 hK HND HXd HBd HN HXb
        generalize (wd.setCell ⟨g0, ii * 6 + pp * 2, none⟩ (.int .i64 sl)).setCell ⟨g0, ii * 6 + pp * 2 + 1, none⟩ (.int .i64 sh) = w7 at *
        have hE7 : Ext w w7 := B.out.ext.below HB2.out (by omega)
        replace B := Lib.hid (LB.of H.out hE7 B.out HB2.out (by omega))
        replace SP := Lib.hid (SP.out.below HB2.out (by omega))
        replace FD := Lib.hid (FD.out.below HB2.out (by omega))
        replace YR := Lib.hid (YR.out.below HB2.out (by omega))
        clear hE7 HB2 SP
        have Hts := Lib.hid (pig_six (p := pp) (x := sl) (y := sh) (i := ii) (six_snoc H6.out t0 t1 t2 t3 t4 t5) (by have := Hii.out; simp; omega))
        have Htn := Lib.hid (show ((((ofSh s).tins ++ [[t0, t1, t2, t3, t4, t5]]).set ii (setPig (((ofSh s).tins ++ [[t0, t1, t2, t3, t4, t5]]).getD ii []) pp sl sh))).length = (ofSh s).tins.length + 1 by simp)
        go_wp2
        have f0 := FD.out 0 _ rfl
        have f1 := FD.out 1 _ rfl
        have y0 := YR.out 0 _ rfl
        have y1 := YR.out 1 _ rfl
        have c11 : w7.cell? ⟨w.heap.size, 11, none⟩ = some (.int .i64 (s.off : Nat)) := B.out.box 11 _ rfl
        have hof2 := HG.out.off2
        have hoo := Hoo.out
        obtain ⟨M, hM⟩ : ∃ M : Int, min 20 ((s.off : Int) + (oo : Int)) = M := ⟨_, rfl⟩
        have hwr : IntKind.i64.wrap ((s.off : Int) + (oo : Int)) = (s.off : Int) + (oo : Int) := by rw [IntWalk.i64_in _ (by omega)]
        have HM := Lib.hid (show (s.off : Int) ≤ M by omega)
        clear hof2 hoo
        refine wp_region_plan (.take 0 <| .take 1 <| .take 2 <| .take 3 <| .take 4 <| .take 5 <| .take 6 <| .take 7 <| .take 8 <| .take 9 <| .only 10 <| .take 11 <| .only 12 <| .take 13 <| .only 14 <| .done) (fun W => Below Q w7 W) mixed (by kernel_rfl) (by kernel_rfl) rfl (fun _ _ d _ _ h => by cases d <;> exact h) ((Below.refl Q w7).drew) ?_
        repeat ((first | (refine plan_take (v := ?_) rfl rfl (fun W hW => ?_) ?_; rotate_left; (focus (have d0 := cell_bel hW hFq f0; have d1 := cell_bel hW hFq f1; have d2 := cell_bel hW hYq y0; have d3 := cell_bel hW hYq y1; have d4 := cell_bel hW hBq c11; go_simp; first | exact rfl | (split <;> first | exact rfl | (exfalso; omega)) | done))) | refine plan_skip rfl rfl ?_); simp only [puts])
        have HB3 := Lib.hid (Below.refl Q w7).drew
        have hE7d := (Ext.refl w7).drew
        replace HX2 := Lib.hid (HX2.out.ext hE7d)
        replace HN2 := Lib.hid (HN2.out.ext hE7d)
        clear f0 f1 y0 y1 c11 hM hwr hE7d
        generalize w7.drew = wd2 at *
        have Hp2 := Lib.hid (show 3 + pp * 2 + 1 < 13 by have := Hpp.out; omega)
        obtain ⟨u2, hu2⟩ := get_some (l := (sheetC (ofSh s) ot cap).toList.set 12 (.slice (some ⟨g0, 0, none⟩) ((ofSh s).tins.length + 1) cg)) (i := 3 + pp * 2) (by have := Hp2.out; simp; omega)
        obtain ⟨u3, hu3⟩ := get_some (l := (sheetC (ofSh s) ot cap).toList.set 12 (.slice (some ⟨g0, 0, none⟩) ((ofSh s).tins.length + 1) cg)) (i := 3 + pp * 2 + 1) (by have := Hp2.out; simp; omega)
        have k0 := HX2.out.c _ _ hu2
        have k1 := HX2.out.c _ _ hu3
        have k2 := HX2.out.f (3 + pp * 2) (by have := Hp2.out; simp; omega)
        have k3 := HX2.out.f (3 + pp * 2 + 1) (by have := Hp2.out; simp; omega)
        clear hu2 hu3
        refine plan_walk rfl ?_; intro K hK
        go_wp2
        have hb := (HB3.out.setCell (p := ⟨Q, 3 + pp * 2, none⟩) (Nat.le_refl _) (.int .i64 fl)).setCell (p := ⟨Q, 3 + pp * 2 + 1, none⟩) (Nat.le_refl _) (.int .i64 fh)
        have hx := (HX2.out.set (i := 3 + pp * 2) (by have := Hp2.out; simp; omega) (.int .i64 fl)).set (i := 3 + pp * 2 + 1) (by have := Hp2.out; simp; omega) (.int .i64 fh)
        have hn := (HN2.out.other (q := Q) (3 + pp * 2) (.int .i64 fl) (by omega)).other (q := Q) (3 + pp * 2 + 1) (.int .i64 fh) (by omega)
        refine hK _ _ hb ?_
        clear k0 k1 k2 k3 hK
        replace HB3 := Lib.hid hb
        replace HX2 := Lib.hid hx
        replace HN2 := Lib.hid hn
        clear hb hx hn
        generalize (wd2.setCell ⟨Q, 3 + pp * 2, none⟩ (.int .i64 fl)).setCell ⟨Q, 3 + pp * 2 + 1, none⟩ (.int .i64 fh) = wd3 at *
        repeat ((first | (refine plan_take (v := ?_) rfl rfl (fun W hW => ?_) ?_; rotate_left; (focus (skip; go_simp; first | exact rfl | (split <;> first | exact rfl | (exfalso; omega)) | done))) | refine plan_skip rfl rfl ?_); simp only [puts])
        obtain ⟨u4, hu4⟩ := get_some (l := ((((sheetC (ofSh s) ot cap).toList.set 12 (.slice (some ⟨g0, 0, none⟩) ((ofSh s).tins.length + 1) cg)).set (3 + pp * 2) (.int .i64 fl)).set (3 + pp * 2 + 1) (.int .i64 fh))) (i := 9) (by simp)
        obtain ⟨u5, hu5⟩ := get_some (l := ((((sheetC (ofSh s) ot cap).toList.set 12 (.slice (some ⟨g0, 0, none⟩) ((ofSh s).tins.length + 1) cg)).set (3 + pp * 2) (.int .i64 fl)).set (3 + pp * 2 + 1) (.int .i64 fh))) (i := 10) (by simp)
        have k0 := HX2.out.c _ _ hu4
        have k1 := HX2.out.c _ _ hu5
        have k2 := HX2.out.f 9 (by simp)
        have k3 := HX2.out.f 10 (by simp)
        clear hu4 hu5
        refine plan_walk rfl ?_; intro K hK
        go_wp2
        have hb := (HB3.out.setCell (p := ⟨Q, 9, none⟩) (Nat.le_refl _) (.int .i64 yl)).setCell (p := ⟨Q, 10, none⟩) (Nat.le_refl _) (.int .i64 yh)
        have hx := (HX2.out.set (i := 9) (by simp) (.int .i64 yl)).set (i := 10) (by simp) (.int .i64 yh)
        have hn := (HN2.out.other (q := Q) 9 (.int .i64 yl) (by omega)).other (q := Q) 10 (.int .i64 yh) (by omega)
        refine hK _ _ hb ?_
        clear k0 k1 k2 k3 hK
        replace HB3 := Lib.hid hb
        replace HX2 := Lib.hid hx
        replace HN2 := Lib.hid hn
        clear hb hx hn
        generalize (wd3.setCell ⟨Q, 9, none⟩ (.int .i64 yl)).setCell ⟨Q, 10, none⟩ (.int .i64 yh) = wd4 at *
        repeat ((first | (refine plan_take (v := ?_) rfl rfl (fun W hW => ?_) ?_; rotate_left; (focus (skip; go_simp; first | exact rfl | (split <;> first | exact rfl | (exfalso; omega)) | done))) | refine plan_skip rfl rfl ?_); simp only [puts])
        obtain ⟨u6, hu6⟩ := get_some (l := (((((sheetC (ofSh s) ot cap).toList.set 12 (.slice (some ⟨g0, 0, none⟩) ((ofSh s).tins.length + 1) cg)).set (3 + pp * 2) (.int .i64 fl)).set (3 + pp * 2 + 1) (.int .i64 fh)).set 9 (.int .i64 yl)).set 10 (.int .i64 yh)) (i := 11) (by simp)
        have k0 := HX2.out.c _ _ hu6
        have k2 := HX2.out.f 11 (by simp)
        clear hu6
        refine plan_walk rfl ?_; intro K hK
        go_wp2
        have hb := HB3.out.setCell (p := ⟨Q, 11, none⟩) (Nat.le_refl _) (.int .i64 M)
        have hx := HX2.out.set (i := 11) (by simp) (.int .i64 M)
        have hn := HN2.out.other (q := Q) 11 (.int .i64 M) (by omega)
        refine hK _ _ hb ?_
        refine plan_done ?_
        clear k0 k2 hK
        replace HB3 := Lib.hid hb
        rw [more_cells (ofSh s) ot (some ⟨g0, 0, none⟩) cap cg _ pp Hpp.out fl fh yl yh M _ Htn.out] at hx
        have XV := Lib.hid (show VB (wd4.setCell ⟨Q, 11, none⟩ (.int .i64 M)) Q _ from hx.c)
        have XT := Lib.hid (cb_tins hn Hts.out)
        clear hb hx hn HX2 HN2
        generalize wd4.setCell ⟨Q, 11, none⟩ (.int .i64 M) = w8 at *
        have hE8 : Ext w w8 := B.out.ext.below HB3.out (by omega)
        replace B := Lib.hid (LB.of H.out hE8 B.out HB3.out (by omega))
        clear hE8 HB3 FD YR
        have Hxl := Lib.hid (show ((((ofSh s).tins ++ [[t0, t1, t2, t3, t4, t5]]).set ii (setPig (((ofSh s).tins ++ [[t0, t1, t2, t3, t4, t5]]).getD ii []) pp sl sh))).length ≤ 9223372036854775807 by rw [Htn.out]; have := Hl3.out; omega)
        have hcon : (A0 : Int) ≤ sl ∧ sh ≤ (A1 : Int) ∧ (s.flo pp : Int) ≤ fl ∧ fh ≤ (s.fhi pp : Int) ∧ (s.ylo : Int) ≤ yl ∧ yh ≤ (s.yhi : Int) := hcond.out
        have Hna := Lib.hid (fun (x : Sh) e => Hnar.out x sl sh fl fh yl yh M [t0, t1, t2, t3, t4, t5] rfl (by omega) (by omega) (by omega) (by omega) (by omega) (by omega) HM.out e)
        clear hcon hcond Hnar HM
        obtain ⟨X, hX⟩ : ∃ X, X = moreX (ofSh s) pp fl fh yl yh M (((ofSh s).tins ++ [[t0, t1, t2, t3, t4, t5]]).set ii (setPig (((ofSh s).tins ++ [[t0, t1, t2, t3, t4, t5]]).getD ii []) pp sl sh)) := ⟨_, rfl⟩
        have hXt : (((ofSh s).tins ++ [[t0, t1, t2, t3, t4, t5]]).set ii (setPig (((ofSh s).tins ++ [[t0, t1, t2, t3, t4, t5]]).getD ii []) pp sl sh)) = X.tins := by rw [hX]; rfl
        rw [← hX] at XV Hna
        rw [hXt] at XT Hxl Hts Htn
        clear hX hXt
        obtain ⟨og, hog⟩ : ∃ o : Option Addr, o = some ⟨g0, 0, none⟩ := ⟨_, rfl⟩
        rw [← hog] at XV XT
        have hng : X.tins.length = (ofSh s).tins.length + 1 := Htn.out
        have Hng := Lib.hid hng
        clear hog hng
        have R24 := Lib.hid (fun W (hW : TinsAt W og X.tins) => rSheet_any X og cg W hW Hxl.out)
        cases hb : sheetB X
        ·rw [hb] at R24
         clear hb
         have x0 := XV.out 0 _ rfl; have x1 := XV.out 1 _ rfl; have x2 := XV.out 2 _ rfl; have x3 := XV.out 3 _ rfl; have x4 := XV.out 4 _ rfl; have x5 := XV.out 5 _ rfl; have x6 := XV.out 6 _ rfl; have x7 := XV.out 7 _ rfl; have x8 := XV.out 8 _ rfl; have x9 := XV.out 9 _ rfl; have x10 := XV.out 10 _ rfl; have x11 := XV.out 11 _ rfl; have x12 := XV.out 12 _ rfl
         have c0 := B.out.box 0 _ rfl; have c1 := B.out.box 1 _ rfl; have c2 := B.out.box 2 _ rfl; have c3 := B.out.box 3 _ rfl; have c4 := B.out.box 4 _ rfl; have c5 := B.out.box 5 _ rfl; have c6 := B.out.box 6 _ rfl; have c7 := B.out.box 7 _ rfl; have c8 := B.out.box 8 _ rfl; have c9 := B.out.box 9 _ rfl; have c10 := B.out.box 10 _ rfl; have c11 := B.out.box 11 _ rfl; have c12 := B.out.box 12 _ rfl
         go_wp2_with (first | (go_at_call 24; refine (R24.out _ XT.out).mono ?_; rintro e w9 ⟨rfl, hE9⟩; replace B := Lib.hid (B.out.next hE9); (try clear c0 c1 c2 c3 c4 c5 c6 c7 c8 c9 c10 c11 c12); have c0 := B.out.box 0 _ rfl; have c1 := B.out.box 1 _ rfl; have c2 := B.out.box 2 _ rfl; have c3 := B.out.box 3 _ rfl; have c4 := B.out.box 4 _ rfl; have c5 := B.out.box 5 _ rfl; have c6 := B.out.box 6 _ rfl; have c7 := B.out.box 7 _ rfl; have c8 := B.out.box 8 _ rfl; have c9 := B.out.box 9 _ rfl; have c10 := B.out.box 10 _ rfl; have c11 := B.out.box 11 _ rfl; have c12 := B.out.box 12 _ rfl; replace XV := Lib.hid (XV.out.ext hE9); (try clear x0 x1 x2 x3 x4 x5 x6 x7 x8 x9 x10 x11 x12); have x0 := XV.out 0 _ rfl; have x1 := XV.out 1 _ rfl; have x2 := XV.out 2 _ rfl; have x3 := XV.out 3 _ rfl; have x4 := XV.out 4 _ rfl; have x5 := XV.out 5 _ rfl; have x6 := XV.out 6 _ rfl; have x7 := XV.out 7 _ rfl; have x8 := XV.out 8 _ rfl; have x9 := XV.out 9 _ rfl; have x10 := XV.out 10 _ rfl; have x11 := XV.out 11 _ rfl; have x12 := XV.out 12 _ rfl; (try dsimp only at x0 x1 x2 x3 x4 x5 x6 x7 x8 x9 x10 x11 x12); replace XT := Lib.hid (XT.out.ext hE9); clear hE9) | (go_at_call 22; refine (Rk.out _ B.out).mono ?_; rintro e w9 ⟨rfl, hE9⟩; replace B := Lib.hid (B.out.next hE9); (try clear c0 c1 c2 c3 c4 c5 c6 c7 c8 c9 c10 c11 c12); have c0 := B.out.box 0 _ rfl; have c1 := B.out.box 1 _ rfl; have c2 := B.out.box 2 _ rfl; have c3 := B.out.box 3 _ rfl; have c4 := B.out.box 4 _ rfl; have c5 := B.out.box 5 _ rfl; have c6 := B.out.box 6 _ rfl; have c7 := B.out.box 7 _ rfl; have c8 := B.out.box 8 _ rfl; have c9 := B.out.box 9 _ rfl; have c10 := B.out.box 10 _ rfl; have c11 := B.out.box 11 _ rfl; have c12 := B.out.box 12 _ rfl; clear hE9))
         go_ret
         exact ⟨rfl, B.out.ext⟩
        ·rw [hb] at R24
         obtain ⟨x, hxx, gx⟩ := sheet_lift Hts.out hb
         subst hxx
         have hnar := Hna.out x rfl
         have hmx := snoc0_mix hnar HM0.out
         have Hw := Lib.hid (fun h => word_snoc HG.out gx hnar HM0.out h)
         have hcnt : ((countOf s : Nat) : Int) ≤ ((countOf x : Nat) : Int) := Int.ofNat_le.2 (count_snoc HG.out gx hnar)
         have R45x := Lib.hid (fun W o c (hW : TinsAt W og (ofSh x).tins) (hj : IntsAt W o (upL (m ++ [0]))) => word45 x gx (m ++ [0]) hmx og cg o c W hW hj)
         simp only [List.length_append, List.length_cons, List.length_nil, Nat.zero_add] at R45x
         have R40x := Lib.hid (fun W (hW : TinsAt W og (ofSh x).tins) => sCount_any x gx og cg W hW)
         have Hml := Lib.hid (show m.length ≤ 4 by have := HM0.out.len; have := HG.out.len2; omega)
         clear hb hnar hmx gx Hna Hts Htn Hxl
         generalize countOf s = n1 at *
         generalize countOf x = n2 at *
         generalize wordOf x (m ++ [0]) = q2 at *
         generalize wordOf s m = q1 at *
         have x0 := XV.out 0 _ rfl; have x1 := XV.out 1 _ rfl; have x2 := XV.out 2 _ rfl; have x3 := XV.out 3 _ rfl; have x4 := XV.out 4 _ rfl; have x5 := XV.out 5 _ rfl; have x6 := XV.out 6 _ rfl; have x7 := XV.out 7 _ rfl; have x8 := XV.out 8 _ rfl; have x9 := XV.out 9 _ rfl; have x10 := XV.out 10 _ rfl; have x11 := XV.out 11 _ rfl; have x12 := XV.out 12 _ rfl
         have c0 := B.out.box 0 _ rfl; have c1 := B.out.box 1 _ rfl; have c2 := B.out.box 2 _ rfl; have c3 := B.out.box 3 _ rfl; have c4 := B.out.box 4 _ rfl; have c5 := B.out.box 5 _ rfl; have c6 := B.out.box 6 _ rfl; have c7 := B.out.box 7 _ rfl; have c8 := B.out.box 8 _ rfl; have c9 := B.out.box 9 _ rfl; have c10 := B.out.box 10 _ rfl; have c11 := B.out.box 11 _ rfl; have c12 := B.out.box 12 _ rfl
         have T1 := Lib.hid trivial
         have T2 := Lib.hid trivial
         go_wp2_with (first | (go_at_call 24; refine (R24.out _ XT.out).mono ?_; rintro e w9 ⟨rfl, hE9⟩; replace B := Lib.hid (B.out.next hE9); (try clear c0 c1 c2 c3 c4 c5 c6 c7 c8 c9 c10 c11 c12); have c0 := B.out.box 0 _ rfl; have c1 := B.out.box 1 _ rfl; have c2 := B.out.box 2 _ rfl; have c3 := B.out.box 3 _ rfl; have c4 := B.out.box 4 _ rfl; have c5 := B.out.box 5 _ rfl; have c6 := B.out.box 6 _ rfl; have c7 := B.out.box 7 _ rfl; have c8 := B.out.box 8 _ rfl; have c9 := B.out.box 9 _ rfl; have c10 := B.out.box 10 _ rfl; have c11 := B.out.box 11 _ rfl; have c12 := B.out.box 12 _ rfl; replace XV := Lib.hid (XV.out.ext hE9); (try clear x0 x1 x2 x3 x4 x5 x6 x7 x8 x9 x10 x11 x12); have x0 := XV.out 0 _ rfl; have x1 := XV.out 1 _ rfl; have x2 := XV.out 2 _ rfl; have x3 := XV.out 3 _ rfl; have x4 := XV.out 4 _ rfl; have x5 := XV.out 5 _ rfl; have x6 := XV.out 6 _ rfl; have x7 := XV.out 7 _ rfl; have x8 := XV.out 8 _ rfl; have x9 := XV.out 9 _ rfl; have x10 := XV.out 10 _ rfl; have x11 := XV.out 11 _ rfl; have x12 := XV.out 12 _ rfl; (try dsimp only at x0 x1 x2 x3 x4 x5 x6 x7 x8 x9 x10 x11 x12); replace XT := Lib.hid (XT.out.ext hE9); clear hE9) | (go_at_call 45; refine (R45.out _ B.out).mono ?_; rintro e w9 ⟨rfl, hE9⟩; replace B := Lib.hid (B.out.next hE9); (try clear c0 c1 c2 c3 c4 c5 c6 c7 c8 c9 c10 c11 c12); have c0 := B.out.box 0 _ rfl; have c1 := B.out.box 1 _ rfl; have c2 := B.out.box 2 _ rfl; have c3 := B.out.box 3 _ rfl; have c4 := B.out.box 4 _ rfl; have c5 := B.out.box 5 _ rfl; have c6 := B.out.box 6 _ rfl; have c7 := B.out.box 7 _ rfl; have c8 := B.out.box 8 _ rfl; have c9 := B.out.box 9 _ rfl; have c10 := B.out.box 10 _ rfl; have c11 := B.out.box 11 _ rfl; have c12 := B.out.box 12 _ rfl; replace XV := Lib.hid (XV.out.ext hE9); (try clear x0 x1 x2 x3 x4 x5 x6 x7 x8 x9 x10 x11 x12); have x0 := XV.out 0 _ rfl; have x1 := XV.out 1 _ rfl; have x2 := XV.out 2 _ rfl; have x3 := XV.out 3 _ rfl; have x4 := XV.out 4 _ rfl; have x5 := XV.out 5 _ rfl; have x6 := XV.out 6 _ rfl; have x7 := XV.out 7 _ rfl; have x8 := XV.out 8 _ rfl; have x9 := XV.out 9 _ rfl; have x10 := XV.out 10 _ rfl; have x11 := XV.out 11 _ rfl; have x12 := XV.out 12 _ rfl; (try dsimp only at x0 x1 x2 x3 x4 x5 x6 x7 x8 x9 x10 x11 x12); replace XT := Lib.hid (XT.out.ext hE9); clear hE9))
         obtain ⟨wv, rfl⟩ : ∃ W : World, W = w9 := ⟨_, rfl⟩
         have hIm := HI.out.ints.ext B.out.ext
         refine wp_region_plan (.take 0 <| .take 1 <| .two 2 3 (.only 3 <| .only 4 <| .only 5 <| .take 6 <| .take 7 <| .take 8 <| .take 9 <| .take 10 <| .done) (.only 2 <| .only 4 <| .only 5 <| .take 6 <| .take 7 <| .take 8 <| .take 9 <| .take 10 <| .done)) (fun W => Ext wv W) mixed (by kernel_rfl) (by kernel_rfl) rfl (fun _ _ d _ _ h => by cases d <;> exact h) ((Ext.refl wv).drew) ?_
         repeat ((first | (refine plan_take (v := ?_) rfl rfl (fun W hW => ?_) ?_; rotate_left; (focus (have d0 := cell_ext hW x0; have d1 := cell_ext hW x1; have d2 := cell_ext hW x2; have d3 := cell_ext hW x3; have d4 := cell_ext hW x4; have d5 := cell_ext hW x5; have d6 := cell_ext hW x6; have d7 := cell_ext hW x7; have d8 := cell_ext hW x8; have d9 := cell_ext hW x9; have d10 := cell_ext hW x10; have d11 := cell_ext hW x11; have d12 := cell_ext hW x12; go_simp; first | exact rfl | (split <;> first | exact rfl | (exfalso; omega)) | done))) | refine plan_skip rfl rfl ?_); simp only [puts])
         refine plan_share (fun A a' w' => ∃ (v1 v2 v3 : Value), a' = (((((((((A.put (some 165) v1).put (some 166) v2).put (some 167) v3).put (some 168) (.tuple #[.int .i64 q2, .bool true])).put (some 162) (.tuple #[.int .i64 q2, .bool true])).put (some 169) (.int .i64 q2)).put (some 170) (.bool true)).put (some 23) (.int .i64 q2)).put (some 24) (.bool true)) ∧ Ext wv w') ?_ ?_
         ·have hd : Ext wv wv.drew := (Ext.refl wv).drew
          have HId := Lib.hid (hIm.ext hd)
          have XTd := Lib.hid (XT.out.ext hd)
          have Hd := Lib.hid hd
          clear c0 c1 c2 c3 c4 c5 c6 c7 c8 c9 c10 c11 c12 x0 x1 x2 x3 x4 x5 x6 x7 x8 x9 x10 x11 x12 hIm hd
          generalize wv.drew = wd5 at *
          refine plan_two rfl rfl ?_ ?_
          ·intro K hK
           go_wp2_with (first | (at_builtin; refine wpList_appNow _ rfl _ _ rfl m ol cl rfl rfl HId.out HI.out.none (by have := HI.out.le; rwa [upL_length] at this) (by have := Hml.out; omega) ?_))
           intro v6 w10 ho6 hE10
           obtain ⟨o6, c6, hv6, _⟩ := ho6.slice
           rw [List.length_map, upL_length] at hv6
           subst hv6
           have Ho6 := Lib.hid ho6
           have HE10 := Lib.hid (Hd.out.trans hE10)
           have hs10 := hE10.size
           clear ho6
           go_wp2
           refine hK _ _ HE10.out ?_
           refine plan_walk rfl ?_; intro K hK
           go_wp2
           refine hK _ _ (HE10.out.alloc _) ?_
           refine plan_walk rfl ?_; intro K hK
           go_wp2_with (first | (at_builtin; refine wpList_app1 _ rfl _ _ 29 rfl 3 Tryz.underlying29 (.int .i64 0) 8 i3 rfl (by decide) wd5.heap.size _ _ rfl (Ho6.out.ext ((Ext.refl _).alloc _)) w10.heap.size (.int .i64 0) rfl (by go_simp) rfl ?_ ?_ ?_))
           ·rw [List.length_map, upL_length]; have := Hml.out; omega
           ·simp only [World.size_alloc]; omega
           ·intro v7 w11 ho7 hB7 _
            rw [up_snoc0] at ho7
            have hE11 : Ext wv w11 := (HE10.out.alloc _).below hB7 (Hd.out.size)
            have hE511 := ((hE10.alloc (.cells #[.int .i64 0] 3)).below hB7 (Nat.le_refl _))
            obtain ⟨o7, c7, hv7, _, _, _, hi7⟩ := ho7.ints
            rw [upL_length, List.length_append, List.length_cons, List.length_nil, Nat.zero_add] at hv7
            subst hv7
            have Hi7 := Lib.hid hi7
            have HE11 := Lib.hid hE11
            have HE511 := Lib.hid hE511
            clear ho7 hB7 hi7 hE11 hE511
            go_wp2
            refine hK _ _ HE11.out ?_
            refine plan_walk rfl ?_; intro K hK
            go_wp2_with (first | (go_at_call 45; refine (R45x.out _ o7 c7 (XTd.out.ext HE511.out) Hi7.out).mono ?_; rintro e w14 ⟨rfl, hE14⟩))
            refine hK _ _ (HE11.out.trans hE14) ?_
            repeat ((first | (refine plan_take (v := ?_) rfl rfl (fun W hW => ?_) ?_; rotate_left; (focus (skip; go_simp; first | exact rfl | (split <;> first | exact rfl | (exfalso; omega)) | done))) | refine plan_skip rfl rfl ?_); simp only [puts])
            refine plan_met ?_
            exact ⟨_, _, _, rfl, HE11.out.trans hE14⟩
          ·intro K hK
           go_wp2
           refine hK _ _ (Hd.out.alloc _) ?_
           refine plan_walk rfl ?_; intro K hK
           have hIa := HId.out.ext ((Ext.refl wd5).alloc (.cells #[.int .i64 0] 3))
           go_wp2_with (first | (at_builtin; refine wpList_appNow _ rfl _ _ rfl m ol cl rfl rfl hIa HI.out.none (by have := HI.out.le; rwa [upL_length] at this) (by have := Hml.out; omega) ?_))
           intro v6 w10 ho6 hE10
           obtain ⟨o6, c6, hv6, _⟩ := ho6.slice
           rw [List.length_map, upL_length] at hv6
           subst hv6
           have Ho6 := Lib.hid ho6
           have HE10 := Lib.hid ((Hd.out.alloc (.cells #[.int .i64 0] 3)).trans hE10)
           have hs10 := hE10.size
           have hc10 := cell_ext (p := ⟨wd5.heap.size, 0, none⟩) (v := .int .i64 0) hE10 (by go_simp)
           simp only [World.size_alloc] at hs10
           clear ho6 hIa
           go_wp2
           refine hK _ _ HE10.out ?_
           refine plan_walk rfl ?_; intro K hK
           go_wp2_with (first | (at_builtin; refine wpList_app1 _ rfl _ _ 29 rfl 3 Tryz.underlying29 (.int .i64 0) 8 i3 rfl (by decide) (wd5.heap.size + 1) _ _ rfl Ho6.out wd5.heap.size (.int .i64 0) rfl hc10 rfl ?_ ?_ ?_))
           ·rw [List.length_map, upL_length]; have := Hml.out; omega
           ·omega
           ·intro v7 w11 ho7 hB7 _
            rw [up_snoc0] at ho7
            have hE11 : Ext wv w11 := HE10.out.below hB7 (by have := Hd.out.size; omega)
            have hE511 : Ext wd5 w11 := (((Ext.refl wd5).alloc (.cells #[.int .i64 0] 3)).trans hE10).below hB7 (by omega)
            obtain ⟨o7, c7, hv7, _, _, _, hi7⟩ := ho7.ints
            rw [upL_length, List.length_append, List.length_cons, List.length_nil, Nat.zero_add] at hv7
            subst hv7
            have Hi7 := Lib.hid hi7
            have HE11 := Lib.hid hE11
            have HE511 := Lib.hid hE511
            clear ho7 hB7 hi7 hE11 hE511
            go_wp2
            refine hK _ _ HE11.out ?_
            refine plan_walk rfl ?_; intro K hK
            go_wp2_with (first | (go_at_call 45; refine (R45x.out _ o7 c7 (XTd.out.ext HE511.out) Hi7.out).mono ?_; rintro e w14 ⟨rfl, hE14⟩))
            refine hK _ _ (HE11.out.trans hE14) ?_
            repeat ((first | (refine plan_take (v := ?_) rfl rfl (fun W hW => ?_) ?_; rotate_left; (focus (skip; go_simp; first | exact rfl | (split <;> first | exact rfl | (exfalso; omega)) | done))) | refine plan_skip rfl rfl ?_); simp only [puts])
            refine plan_met ?_
            exact ⟨_, _, _, rfl, HE11.out.trans hE14⟩
         ·rintro a' w12 ⟨v1, v2, v3, rfl, hE12⟩
          replace B := Lib.hid (B.out.next hE12)
          replace XV := Lib.hid (XV.out.ext hE12)
          replace XT := Lib.hid (XT.out.ext hE12)
          clear c0 c1 c2 c3 c4 c5 c6 c7 c8 c9 c10 c11 c12 x0 x1 x2 x3 x4 x5 x6 x7 x8 x9 x10 x11 x12 hE12 hIm
          have x0 := XV.out 0 _ rfl; have x1 := XV.out 1 _ rfl; have x2 := XV.out 2 _ rfl; have x3 := XV.out 3 _ rfl; have x4 := XV.out 4 _ rfl; have x5 := XV.out 5 _ rfl; have x6 := XV.out 6 _ rfl; have x7 := XV.out 7 _ rfl; have x8 := XV.out 8 _ rfl; have x9 := XV.out 9 _ rfl; have x10 := XV.out 10 _ rfl; have x11 := XV.out 11 _ rfl; have x12 := XV.out 12 _ rfl
          have c0 := B.out.box 0 _ rfl; have c1 := B.out.box 1 _ rfl; have c2 := B.out.box 2 _ rfl; have c3 := B.out.box 3 _ rfl; have c4 := B.out.box 4 _ rfl; have c5 := B.out.box 5 _ rfl; have c6 := B.out.box 6 _ rfl; have c7 := B.out.box 7 _ rfl; have c8 := B.out.box 8 _ rfl; have c9 := B.out.box 9 _ rfl; have c10 := B.out.box 10 _ rfl; have c11 := B.out.box 11 _ rfl; have c12 := B.out.box 12 _ rfl
          by_cases h1 : q1 = 3
          ·obtain rfl := Hw.out h1
           subst h1
           go_wp2_with (first | (go_at_call 40; have t0 := T1; clear t0 T1; refine (R40.out _ B.out).mono ?_; rintro e w9 ⟨rfl, hE9⟩; replace B := Lib.hid (B.out.next hE9); (try clear c0 c1 c2 c3 c4 c5 c6 c7 c8 c9 c10 c11 c12); have c0 := B.out.box 0 _ rfl; have c1 := B.out.box 1 _ rfl; have c2 := B.out.box 2 _ rfl; have c3 := B.out.box 3 _ rfl; have c4 := B.out.box 4 _ rfl; have c5 := B.out.box 5 _ rfl; have c6 := B.out.box 6 _ rfl; have c7 := B.out.box 7 _ rfl; have c8 := B.out.box 8 _ rfl; have c9 := B.out.box 9 _ rfl; have c10 := B.out.box 10 _ rfl; have c11 := B.out.box 11 _ rfl; have c12 := B.out.box 12 _ rfl; replace XV := Lib.hid (XV.out.ext hE9); (try clear x0 x1 x2 x3 x4 x5 x6 x7 x8 x9 x10 x11 x12); have x0 := XV.out 0 _ rfl; have x1 := XV.out 1 _ rfl; have x2 := XV.out 2 _ rfl; have x3 := XV.out 3 _ rfl; have x4 := XV.out 4 _ rfl; have x5 := XV.out 5 _ rfl; have x6 := XV.out 6 _ rfl; have x7 := XV.out 7 _ rfl; have x8 := XV.out 8 _ rfl; have x9 := XV.out 9 _ rfl; have x10 := XV.out 10 _ rfl; have x11 := XV.out 11 _ rfl; have x12 := XV.out 12 _ rfl; (try dsimp only at x0 x1 x2 x3 x4 x5 x6 x7 x8 x9 x10 x11 x12); replace XT := Lib.hid (XT.out.ext hE9); clear hE9) | (go_at_call 40; have t0 := T2; clear t0 T2; refine (R40x.out _ XT.out).mono ?_; rintro e w9 ⟨rfl, hE9⟩; replace B := Lib.hid (B.out.next hE9); (try clear c0 c1 c2 c3 c4 c5 c6 c7 c8 c9 c10 c11 c12); have c0 := B.out.box 0 _ rfl; have c1 := B.out.box 1 _ rfl; have c2 := B.out.box 2 _ rfl; have c3 := B.out.box 3 _ rfl; have c4 := B.out.box 4 _ rfl; have c5 := B.out.box 5 _ rfl; have c6 := B.out.box 6 _ rfl; have c7 := B.out.box 7 _ rfl; have c8 := B.out.box 8 _ rfl; have c9 := B.out.box 9 _ rfl; have c10 := B.out.box 10 _ rfl; have c11 := B.out.box 11 _ rfl; have c12 := B.out.box 12 _ rfl; clear hE9) | (go_at_call 22; refine (Rk.out _ B.out).mono ?_; rintro e w9 ⟨rfl, hE9⟩; replace B := Lib.hid (B.out.next hE9); (try clear c0 c1 c2 c3 c4 c5 c6 c7 c8 c9 c10 c11 c12); have c0 := B.out.box 0 _ rfl; have c1 := B.out.box 1 _ rfl; have c2 := B.out.box 2 _ rfl; have c3 := B.out.box 3 _ rfl; have c4 := B.out.box 4 _ rfl; have c5 := B.out.box 5 _ rfl; have c6 := B.out.box 6 _ rfl; have c7 := B.out.box 7 _ rfl; have c8 := B.out.box 8 _ rfl; have c9 := B.out.box 9 _ rfl; have c10 := B.out.box 10 _ rfl; have c11 := B.out.box 11 _ rfl; have c12 := B.out.box 12 _ rfl; clear hE9))
           go_ret
           exact ⟨rfl, B.out.ext⟩
          ·have h1n : (q1 != 3) = true := by simpa using h1
           go_wp2_with (first | (go_at_call 40; have t0 := T1; clear t0 T1; refine (R40.out _ B.out).mono ?_; rintro e w9 ⟨rfl, hE9⟩; replace B := Lib.hid (B.out.next hE9); (try clear c0 c1 c2 c3 c4 c5 c6 c7 c8 c9 c10 c11 c12); have c0 := B.out.box 0 _ rfl; have c1 := B.out.box 1 _ rfl; have c2 := B.out.box 2 _ rfl; have c3 := B.out.box 3 _ rfl; have c4 := B.out.box 4 _ rfl; have c5 := B.out.box 5 _ rfl; have c6 := B.out.box 6 _ rfl; have c7 := B.out.box 7 _ rfl; have c8 := B.out.box 8 _ rfl; have c9 := B.out.box 9 _ rfl; have c10 := B.out.box 10 _ rfl; have c11 := B.out.box 11 _ rfl; have c12 := B.out.box 12 _ rfl; replace XV := Lib.hid (XV.out.ext hE9); (try clear x0 x1 x2 x3 x4 x5 x6 x7 x8 x9 x10 x11 x12); have x0 := XV.out 0 _ rfl; have x1 := XV.out 1 _ rfl; have x2 := XV.out 2 _ rfl; have x3 := XV.out 3 _ rfl; have x4 := XV.out 4 _ rfl; have x5 := XV.out 5 _ rfl; have x6 := XV.out 6 _ rfl; have x7 := XV.out 7 _ rfl; have x8 := XV.out 8 _ rfl; have x9 := XV.out 9 _ rfl; have x10 := XV.out 10 _ rfl; have x11 := XV.out 11 _ rfl; have x12 := XV.out 12 _ rfl; (try dsimp only at x0 x1 x2 x3 x4 x5 x6 x7 x8 x9 x10 x11 x12); replace XT := Lib.hid (XT.out.ext hE9); clear hE9) | (go_at_call 40; have t0 := T2; clear t0 T2; refine (R40x.out _ XT.out).mono ?_; rintro e w9 ⟨rfl, hE9⟩; replace B := Lib.hid (B.out.next hE9); (try clear c0 c1 c2 c3 c4 c5 c6 c7 c8 c9 c10 c11 c12); have c0 := B.out.box 0 _ rfl; have c1 := B.out.box 1 _ rfl; have c2 := B.out.box 2 _ rfl; have c3 := B.out.box 3 _ rfl; have c4 := B.out.box 4 _ rfl; have c5 := B.out.box 5 _ rfl; have c6 := B.out.box 6 _ rfl; have c7 := B.out.box 7 _ rfl; have c8 := B.out.box 8 _ rfl; have c9 := B.out.box 9 _ rfl; have c10 := B.out.box 10 _ rfl; have c11 := B.out.box 11 _ rfl; have c12 := B.out.box 12 _ rfl; clear hE9) | (go_at_call 22; refine (Rk.out _ B.out).mono ?_; rintro e w9 ⟨rfl, hE9⟩; replace B := Lib.hid (B.out.next hE9); (try clear c0 c1 c2 c3 c4 c5 c6 c7 c8 c9 c10 c11 c12); have c0 := B.out.box 0 _ rfl; have c1 := B.out.box 1 _ rfl; have c2 := B.out.box 2 _ rfl; have c3 := B.out.box 3 _ rfl; have c4 := B.out.box 4 _ rfl; have c5 := B.out.box 5 _ rfl; have c6 := B.out.box 6 _ rfl; have c7 := B.out.box 7 _ rfl; have c8 := B.out.box 8 _ rfl; have c9 := B.out.box 9 _ rfl; have c10 := B.out.box 10 _ rfl; have c11 := B.out.box 11 _ rfl; have c12 := B.out.box 12 _ rfl; clear hE9))
           go_ret
           exact ⟨rfl, B.out.ext⟩

theorem law16 {S : SI} {l : List Int} {i p off sl sh fl fh yl yh t0 t1 t2 t3 t4 t5 : Int} {ot ol : Option Addr} {cap cl : Nat} {w : World} (h : SArg w S ot cap) (hl : LArg w l ol cl) (_ : -9223372036854775808 ≤ i) (_ : i ≤ 9223372036854775807) (_ : -9223372036854775808 ≤ p) (_ : p ≤ 9223372036854775807) (_ : -9223372036854775808 ≤ off) (_ : off ≤ 9223372036854775807) (q : Int) (hq : w.cell? ⟨1, 0, none⟩ = some (.int .i64 q)) :
  Calls Tryz.prog 16 #[sheetV S ot cap, .slice ol l.length cl, .int .i64 i, .int .i64 p, .agg #[.int .i64 sl, .int .i64 sh], .agg #[.int .i64 fl, .int .i64 fh], .agg #[.int .i64 yl, .int .i64 yh], .int .i64 off, .agg #[.int .i64 t0, .int .i64 t1, .int .i64 t2, .int .i64 t3, .int .i64 t4, .int .i64 t5]] w fun e w' => e = .returned (.bool true) ∧ Ext w w' := by
 have R32 := Lib.hid (fun W (hW : LB S ot cap w W) => right_any S ot cap l ol cl W hW.tins h.small (hl.ints.ext hW.ext) hl.small)
 have Rk := Lib.hid (fun (W : World) (hW : LB S ot cap w W) => known_any W q (cell_ext hW.ext hq))
 have B := Lib.hid (((((LB.start (cap := cap) h.tins).alloc (.cells #[.int .i64 sl, .int .i64 sh] 24)).alloc (.cells #[.int .i64 fl, .int .i64 fh] 24)).alloc (.cells #[.int .i64 yl, .int .i64 yh] 24)).alloc (.cells #[.int .i64 t0, .int .i64 t1, .int .i64 t2, .int .i64 t3, .int .i64 t4, .int .i64 t5] 82))
 cases hr : rightB S l
 ·rw [hr] at R32
  clear h hl hq hr
  go_enter Tryz.func16, Tryz.ntmps16
  go_wp2_with (first | (go_at_call 32; refine (R32.out _ B.out).mono ?_; rintro e w9 ⟨rfl, hE9⟩; replace B := Lib.hid (B.out.next hE9); (try clear c0 c1 c2 c3 c4 c5 c6 c7 c8 c9 c10 c11 c12); have c0 := B.out.box 0 _ rfl; have c1 := B.out.box 1 _ rfl; have c2 := B.out.box 2 _ rfl; have c3 := B.out.box 3 _ rfl; have c4 := B.out.box 4 _ rfl; have c5 := B.out.box 5 _ rfl; have c6 := B.out.box 6 _ rfl; have c7 := B.out.box 7 _ rfl; have c8 := B.out.box 8 _ rfl; have c9 := B.out.box 9 _ rfl; have c10 := B.out.box 10 _ rfl; have c11 := B.out.box 11 _ rfl; have c12 := B.out.box 12 _ rfl; clear hE9) | (go_at_call 22; refine (Rk.out _ B.out).mono ?_; rintro e w9 ⟨rfl, hE9⟩; replace B := Lib.hid (B.out.next hE9); (try clear c0 c1 c2 c3 c4 c5 c6 c7 c8 c9 c10 c11 c12); have c0 := B.out.box 0 _ rfl; have c1 := B.out.box 1 _ rfl; have c2 := B.out.box 2 _ rfl; have c3 := B.out.box 3 _ rfl; have c4 := B.out.box 4 _ rfl; have c5 := B.out.box 5 _ rfl; have c6 := B.out.box 6 _ rfl; have c7 := B.out.box 7 _ rfl; have c8 := B.out.box 8 _ rfl; have c9 := B.out.box 9 _ rfl; have c10 := B.out.box 10 _ rfl; have c11 := B.out.box 11 _ rfl; have c12 := B.out.box 12 _ rfl; clear hE9))
  go_ret
  exact ⟨rfl, B.out.ext⟩
 ·rw [hr] at R32
  by_cases e1 : i < 0
  ·clear h hl hq hr
   go_enter Tryz.func16, Tryz.ntmps16
   go_wp2_with (first | (go_at_call 32; refine (R32.out _ B.out).mono ?_; rintro e w9 ⟨rfl, hE9⟩; replace B := Lib.hid (B.out.next hE9); (try clear c0 c1 c2 c3 c4 c5 c6 c7 c8 c9 c10 c11 c12); have c0 := B.out.box 0 _ rfl; have c1 := B.out.box 1 _ rfl; have c2 := B.out.box 2 _ rfl; have c3 := B.out.box 3 _ rfl; have c4 := B.out.box 4 _ rfl; have c5 := B.out.box 5 _ rfl; have c6 := B.out.box 6 _ rfl; have c7 := B.out.box 7 _ rfl; have c8 := B.out.box 8 _ rfl; have c9 := B.out.box 9 _ rfl; have c10 := B.out.box 10 _ rfl; have c11 := B.out.box 11 _ rfl; have c12 := B.out.box 12 _ rfl; clear hE9) | (go_at_call 22; refine (Rk.out _ B.out).mono ?_; rintro e w9 ⟨rfl, hE9⟩; replace B := Lib.hid (B.out.next hE9); (try clear c0 c1 c2 c3 c4 c5 c6 c7 c8 c9 c10 c11 c12); have c0 := B.out.box 0 _ rfl; have c1 := B.out.box 1 _ rfl; have c2 := B.out.box 2 _ rfl; have c3 := B.out.box 3 _ rfl; have c4 := B.out.box 4 _ rfl; have c5 := B.out.box 5 _ rfl; have c6 := B.out.box 6 _ rfl; have c7 := B.out.box 7 _ rfl; have c8 := B.out.box 8 _ rfl; have c9 := B.out.box 9 _ rfl; have c10 := B.out.box 10 _ rfl; have c11 := B.out.box 11 _ rfl; have c12 := B.out.box 12 _ rfl; clear hE9))
   go_ret
   exact ⟨rfl, B.out.ext⟩
  ·by_cases e2 : ((S.tins.length : Nat) : Int) ≤ i
   ·clear h hl hq hr
    go_enter Tryz.func16, Tryz.ntmps16
    go_wp2_with (first | (go_at_call 32; refine (R32.out _ B.out).mono ?_; rintro e w9 ⟨rfl, hE9⟩; replace B := Lib.hid (B.out.next hE9); (try clear c0 c1 c2 c3 c4 c5 c6 c7 c8 c9 c10 c11 c12); have c0 := B.out.box 0 _ rfl; have c1 := B.out.box 1 _ rfl; have c2 := B.out.box 2 _ rfl; have c3 := B.out.box 3 _ rfl; have c4 := B.out.box 4 _ rfl; have c5 := B.out.box 5 _ rfl; have c6 := B.out.box 6 _ rfl; have c7 := B.out.box 7 _ rfl; have c8 := B.out.box 8 _ rfl; have c9 := B.out.box 9 _ rfl; have c10 := B.out.box 10 _ rfl; have c11 := B.out.box 11 _ rfl; have c12 := B.out.box 12 _ rfl; clear hE9) | (go_at_call 22; refine (Rk.out _ B.out).mono ?_; rintro e w9 ⟨rfl, hE9⟩; replace B := Lib.hid (B.out.next hE9); (try clear c0 c1 c2 c3 c4 c5 c6 c7 c8 c9 c10 c11 c12); have c0 := B.out.box 0 _ rfl; have c1 := B.out.box 1 _ rfl; have c2 := B.out.box 2 _ rfl; have c3 := B.out.box 3 _ rfl; have c4 := B.out.box 4 _ rfl; have c5 := B.out.box 5 _ rfl; have c6 := B.out.box 6 _ rfl; have c7 := B.out.box 7 _ rfl; have c8 := B.out.box 8 _ rfl; have c9 := B.out.box 9 _ rfl; have c10 := B.out.box 10 _ rfl; have c11 := B.out.box 11 _ rfl; have c12 := B.out.box 12 _ rfl; clear hE9))
    go_ret
    exact ⟨rfl, B.out.ext⟩
   ·by_cases e3 : p < 0
    ·clear h hl hq hr
     go_enter Tryz.func16, Tryz.ntmps16
     go_wp2_with (first | (go_at_call 32; refine (R32.out _ B.out).mono ?_; rintro e w9 ⟨rfl, hE9⟩; replace B := Lib.hid (B.out.next hE9); (try clear c0 c1 c2 c3 c4 c5 c6 c7 c8 c9 c10 c11 c12); have c0 := B.out.box 0 _ rfl; have c1 := B.out.box 1 _ rfl; have c2 := B.out.box 2 _ rfl; have c3 := B.out.box 3 _ rfl; have c4 := B.out.box 4 _ rfl; have c5 := B.out.box 5 _ rfl; have c6 := B.out.box 6 _ rfl; have c7 := B.out.box 7 _ rfl; have c8 := B.out.box 8 _ rfl; have c9 := B.out.box 9 _ rfl; have c10 := B.out.box 10 _ rfl; have c11 := B.out.box 11 _ rfl; have c12 := B.out.box 12 _ rfl; clear hE9) | (go_at_call 22; refine (Rk.out _ B.out).mono ?_; rintro e w9 ⟨rfl, hE9⟩; replace B := Lib.hid (B.out.next hE9); (try clear c0 c1 c2 c3 c4 c5 c6 c7 c8 c9 c10 c11 c12); have c0 := B.out.box 0 _ rfl; have c1 := B.out.box 1 _ rfl; have c2 := B.out.box 2 _ rfl; have c3 := B.out.box 3 _ rfl; have c4 := B.out.box 4 _ rfl; have c5 := B.out.box 5 _ rfl; have c6 := B.out.box 6 _ rfl; have c7 := B.out.box 7 _ rfl; have c8 := B.out.box 8 _ rfl; have c9 := B.out.box 9 _ rfl; have c10 := B.out.box 10 _ rfl; have c11 := B.out.box 11 _ rfl; have c12 := B.out.box 12 _ rfl; clear hE9))
     go_ret
     exact ⟨rfl, B.out.ext⟩
    ·by_cases e4 : 2 < p
     ·clear h hl hq hr
      go_enter Tryz.func16, Tryz.ntmps16
      go_wp2_with (first | (go_at_call 32; refine (R32.out _ B.out).mono ?_; rintro e w9 ⟨rfl, hE9⟩; replace B := Lib.hid (B.out.next hE9); (try clear c0 c1 c2 c3 c4 c5 c6 c7 c8 c9 c10 c11 c12); have c0 := B.out.box 0 _ rfl; have c1 := B.out.box 1 _ rfl; have c2 := B.out.box 2 _ rfl; have c3 := B.out.box 3 _ rfl; have c4 := B.out.box 4 _ rfl; have c5 := B.out.box 5 _ rfl; have c6 := B.out.box 6 _ rfl; have c7 := B.out.box 7 _ rfl; have c8 := B.out.box 8 _ rfl; have c9 := B.out.box 9 _ rfl; have c10 := B.out.box 10 _ rfl; have c11 := B.out.box 11 _ rfl; have c12 := B.out.box 12 _ rfl; clear hE9) | (go_at_call 22; refine (Rk.out _ B.out).mono ?_; rintro e w9 ⟨rfl, hE9⟩; replace B := Lib.hid (B.out.next hE9); (try clear c0 c1 c2 c3 c4 c5 c6 c7 c8 c9 c10 c11 c12); have c0 := B.out.box 0 _ rfl; have c1 := B.out.box 1 _ rfl; have c2 := B.out.box 2 _ rfl; have c3 := B.out.box 3 _ rfl; have c4 := B.out.box 4 _ rfl; have c5 := B.out.box 5 _ rfl; have c6 := B.out.box 6 _ rfl; have c7 := B.out.box 7 _ rfl; have c8 := B.out.box 8 _ rfl; have c9 := B.out.box 9 _ rfl; have c10 := B.out.box 10 _ rfl; have c11 := B.out.box 11 _ rfl; have c12 := B.out.box 12 _ rfl; clear hE9))
      go_ret
      exact ⟨rfl, B.out.ext⟩
     ·by_cases e5 : off < 0
      ·clear h hl hq hr
       go_enter Tryz.func16, Tryz.ntmps16
       go_wp2_with (first | (go_at_call 32; refine (R32.out _ B.out).mono ?_; rintro e w9 ⟨rfl, hE9⟩; replace B := Lib.hid (B.out.next hE9); (try clear c0 c1 c2 c3 c4 c5 c6 c7 c8 c9 c10 c11 c12); have c0 := B.out.box 0 _ rfl; have c1 := B.out.box 1 _ rfl; have c2 := B.out.box 2 _ rfl; have c3 := B.out.box 3 _ rfl; have c4 := B.out.box 4 _ rfl; have c5 := B.out.box 5 _ rfl; have c6 := B.out.box 6 _ rfl; have c7 := B.out.box 7 _ rfl; have c8 := B.out.box 8 _ rfl; have c9 := B.out.box 9 _ rfl; have c10 := B.out.box 10 _ rfl; have c11 := B.out.box 11 _ rfl; have c12 := B.out.box 12 _ rfl; clear hE9) | (go_at_call 22; refine (Rk.out _ B.out).mono ?_; rintro e w9 ⟨rfl, hE9⟩; replace B := Lib.hid (B.out.next hE9); (try clear c0 c1 c2 c3 c4 c5 c6 c7 c8 c9 c10 c11 c12); have c0 := B.out.box 0 _ rfl; have c1 := B.out.box 1 _ rfl; have c2 := B.out.box 2 _ rfl; have c3 := B.out.box 3 _ rfl; have c4 := B.out.box 4 _ rfl; have c5 := B.out.box 5 _ rfl; have c6 := B.out.box 6 _ rfl; have c7 := B.out.box 7 _ rfl; have c8 := B.out.box 8 _ rfl; have c9 := B.out.box 9 _ rfl; have c10 := B.out.box 10 _ rfl; have c11 := B.out.box 11 _ rfl; have c12 := B.out.box 12 _ rfl; clear hE9))
       go_ret
       exact ⟨rfl, B.out.ext⟩
      ·by_cases e6 : 20 < off
       ·clear h hl hq hr
        go_enter Tryz.func16, Tryz.ntmps16
        go_wp2_with (first | (go_at_call 32; refine (R32.out _ B.out).mono ?_; rintro e w9 ⟨rfl, hE9⟩; replace B := Lib.hid (B.out.next hE9); (try clear c0 c1 c2 c3 c4 c5 c6 c7 c8 c9 c10 c11 c12); have c0 := B.out.box 0 _ rfl; have c1 := B.out.box 1 _ rfl; have c2 := B.out.box 2 _ rfl; have c3 := B.out.box 3 _ rfl; have c4 := B.out.box 4 _ rfl; have c5 := B.out.box 5 _ rfl; have c6 := B.out.box 6 _ rfl; have c7 := B.out.box 7 _ rfl; have c8 := B.out.box 8 _ rfl; have c9 := B.out.box 9 _ rfl; have c10 := B.out.box 10 _ rfl; have c11 := B.out.box 11 _ rfl; have c12 := B.out.box 12 _ rfl; clear hE9) | (go_at_call 22; refine (Rk.out _ B.out).mono ?_; rintro e w9 ⟨rfl, hE9⟩; replace B := Lib.hid (B.out.next hE9); (try clear c0 c1 c2 c3 c4 c5 c6 c7 c8 c9 c10 c11 c12); have c0 := B.out.box 0 _ rfl; have c1 := B.out.box 1 _ rfl; have c2 := B.out.box 2 _ rfl; have c3 := B.out.box 3 _ rfl; have c4 := B.out.box 4 _ rfl; have c5 := B.out.box 5 _ rfl; have c6 := B.out.box 6 _ rfl; have c7 := B.out.box 7 _ rfl; have c8 := B.out.box 8 _ rfl; have c9 := B.out.box 9 _ rfl; have c10 := B.out.box 10 _ rfl; have c11 := B.out.box 11 _ rfl; have c12 := B.out.box 12 _ rfl; clear hE9))
        go_ret
        exact ⟨rfl, B.out.ext⟩
       ·by_cases e7 : (4 : Int) ≤ ((S.tins.length : Nat) : Int)
        ·clear h hl hq hr
         go_enter Tryz.func16, Tryz.ntmps16
         go_wp2_with (first | (go_at_call 32; refine (R32.out _ B.out).mono ?_; rintro e w9 ⟨rfl, hE9⟩; replace B := Lib.hid (B.out.next hE9); (try clear c0 c1 c2 c3 c4 c5 c6 c7 c8 c9 c10 c11 c12); have c0 := B.out.box 0 _ rfl; have c1 := B.out.box 1 _ rfl; have c2 := B.out.box 2 _ rfl; have c3 := B.out.box 3 _ rfl; have c4 := B.out.box 4 _ rfl; have c5 := B.out.box 5 _ rfl; have c6 := B.out.box 6 _ rfl; have c7 := B.out.box 7 _ rfl; have c8 := B.out.box 8 _ rfl; have c9 := B.out.box 9 _ rfl; have c10 := B.out.box 10 _ rfl; have c11 := B.out.box 11 _ rfl; have c12 := B.out.box 12 _ rfl; clear hE9) | (go_at_call 22; refine (Rk.out _ B.out).mono ?_; rintro e w9 ⟨rfl, hE9⟩; replace B := Lib.hid (B.out.next hE9); (try clear c0 c1 c2 c3 c4 c5 c6 c7 c8 c9 c10 c11 c12); have c0 := B.out.box 0 _ rfl; have c1 := B.out.box 1 _ rfl; have c2 := B.out.box 2 _ rfl; have c3 := B.out.box 3 _ rfl; have c4 := B.out.box 4 _ rfl; have c5 := B.out.box 5 _ rfl; have c6 := B.out.box 6 _ rfl; have c7 := B.out.box 7 _ rfl; have c8 := B.out.box 8 _ rfl; have c9 := B.out.box 9 _ rfl; have c10 := B.out.box 10 _ rfl; have c11 := B.out.box 11 _ rfl; have c12 := B.out.box 12 _ rfl; clear hE9))
         go_ret
         exact ⟨rfl, B.out.ext⟩
        ·obtain ⟨s, m, rfl, g, rfl, hm⟩ := right_lift h hr
         rw [upL_length]
         have htl := tins_len s
         obtain ⟨ii, rfl⟩ : ∃ n : Nat, i = (n : Int) := ⟨i.toNat, by omega⟩
         obtain ⟨pp, rfl⟩ : ∃ n : Nat, p = (n : Int) := ⟨p.toNat, by omega⟩
         obtain ⟨oo, rfl⟩ : ∃ n : Nat, off = (n : Int) := ⟨off.toNat, by omega⟩
         exact law16g g hm (by omega) (by omega) (by omega) (by omega) h.tins hl q hq

end Go.Proofs.YtjpekonfjihcoaaGreatDoor
