/- The walk of TintMade: it answers true. No condition. -/
import Derived.Test.YtjpekonfjihcoaaGreatDoorM33
import Derived.Test.YtjpekonfjihcoaaGreatDoorLRight
import Derived.Test.YtjpekonfjihcoaaGreatDoorM19
import Derived.Test.YtjpekonfjihcoaaGreatDoorM28
import Derived.Test.YtjpekonfjihcoaaGreatDoorM3
import Derived.Test.YtjpekonfjihcoaaGreatDoorM37
namespace Go.TintM
end Go.TintM
set_option maxRecDepth 100000
set_option maxHeartbeats 64000000
set_option linter.unusedVariables false
set_option linter.unusedSimpArgs false
namespace Go.Proofs.YtjpekonfjihcoaaGreatDoor
open Go.RowKit Go.My Go.TintM

def bothTo (a b : List Nat) (k : Nat) : List Nat := (List.range k).map fun i => a.getD i 0 + b.getD i 0
theorem bothTo_succ (a b : List Nat) (k : Nat) : bothTo a b (k + 1) = bothTo a b k ++ [a.getD k 0 + b.getD k 0] := by simp [bothTo, List.range_succ]
theorem bothTo_len (a b : List Nat) (k : Nat) : (bothTo a b k).length = k := by simp [bothTo]
theorem bothTo_end (a b : List Nat) : bothTo a b a.length = both a b := rfl
theorem upL_at {w : World} {oa : Option Addr} {l : List Nat} (h : IntsAt w oa (upL l)) {k : Nat} (hk : k < l.length) : ∃ b off, oa = some ⟨b, off, none⟩ ∧ w.cell? ⟨b, off + k, none⟩ = some (.int .i64 (l.getD k 0 : Nat)) := by
 obtain ⟨b, off, h1, _, h2⟩ := h.at (k := k) (by rw [upL_length]; exact hk)
 exact ⟨b, off, h1, by rw [h2]; simp [upL, List.getD, hk]⟩

theorem law15g {s : Sh} (g : Fine s) {a b : List Nat} (ha : IsMix s a) (hb : IsMix s b) (hab : a.sum + b.sum ≤ 8) {T : Tr} (hT : GoodT s T) {ot oa ob' ob : Option Addr} {cap ca cb' cb : Nat} {w : World} (h : TinsAt w ot (ofSh s).tins) (hi : IntsAt w oa (upL a)) (hj : IntsAt w ob' (upL b)) (ht : TrisAt w ob (ofTr T).tins) (k : Int) (hk : w.cell? ⟨1, 0, none⟩ = some (.int .i64 k)) :
  Calls Tryz.prog 15 #[sheetV (ofSh s) ot cap, .slice oa a.length ca, .slice ob' b.length cb', truthV (ofTr T) ob cb] w fun e w' => e = .returned (.bool true) ∧ Ext w w' := by
 have B := Lib.hid ((LB.start (cap := cap) h).alloc (.cells (truthC (ofTr T) ob cb) 32))
 have U := Lib.hid (show TruthBox ((w.alloc (.cells (sheetC (ofSh s) ot cap) 28)).alloc (.cells (truthC (ofTr T) ob cb) 32)) (w.heap.size + 1) (ofTr T) ob cb by
  have := TruthBox.new (w.alloc (.cells (sheetC (ofSh s) ot cap) 28)) (ofTr T) ob cb
  simpa only [World.size_alloc] using this)
 have hc := both_mix ha hb hab
 have R32a := Lib.hid (fun W (hW : LB (ofSh s) ot cap w W) => right_up g ha ot cap oa ca W hW.tins (hi.ext hW.ext))
 have R32b := Lib.hid (fun W (hW : LB (ofSh s) ot cap w W) => right_up g hb ot cap ob' cb' W hW.tins (hj.ext hW.ext))
 have R26 := Lib.hid (fun W (hW : LB (ofSh s) ot cap w W) => rTruth_any s g ot cap (ofTr T) ob cb W hW.tins (ht.ext hW.ext) (by have := hT.len; have := g.len2; simp [ofTr]; omega))
 simp only [truth_of hT] at R26
 have R59 := Lib.hid (fun (x : List Nat) (hx : IsMix s x) o c W (hj : IntsAt W o (upL x)) => (show Calls Tryz.prog 59 #[.slice o x.length c] W fun e w' => e = .returned (.int .i64 (x.sum : Nat)) ∧ Ext W w' by
  have h1 := parts_any (upL x) o c W hj (by rw [upL_length]; have := hx.len; have := g.len2; omega) (all8 hx)
  rw [upL_length, sum_up] at h1
  exact h1.mono fun e w' ⟨h1, h2⟩ => ⟨h1, h2 ▸ Ext.refl _⟩))
 have R59a := Lib.hid (fun W (hW : LB (ofSh s) ot cap w W) => R59.out a ha oa ca W (hi.ext hW.ext))
 have R59b := Lib.hid (fun W (hW : LB (ofSh s) ot cap w W) => R59.out b hb ob' cb' W (hj.ext hW.ext))
 have R23a := Lib.hid (fun W (hW : LB (ofSh s) ot cap w W) => sTrue_ok s g a ha T hT ot cap oa ca ob cb W hW.tins (hi.ext hW.ext) (ht.ext hW.ext))
 have R23b := Lib.hid (fun W (hW : LB (ofSh s) ot cap w W) => sTrue_ok s g b hb T hT ot cap ob' cb' ob cb W hW.tins (hj.ext hW.ext) (ht.ext hW.ext))
 have R23c := Lib.hid (fun W o c (hW : LB (ofSh s) ot cap w W) (hx : IntsAt W o (upL (both a b))) => sTrue_ok s g (both a b) hc T hT ot cap o c ob cb W hW.tins hx (ht.ext hW.ext))
 have R45a := Lib.hid (fun W (hW : LB (ofSh s) ot cap w W) => word45 s g a ha ot cap oa ca W hW.tins (hi.ext hW.ext))
 have R45b := Lib.hid (fun W (hW : LB (ofSh s) ot cap w W) => word45 s g b hb ot cap ob' cb' W hW.tins (hj.ext hW.ext))
 have R45c := Lib.hid (fun W o c (hW : LB (ofSh s) ot cap w W) (hx : IntsAt W o (upL (both a b))) => word45 s g (both a b) hc ot cap o c W hW.tins hx)
 rw [both_len] at R23c R45c
 have Rk := Lib.hid (fun (W : World) (hW : LB (ofSh s) ot cap w W) => known_any W k (cell_ext hW.ext hk))
 have HT := Lib.hid (fun (h1 : trueOf s a T = true) (h2 : trueOf s b T = true) => both_true ha hb h1 h2)
 have HW := Lib.hid (fun (h1 : wordOf s a = 3) (h2 : wordOf s b = 3) => word_surely.2 (both_surely g ha hb (word_surely.1 h1) (word_surely.1 h2)))
 have htl : ¬ (6 : Int) < ((ofTr T).tins.length : Int) := by have := hT.len; have := g.len2; simp [ofTr]; omega
 have hsI : ¬ (8 : Int) < (a.sum : Int) + (b.sum : Int) := by omega
 have hsw : IntKind.i64.wrap ((a.sum : Int) + (b.sum : Int)) = (a.sum : Int) + (b.sum : Int) := by rw [IntWalk.i64_in _ (by omega)]
 have Hlab := Lib.hid (show b.length = a.length by rw [ha.len, hb.len])
 have HA := Lib.hid hi
 have HB := Lib.hid hj
 have hal : a.length ≤ 4 := by have := ha.len; have := g.len2; omega
 have Hle := Lib.hid (fun i => (show a.getD i 0 ≤ 8 ∧ b.getD i 0 ≤ 8 from ⟨by
  rw [List.getD_eq_getElem?_getD]
  cases h : a[i]? with
  | none => simp
  | some x => simpa using ha.le x (List.mem_of_getElem? h), by
  rw [List.getD_eq_getElem?_getD]
  cases h : b[i]? with
  | none => simp
  | some x => simpa using hb.le x (List.mem_of_getElem? h)⟩))
 clear g ha hb hab hT h hi hj ht hk hc R59
 go_enter Tryz.func15, Tryz.ntmps15
 have T1 := Lib.hid trivial
 have T2 := Lib.hid trivial
 have T3 := Lib.hid trivial
 have T4 := Lib.hid trivial
 go_wp2_with (first | (go_at_call 32; have t0 := T1; clear t0 T1; refine (R32a.out _ B.out).mono ?_; rintro e w9 ⟨rfl, hE9⟩; replace B := Lib.hid (B.out.next hE9); (try clear c0 c1 c2 c3 c4 c5 c6 c7 c8 c9 c10 c11 c12); have c0 := B.out.box 0 _ rfl; have c1 := B.out.box 1 _ rfl; have c2 := B.out.box 2 _ rfl; have c3 := B.out.box 3 _ rfl; have c4 := B.out.box 4 _ rfl; have c5 := B.out.box 5 _ rfl; have c6 := B.out.box 6 _ rfl; have c7 := B.out.box 7 _ rfl; have c8 := B.out.box 8 _ rfl; have c9 := B.out.box 9 _ rfl; have c10 := B.out.box 10 _ rfl; have c11 := B.out.box 11 _ rfl; have c12 := B.out.box 12 _ rfl; replace U := Lib.hid (U.out.ext hE9); (try clear v0 v1 v2 v3 v4); have v0 : World.cell? w9 ⟨(w.heap.size + 1), 0, none⟩ = some (.slice ob (ofTr T).tins.length cb) := U.out 0 _ rfl; have v1 := U.out 1 _ rfl; have v2 := U.out 2 _ rfl; have v3 := U.out 3 _ rfl; have v4 := U.out 4 _ rfl; clear hE9) | (go_at_call 32; have t0 := T2; clear t0 T2; refine (R32b.out _ B.out).mono ?_; rintro e w9 ⟨rfl, hE9⟩; replace B := Lib.hid (B.out.next hE9); (try clear c0 c1 c2 c3 c4 c5 c6 c7 c8 c9 c10 c11 c12); have c0 := B.out.box 0 _ rfl; have c1 := B.out.box 1 _ rfl; have c2 := B.out.box 2 _ rfl; have c3 := B.out.box 3 _ rfl; have c4 := B.out.box 4 _ rfl; have c5 := B.out.box 5 _ rfl; have c6 := B.out.box 6 _ rfl; have c7 := B.out.box 7 _ rfl; have c8 := B.out.box 8 _ rfl; have c9 := B.out.box 9 _ rfl; have c10 := B.out.box 10 _ rfl; have c11 := B.out.box 11 _ rfl; have c12 := B.out.box 12 _ rfl; replace U := Lib.hid (U.out.ext hE9); (try clear v0 v1 v2 v3 v4); have v0 : World.cell? w9 ⟨(w.heap.size + 1), 0, none⟩ = some (.slice ob (ofTr T).tins.length cb) := U.out 0 _ rfl; have v1 := U.out 1 _ rfl; have v2 := U.out 2 _ rfl; have v3 := U.out 3 _ rfl; have v4 := U.out 4 _ rfl; clear hE9) | (go_at_call 26; refine (R26.out _ B.out).mono ?_; rintro e w9 ⟨rfl, hE9⟩; replace B := Lib.hid (B.out.next hE9); (try clear c0 c1 c2 c3 c4 c5 c6 c7 c8 c9 c10 c11 c12); have c0 := B.out.box 0 _ rfl; have c1 := B.out.box 1 _ rfl; have c2 := B.out.box 2 _ rfl; have c3 := B.out.box 3 _ rfl; have c4 := B.out.box 4 _ rfl; have c5 := B.out.box 5 _ rfl; have c6 := B.out.box 6 _ rfl; have c7 := B.out.box 7 _ rfl; have c8 := B.out.box 8 _ rfl; have c9 := B.out.box 9 _ rfl; have c10 := B.out.box 10 _ rfl; have c11 := B.out.box 11 _ rfl; have c12 := B.out.box 12 _ rfl; replace U := Lib.hid (U.out.ext hE9); (try clear v0 v1 v2 v3 v4); have v0 : World.cell? w9 ⟨(w.heap.size + 1), 0, none⟩ = some (.slice ob (ofTr T).tins.length cb) := U.out 0 _ rfl; have v1 := U.out 1 _ rfl; have v2 := U.out 2 _ rfl; have v3 := U.out 3 _ rfl; have v4 := U.out 4 _ rfl; clear hE9) | (go_at_call 59; have t0 := T3; clear t0 T3; refine (R59a.out _ B.out).mono ?_; rintro e w9 ⟨rfl, hE9⟩; replace B := Lib.hid (B.out.next hE9); (try clear c0 c1 c2 c3 c4 c5 c6 c7 c8 c9 c10 c11 c12); have c0 := B.out.box 0 _ rfl; have c1 := B.out.box 1 _ rfl; have c2 := B.out.box 2 _ rfl; have c3 := B.out.box 3 _ rfl; have c4 := B.out.box 4 _ rfl; have c5 := B.out.box 5 _ rfl; have c6 := B.out.box 6 _ rfl; have c7 := B.out.box 7 _ rfl; have c8 := B.out.box 8 _ rfl; have c9 := B.out.box 9 _ rfl; have c10 := B.out.box 10 _ rfl; have c11 := B.out.box 11 _ rfl; have c12 := B.out.box 12 _ rfl; replace U := Lib.hid (U.out.ext hE9); (try clear v0 v1 v2 v3 v4); have v0 : World.cell? w9 ⟨(w.heap.size + 1), 0, none⟩ = some (.slice ob (ofTr T).tins.length cb) := U.out 0 _ rfl; have v1 := U.out 1 _ rfl; have v2 := U.out 2 _ rfl; have v3 := U.out 3 _ rfl; have v4 := U.out 4 _ rfl; clear hE9) | (go_at_call 59; have t0 := T4; clear t0 T4; refine (R59b.out _ B.out).mono ?_; rintro e w9 ⟨rfl, hE9⟩; replace B := Lib.hid (B.out.next hE9); (try clear c0 c1 c2 c3 c4 c5 c6 c7 c8 c9 c10 c11 c12); have c0 := B.out.box 0 _ rfl; have c1 := B.out.box 1 _ rfl; have c2 := B.out.box 2 _ rfl; have c3 := B.out.box 3 _ rfl; have c4 := B.out.box 4 _ rfl; have c5 := B.out.box 5 _ rfl; have c6 := B.out.box 6 _ rfl; have c7 := B.out.box 7 _ rfl; have c8 := B.out.box 8 _ rfl; have c9 := B.out.box 9 _ rfl; have c10 := B.out.box 10 _ rfl; have c11 := B.out.box 11 _ rfl; have c12 := B.out.box 12 _ rfl; replace U := Lib.hid (U.out.ext hE9); (try clear v0 v1 v2 v3 v4); have v0 : World.cell? w9 ⟨(w.heap.size + 1), 0, none⟩ = some (.slice ob (ofTr T).tins.length cb) := U.out 0 _ rfl; have v1 := U.out 1 _ rfl; have v2 := U.out 2 _ rfl; have v3 := U.out 3 _ rfl; have v4 := U.out 4 _ rfl; clear hE9))
 have hB := B.out
 have hU := U.out
 clear c0 c1 c2 c3 c4 c5 c6 c7 c8 c9 c10 c11 c12 v0 v1 v2 v3 v4
 obtain ⟨w1, hw1⟩ : ∃ W, W = w9 := ⟨_, rfl⟩
 rw [← hw1] at hB hU ⊢
 have HB1 := Lib.hid hB
 have HU1 := Lib.hid hU
 clear hB hU hw1 B U
 go_loopg [9, 10] a.length (fun g v i wr => ∃ j : Nat, j + g = a.length ∧ i = .int .i64 j ∧ Ext w1 wr ∧ My.Own wr w1.heap.size 3 v ((upL (bothTo a b j)).map (Value.int .i64)))
 case atStart => exact ⟨0, by omega, rfl, Ext.refl _, My.Own.nil _ _ _⟩
 case round =>
  obtain ⟨j, hjj, rfl, hE, hown⟩ := hrel
  have Hown := Lib.hid hown
  have HE := Lib.hid hE
  have hsE := hE.size
  clear hown hE
  obtain ⟨wo, rfl⟩ : ∃ wo : World, wo = wr := ⟨_, rfl⟩
  by_cases hlt : j < a.length
  ·have hjI : (j : Int) < (a.length : Int) := by omega
   have hjI2 : (j : Int) < (b.length : Int) := by rw [Hlab.out]; omega
   obtain ⟨bA, oA, hoA, hcA⟩ := upL_at HA.out hlt
   obtain ⟨bB, oB, hoB, hcB⟩ := upL_at HB.out (k := j) (by rw [Hlab.out]; omega)
   subst hoA hoB
   have Hsu := Lib.hid (bothTo_succ a b j)
   have Hlen := Lib.hid (bothTo_len a b j)
   obtain ⟨q1, q2⟩ := Hle.out j
   generalize a.getD j 0 = x at *
   generalize b.getD j 0 = y at *
   have hxy : IntKind.i64.wrap ((x : Int) + (y : Int)) = (x : Int) + (y : Int) := by rw [IntWalk.i64_in _ (by omega)]
   have E1 := HB1.out.ext.trans HE.out
   go_wp2_with fail
   refine wp_region_plan (.take 0 <| .take 1 <| .take 2 <| .take 3 <| .take 4 <| .take 5 <| .take 6 <| .take 7 <| .take 8 <| .take 9 <| .only 10 <| .only 11 <| .take 12 <| .done) (fun W => Ext w W) mixed (by kernel_rfl) (by kernel_rfl) rfl (fun _ _ d _ _ h => by cases d <;> exact h) (E1.drew) ?_
   repeat ((first | (refine plan_take (v := ?_) rfl rfl (fun W hW => ?_) ?_; rotate_left; (focus (have d0 := cell_ext hW hcA; have d1 := cell_ext hW hcB; go_simp; first | exact rfl | (split <;> first | exact rfl | (exfalso; omega)) | done))) | refine plan_skip rfl rfl ?_); simp only [puts])
   have X := Lib.hid (HE.out.trans (Ext.refl wo).drew)
   have hown := Hown.out.ext (Ext.refl wo).drew
   clear hcA hcB
   generalize wo.drew = wd at *
   refine plan_walk rfl ?_; intro K hK
   go_wp2
   have X2 := Lib.hid (X.out.alloc (.cells #[.int .i64 ((x : Int) + (y : Int))] 3))
   refine hK _ _ (HB1.out.ext.trans X2.out) ?_
   refine plan_walk rfl ?_; intro K hK
   have hs2 := X.out.size
   go_wp2_with (first | (at_builtin; refine wpList_app1 _ rfl _ _ 29 rfl 3 Tryz.underlying29 (.int .i64 0) 8 i3 rfl (by decide) w1.heap.size _ _ rfl (hown.ext ((Ext.refl _).alloc _)) wd.heap.size (.int .i64 ((x : Int) + (y : Int))) rfl (by go_simp) rfl ?_ ?_ ?_))
   ·rw [List.length_map, upL_length, Hlen.out]; omega
   ·simp; omega
   ·intro v' w2 hown2 hBl _
    have Ho2 := Lib.hid hown2
    have X3 := Lib.hid (X2.out.below hBl (Nat.le_refl _))
    clear hown2 hown
    go_wp2
    refine hK _ _ (HB1.out.ext.trans X3.out) ?_
    repeat ((first | (refine plan_take (v := ?_) rfl rfl (fun W hW => ?_) ?_; rotate_left; (focus (skip; go_simp; first | exact rfl | (split <;> first | exact rfl | (exfalso; omega)) | done))) | refine plan_skip rfl rfl ?_); simp only [puts])
    refine plan_done ?_
    go_wp2
    go_roundg (gk - 1)
    case measure => omega
    case rel => exact ⟨j + 1, by omega, by go_num, X3.out, by rw [Hsu.out, upL_snoc, List.map_append]; exact Ho2.out⟩
  ·obtain rfl : j = a.length := by omega
   have ho := Hown.out.ints
   rw [bothTo_end] at ho
   obtain ⟨oc, cc, hv, _, _, _, hbi⟩ := ho
   rw [upL_length, both_len] at hv
   subst hv
   have Hc := Lib.hid hbi
   have B := Lib.hid (HB1.out.next HE.out)
   have U := Lib.hid (HU1.out.ext HE.out)
   have c0 := B.out.box 0 _ rfl; have c1 := B.out.box 1 _ rfl; have c2 := B.out.box 2 _ rfl; have c3 := B.out.box 3 _ rfl; have c4 := B.out.box 4 _ rfl; have c5 := B.out.box 5 _ rfl; have c6 := B.out.box 6 _ rfl; have c7 := B.out.box 7 _ rfl; have c8 := B.out.box 8 _ rfl; have c9 := B.out.box 9 _ rfl; have c10 := B.out.box 10 _ rfl; have c11 := B.out.box 11 _ rfl; have c12 := B.out.box 12 _ rfl
   have v0 : World.cell? wo ⟨(w.heap.size + 1), 0, none⟩ = some (.slice ob (ofTr T).tins.length cb) := U.out 0 _ rfl; have v1 := U.out 1 _ rfl; have v2 := U.out 2 _ rfl; have v3 := U.out 3 _ rfl; have v4 := U.out 4 _ rfl
   clear hbi Hown HB1 HU1 HE HA HB Hle
   generalize both a b = z at *
   have HQ := Lib.hid (show trueOf s a T = false ∨ (trueOf s a T = true ∧ trueOf s b T = false) ∨ (trueOf s a T = true ∧ trueOf s b T = true ∧ trueOf s z T = true) by
    cases h1 : trueOf s a T
    ·exact .inl rfl
    ·cases h2 : trueOf s b T
     ·exact .inr (.inl ⟨rfl, rfl⟩)
     ·exact .inr (.inr ⟨rfl, rfl, HT.out h1 h2⟩))
   have HP := Lib.hid (show (wordOf s a != 3) = true ∨ (wordOf s a = 3 ∧ (wordOf s b != 3) = true) ∨ (wordOf s a = 3 ∧ wordOf s b = 3 ∧ wordOf s z = 3) by
    by_cases h1 : wordOf s a = 3
    ·by_cases h2 : wordOf s b = 3
     ·exact .inr (.inr ⟨h1, h2, HW.out h1 h2⟩)
     ·exact .inr (.inl ⟨h1, by simpa using h2⟩)
    ·exact .inl (by simpa using h1))
   clear HT HW
   generalize trueOf s a T = q1 at *
   generalize trueOf s b T = q2 at *
   generalize trueOf s z T = q3 at *
   generalize wordOf s a = p1 at *
   generalize wordOf s b = p2 at *
   generalize wordOf s z = p3 at *
   have T1 := Lib.hid trivial
   have T2 := Lib.hid trivial
   have T3 := Lib.hid trivial
   have T4 := Lib.hid trivial
   have T5 := Lib.hid trivial
   have T6 := Lib.hid trivial
   go_wp2_with (first | (go_at_call 23; have t0 := T1; clear t0 T1; refine (R23a.out _ B.out).mono ?_; rintro e w9 ⟨rfl, hE9⟩; replace B := Lib.hid (B.out.next hE9); (try clear c0 c1 c2 c3 c4 c5 c6 c7 c8 c9 c10 c11 c12); have c0 := B.out.box 0 _ rfl; have c1 := B.out.box 1 _ rfl; have c2 := B.out.box 2 _ rfl; have c3 := B.out.box 3 _ rfl; have c4 := B.out.box 4 _ rfl; have c5 := B.out.box 5 _ rfl; have c6 := B.out.box 6 _ rfl; have c7 := B.out.box 7 _ rfl; have c8 := B.out.box 8 _ rfl; have c9 := B.out.box 9 _ rfl; have c10 := B.out.box 10 _ rfl; have c11 := B.out.box 11 _ rfl; have c12 := B.out.box 12 _ rfl; replace U := Lib.hid (U.out.ext hE9); (try clear v0 v1 v2 v3 v4); have v0 : World.cell? w9 ⟨(w.heap.size + 1), 0, none⟩ = some (.slice ob (ofTr T).tins.length cb) := U.out 0 _ rfl; have v1 := U.out 1 _ rfl; have v2 := U.out 2 _ rfl; have v3 := U.out 3 _ rfl; have v4 := U.out 4 _ rfl; replace Hc := Lib.hid (Hc.out.ext hE9); clear hE9) | (go_at_call 23; have t0 := T2; clear t0 T2; refine (R23b.out _ B.out).mono ?_; rintro e w9 ⟨rfl, hE9⟩; replace B := Lib.hid (B.out.next hE9); (try clear c0 c1 c2 c3 c4 c5 c6 c7 c8 c9 c10 c11 c12); have c0 := B.out.box 0 _ rfl; have c1 := B.out.box 1 _ rfl; have c2 := B.out.box 2 _ rfl; have c3 := B.out.box 3 _ rfl; have c4 := B.out.box 4 _ rfl; have c5 := B.out.box 5 _ rfl; have c6 := B.out.box 6 _ rfl; have c7 := B.out.box 7 _ rfl; have c8 := B.out.box 8 _ rfl; have c9 := B.out.box 9 _ rfl; have c10 := B.out.box 10 _ rfl; have c11 := B.out.box 11 _ rfl; have c12 := B.out.box 12 _ rfl; replace U := Lib.hid (U.out.ext hE9); (try clear v0 v1 v2 v3 v4); have v0 : World.cell? w9 ⟨(w.heap.size + 1), 0, none⟩ = some (.slice ob (ofTr T).tins.length cb) := U.out 0 _ rfl; have v1 := U.out 1 _ rfl; have v2 := U.out 2 _ rfl; have v3 := U.out 3 _ rfl; have v4 := U.out 4 _ rfl; replace Hc := Lib.hid (Hc.out.ext hE9); clear hE9) | (go_at_call 23; have t0 := T3; clear t0 T3; refine (R23c.out _ oc cc B.out Hc.out).mono ?_; rintro e w9 ⟨rfl, hE9⟩; replace B := Lib.hid (B.out.next hE9); (try clear c0 c1 c2 c3 c4 c5 c6 c7 c8 c9 c10 c11 c12); have c0 := B.out.box 0 _ rfl; have c1 := B.out.box 1 _ rfl; have c2 := B.out.box 2 _ rfl; have c3 := B.out.box 3 _ rfl; have c4 := B.out.box 4 _ rfl; have c5 := B.out.box 5 _ rfl; have c6 := B.out.box 6 _ rfl; have c7 := B.out.box 7 _ rfl; have c8 := B.out.box 8 _ rfl; have c9 := B.out.box 9 _ rfl; have c10 := B.out.box 10 _ rfl; have c11 := B.out.box 11 _ rfl; have c12 := B.out.box 12 _ rfl; replace U := Lib.hid (U.out.ext hE9); (try clear v0 v1 v2 v3 v4); have v0 : World.cell? w9 ⟨(w.heap.size + 1), 0, none⟩ = some (.slice ob (ofTr T).tins.length cb) := U.out 0 _ rfl; have v1 := U.out 1 _ rfl; have v2 := U.out 2 _ rfl; have v3 := U.out 3 _ rfl; have v4 := U.out 4 _ rfl; replace Hc := Lib.hid (Hc.out.ext hE9); clear hE9) | (go_at_call 45; have t0 := T4; clear t0 T4; refine (R45a.out _ B.out).mono ?_; rintro e w9 ⟨rfl, hE9⟩; replace B := Lib.hid (B.out.next hE9); (try clear c0 c1 c2 c3 c4 c5 c6 c7 c8 c9 c10 c11 c12); have c0 := B.out.box 0 _ rfl; have c1 := B.out.box 1 _ rfl; have c2 := B.out.box 2 _ rfl; have c3 := B.out.box 3 _ rfl; have c4 := B.out.box 4 _ rfl; have c5 := B.out.box 5 _ rfl; have c6 := B.out.box 6 _ rfl; have c7 := B.out.box 7 _ rfl; have c8 := B.out.box 8 _ rfl; have c9 := B.out.box 9 _ rfl; have c10 := B.out.box 10 _ rfl; have c11 := B.out.box 11 _ rfl; have c12 := B.out.box 12 _ rfl; replace Hc := Lib.hid (Hc.out.ext hE9); clear hE9) | (go_at_call 45; have t0 := T5; clear t0 T5; refine (R45b.out _ B.out).mono ?_; rintro e w9 ⟨rfl, hE9⟩; replace B := Lib.hid (B.out.next hE9); (try clear c0 c1 c2 c3 c4 c5 c6 c7 c8 c9 c10 c11 c12); have c0 := B.out.box 0 _ rfl; have c1 := B.out.box 1 _ rfl; have c2 := B.out.box 2 _ rfl; have c3 := B.out.box 3 _ rfl; have c4 := B.out.box 4 _ rfl; have c5 := B.out.box 5 _ rfl; have c6 := B.out.box 6 _ rfl; have c7 := B.out.box 7 _ rfl; have c8 := B.out.box 8 _ rfl; have c9 := B.out.box 9 _ rfl; have c10 := B.out.box 10 _ rfl; have c11 := B.out.box 11 _ rfl; have c12 := B.out.box 12 _ rfl; replace Hc := Lib.hid (Hc.out.ext hE9); clear hE9) | (go_at_call 45; have t0 := T6; clear t0 T6; refine (R45c.out _ oc cc B.out Hc.out).mono ?_; rintro e w9 ⟨rfl, hE9⟩; replace B := Lib.hid (B.out.next hE9); (try clear c0 c1 c2 c3 c4 c5 c6 c7 c8 c9 c10 c11 c12); have c0 := B.out.box 0 _ rfl; have c1 := B.out.box 1 _ rfl; have c2 := B.out.box 2 _ rfl; have c3 := B.out.box 3 _ rfl; have c4 := B.out.box 4 _ rfl; have c5 := B.out.box 5 _ rfl; have c6 := B.out.box 6 _ rfl; have c7 := B.out.box 7 _ rfl; have c8 := B.out.box 8 _ rfl; have c9 := B.out.box 9 _ rfl; have c10 := B.out.box 10 _ rfl; have c11 := B.out.box 11 _ rfl; have c12 := B.out.box 12 _ rfl; rcases HQ.out with rfl | ⟨rfl, rfl⟩ | ⟨rfl, rfl, rfl⟩ <;> rcases HP.out with hp | ⟨rfl, hp⟩ | ⟨rfl, rfl, rfl⟩; clear hE9) | (go_at_call 22; refine (Rk.out _ B.out).mono ?_; rintro e w9 ⟨rfl, hE9⟩; replace B := Lib.hid (B.out.next hE9); (try clear c0 c1 c2 c3 c4 c5 c6 c7 c8 c9 c10 c11 c12); have c0 := B.out.box 0 _ rfl; have c1 := B.out.box 1 _ rfl; have c2 := B.out.box 2 _ rfl; have c3 := B.out.box 3 _ rfl; have c4 := B.out.box 4 _ rfl; have c5 := B.out.box 5 _ rfl; have c6 := B.out.box 6 _ rfl; have c7 := B.out.box 7 _ rfl; have c8 := B.out.box 8 _ rfl; have c9 := B.out.box 9 _ rfl; have c10 := B.out.box 10 _ rfl; have c11 := B.out.box 11 _ rfl; have c12 := B.out.box 12 _ rfl; clear hE9))
   all_goals
    go_ret
    exact ⟨rfl, B.out.ext⟩

theorem law15 {S : SI} {l l2 : List Int} {t : TI} {ot ol ol2 ob : Option Addr} {cap cl cl2 cb : Nat} {w : World} (h : SArg w S ot cap) (hl : LArg w l ol cl) (hl2 : LArg w l2 ol2 cl2) (ht : UArg w t ob cb) (k : Int) (hk : w.cell? ⟨1, 0, none⟩ = some (.int .i64 k)) :
  Calls Tryz.prog 15 #[sheetV S ot cap, .slice ol l.length cl, .slice ol2 l2.length cl2, truthV t ob cb] w fun e w' => e = .returned (.bool true) ∧ Ext w w' := by
 have B := Lib.hid ((LB.start (cap := cap) h.tins).alloc (.cells (truthC t ob cb) 32))
 have U := Lib.hid (show TruthBox ((w.alloc (.cells (sheetC S ot cap) 28)).alloc (.cells (truthC t ob cb) 32)) (w.heap.size + 1) t ob cb by
  have := TruthBox.new (w.alloc (.cells (sheetC S ot cap) 28)) t ob cb
  simpa only [World.size_alloc] using this)
 have R32a := Lib.hid (fun W (hW : LB S ot cap w W) => right_any S ot cap l ol cl W hW.tins h.small (hl.ints.ext hW.ext) hl.small)
 have R32b := Lib.hid (fun W (hW : LB S ot cap w W) => right_any S ot cap l2 ol2 cl2 W hW.tins h.small (hl2.ints.ext hW.ext) hl2.small)
 have Rk := Lib.hid (fun (W : World) (hW : LB S ot cap w W) => known_any W k (cell_ext hW.ext hk))
 have T1 := Lib.hid trivial
 have T2 := Lib.hid trivial
 cases hr : rightB S l
 ·rw [hr] at R32a
  clear h hl hl2 ht hk hr
  go_enter Tryz.func15, Tryz.ntmps15
  go_wp2_with (first | (go_at_call 32; have t0 := T1; clear t0 T1; refine (R32a.out _ B.out).mono ?_; rintro e w9 ⟨rfl, hE9⟩; replace B := Lib.hid (B.out.next hE9); (try clear c0 c1 c2 c3 c4 c5 c6 c7 c8 c9 c10 c11 c12); have c0 := B.out.box 0 _ rfl; have c1 := B.out.box 1 _ rfl; have c2 := B.out.box 2 _ rfl; have c3 := B.out.box 3 _ rfl; have c4 := B.out.box 4 _ rfl; have c5 := B.out.box 5 _ rfl; have c6 := B.out.box 6 _ rfl; have c7 := B.out.box 7 _ rfl; have c8 := B.out.box 8 _ rfl; have c9 := B.out.box 9 _ rfl; have c10 := B.out.box 10 _ rfl; have c11 := B.out.box 11 _ rfl; have c12 := B.out.box 12 _ rfl; clear hE9) | (go_at_call 22; refine (Rk.out _ B.out).mono ?_; rintro e w9 ⟨rfl, hE9⟩; replace B := Lib.hid (B.out.next hE9); (try clear c0 c1 c2 c3 c4 c5 c6 c7 c8 c9 c10 c11 c12); have c0 := B.out.box 0 _ rfl; have c1 := B.out.box 1 _ rfl; have c2 := B.out.box 2 _ rfl; have c3 := B.out.box 3 _ rfl; have c4 := B.out.box 4 _ rfl; have c5 := B.out.box 5 _ rfl; have c6 := B.out.box 6 _ rfl; have c7 := B.out.box 7 _ rfl; have c8 := B.out.box 8 _ rfl; have c9 := B.out.box 9 _ rfl; have c10 := B.out.box 10 _ rfl; have c11 := B.out.box 11 _ rfl; have c12 := B.out.box 12 _ rfl; clear hE9))
  go_ret
  exact ⟨rfl, B.out.ext⟩
 ·cases hr2 : rightB S l2
  ·rw [hr] at R32a
   rw [hr2] at R32b
   clear h hl hl2 ht hk hr hr2
   go_enter Tryz.func15, Tryz.ntmps15
   go_wp2_with (first | (go_at_call 32; have t0 := T1; clear t0 T1; refine (R32a.out _ B.out).mono ?_; rintro e w9 ⟨rfl, hE9⟩; replace B := Lib.hid (B.out.next hE9); (try clear c0 c1 c2 c3 c4 c5 c6 c7 c8 c9 c10 c11 c12); have c0 := B.out.box 0 _ rfl; have c1 := B.out.box 1 _ rfl; have c2 := B.out.box 2 _ rfl; have c3 := B.out.box 3 _ rfl; have c4 := B.out.box 4 _ rfl; have c5 := B.out.box 5 _ rfl; have c6 := B.out.box 6 _ rfl; have c7 := B.out.box 7 _ rfl; have c8 := B.out.box 8 _ rfl; have c9 := B.out.box 9 _ rfl; have c10 := B.out.box 10 _ rfl; have c11 := B.out.box 11 _ rfl; have c12 := B.out.box 12 _ rfl; clear hE9) | (go_at_call 32; have t0 := T2; clear t0 T2; refine (R32b.out _ B.out).mono ?_; rintro e w9 ⟨rfl, hE9⟩; replace B := Lib.hid (B.out.next hE9); (try clear c0 c1 c2 c3 c4 c5 c6 c7 c8 c9 c10 c11 c12); have c0 := B.out.box 0 _ rfl; have c1 := B.out.box 1 _ rfl; have c2 := B.out.box 2 _ rfl; have c3 := B.out.box 3 _ rfl; have c4 := B.out.box 4 _ rfl; have c5 := B.out.box 5 _ rfl; have c6 := B.out.box 6 _ rfl; have c7 := B.out.box 7 _ rfl; have c8 := B.out.box 8 _ rfl; have c9 := B.out.box 9 _ rfl; have c10 := B.out.box 10 _ rfl; have c11 := B.out.box 11 _ rfl; have c12 := B.out.box 12 _ rfl; clear hE9) | (go_at_call 22; refine (Rk.out _ B.out).mono ?_; rintro e w9 ⟨rfl, hE9⟩; replace B := Lib.hid (B.out.next hE9); (try clear c0 c1 c2 c3 c4 c5 c6 c7 c8 c9 c10 c11 c12); have c0 := B.out.box 0 _ rfl; have c1 := B.out.box 1 _ rfl; have c2 := B.out.box 2 _ rfl; have c3 := B.out.box 3 _ rfl; have c4 := B.out.box 4 _ rfl; have c5 := B.out.box 5 _ rfl; have c6 := B.out.box 6 _ rfl; have c7 := B.out.box 7 _ rfl; have c8 := B.out.box 8 _ rfl; have c9 := B.out.box 9 _ rfl; have c10 := B.out.box 10 _ rfl; have c11 := B.out.box 11 _ rfl; have c12 := B.out.box 12 _ rfl; clear hE9))
   go_ret
   exact ⟨rfl, B.out.ext⟩
  ·by_cases ht6 : t.tins.length ≤ 6
   ·have ht6I : ¬ (6 : Int) < (t.tins.length : Int) := by omega
    obtain ⟨s, a, rfl, g, rfl, ha⟩ := right_lift h hr
    obtain ⟨b, rfl, hb⟩ := mix_lift (s := s) (l := l2) (by simp only [rightB, Bool.and_eq_true] at hr2; exact hr2.2.2.2)
    have R26 := Lib.hid (fun W (hW : LB (ofSh s) ot cap w W) => rTruth_any s g ot cap t ob cb W hW.tins (ht.tris.ext hW.ext) ht.small)
    cases hu : truthB s t
    ·rw [hr, upL_length] at R32a
     rw [hr2, upL_length] at R32b
     rw [hu] at R26
     rw [upL_length, upL_length]
     clear h hl hl2 ht hk hr hr2 ht6 hu g ha hb
     go_enter Tryz.func15, Tryz.ntmps15
     go_wp2_with (first | (go_at_call 32; have t0 := T1; clear t0 T1; refine (R32a.out _ B.out).mono ?_; rintro e w9 ⟨rfl, hE9⟩; replace B := Lib.hid (B.out.next hE9); (try clear c0 c1 c2 c3 c4 c5 c6 c7 c8 c9 c10 c11 c12); have c0 := B.out.box 0 _ rfl; have c1 := B.out.box 1 _ rfl; have c2 := B.out.box 2 _ rfl; have c3 := B.out.box 3 _ rfl; have c4 := B.out.box 4 _ rfl; have c5 := B.out.box 5 _ rfl; have c6 := B.out.box 6 _ rfl; have c7 := B.out.box 7 _ rfl; have c8 := B.out.box 8 _ rfl; have c9 := B.out.box 9 _ rfl; have c10 := B.out.box 10 _ rfl; have c11 := B.out.box 11 _ rfl; have c12 := B.out.box 12 _ rfl; replace U := Lib.hid (U.out.ext hE9); (try clear v0 v1 v2 v3 v4); have v0 : World.cell? w9 ⟨(w.heap.size + 1), 0, none⟩ = some (.slice ob t.tins.length cb) := U.out 0 _ rfl; have v1 := U.out 1 _ rfl; have v2 := U.out 2 _ rfl; have v3 := U.out 3 _ rfl; have v4 := U.out 4 _ rfl; clear hE9) | (go_at_call 32; have t0 := T2; clear t0 T2; refine (R32b.out _ B.out).mono ?_; rintro e w9 ⟨rfl, hE9⟩; replace B := Lib.hid (B.out.next hE9); (try clear c0 c1 c2 c3 c4 c5 c6 c7 c8 c9 c10 c11 c12); have c0 := B.out.box 0 _ rfl; have c1 := B.out.box 1 _ rfl; have c2 := B.out.box 2 _ rfl; have c3 := B.out.box 3 _ rfl; have c4 := B.out.box 4 _ rfl; have c5 := B.out.box 5 _ rfl; have c6 := B.out.box 6 _ rfl; have c7 := B.out.box 7 _ rfl; have c8 := B.out.box 8 _ rfl; have c9 := B.out.box 9 _ rfl; have c10 := B.out.box 10 _ rfl; have c11 := B.out.box 11 _ rfl; have c12 := B.out.box 12 _ rfl; replace U := Lib.hid (U.out.ext hE9); (try clear v0 v1 v2 v3 v4); have v0 : World.cell? w9 ⟨(w.heap.size + 1), 0, none⟩ = some (.slice ob t.tins.length cb) := U.out 0 _ rfl; have v1 := U.out 1 _ rfl; have v2 := U.out 2 _ rfl; have v3 := U.out 3 _ rfl; have v4 := U.out 4 _ rfl; clear hE9) | (go_at_call 26; refine (R26.out _ B.out).mono ?_; rintro e w9 ⟨rfl, hE9⟩; replace B := Lib.hid (B.out.next hE9); (try clear c0 c1 c2 c3 c4 c5 c6 c7 c8 c9 c10 c11 c12); have c0 := B.out.box 0 _ rfl; have c1 := B.out.box 1 _ rfl; have c2 := B.out.box 2 _ rfl; have c3 := B.out.box 3 _ rfl; have c4 := B.out.box 4 _ rfl; have c5 := B.out.box 5 _ rfl; have c6 := B.out.box 6 _ rfl; have c7 := B.out.box 7 _ rfl; have c8 := B.out.box 8 _ rfl; have c9 := B.out.box 9 _ rfl; have c10 := B.out.box 10 _ rfl; have c11 := B.out.box 11 _ rfl; have c12 := B.out.box 12 _ rfl; clear hE9) | (go_at_call 22; refine (Rk.out _ B.out).mono ?_; rintro e w9 ⟨rfl, hE9⟩; replace B := Lib.hid (B.out.next hE9); (try clear c0 c1 c2 c3 c4 c5 c6 c7 c8 c9 c10 c11 c12); have c0 := B.out.box 0 _ rfl; have c1 := B.out.box 1 _ rfl; have c2 := B.out.box 2 _ rfl; have c3 := B.out.box 3 _ rfl; have c4 := B.out.box 4 _ rfl; have c5 := B.out.box 5 _ rfl; have c6 := B.out.box 6 _ rfl; have c7 := B.out.box 7 _ rfl; have c8 := B.out.box 8 _ rfl; have c9 := B.out.box 9 _ rfl; have c10 := B.out.box 10 _ rfl; have c11 := B.out.box 11 _ rfl; have c12 := B.out.box 12 _ rfl; clear hE9))
     go_ret
     exact ⟨rfl, B.out.ext⟩
    ·obtain ⟨T, rfl, hT⟩ := truth_lift (tris_three ht.tris) hu
     by_cases hs : a.sum + b.sum ≤ 8
     ·rw [upL_length, upL_length]
      exact law15g g ha hb hs hT h.tins hl.ints hl2.ints ht.tris k hk
     ·have hsI : (8 : Int) < (a.sum : Int) + (b.sum : Int) := by omega
      have hsw : IntKind.i64.wrap ((a.sum : Int) + (b.sum : Int)) = (a.sum : Int) + (b.sum : Int) := by rw [IntWalk.i64_in _ (by have := ha.sum; have := hb.sum; omega)]
      have R59 := Lib.hid (fun (x : List Nat) (hx : IsMix s x) o c W (hj : IntsAt W o (upL x)) => (show Calls Tryz.prog 59 #[.slice o x.length c] W fun e w' => e = .returned (.int .i64 (x.sum : Nat)) ∧ Ext W w' by
       have h1 := parts_any (upL x) o c W hj (by rw [upL_length]; have := hx.len; have := g.len2; omega) (all8 hx)
       rw [upL_length, sum_up] at h1
       exact h1.mono fun e w' ⟨h1, h2⟩ => ⟨h1, h2 ▸ Ext.refl _⟩))
      have R59a := Lib.hid (fun W (hW : LB (ofSh s) ot cap w W) => R59.out a ha ol cl W (hl.ints.ext hW.ext))
      have R59b := Lib.hid (fun W (hW : LB (ofSh s) ot cap w W) => R59.out b hb ol2 cl2 W (hl2.ints.ext hW.ext))
      rw [hr, upL_length] at R32a
      rw [hr2, upL_length] at R32b
      rw [hu] at R26
      rw [upL_length, upL_length]
      have T3 := Lib.hid trivial
      have T4 := Lib.hid trivial
      clear h hl hl2 ht hk hr hr2 ht6 hu g ha hb hT hs R59
      go_enter Tryz.func15, Tryz.ntmps15
      go_wp2_with (first | (go_at_call 32; have t0 := T1; clear t0 T1; refine (R32a.out _ B.out).mono ?_; rintro e w9 ⟨rfl, hE9⟩; replace B := Lib.hid (B.out.next hE9); (try clear c0 c1 c2 c3 c4 c5 c6 c7 c8 c9 c10 c11 c12); have c0 := B.out.box 0 _ rfl; have c1 := B.out.box 1 _ rfl; have c2 := B.out.box 2 _ rfl; have c3 := B.out.box 3 _ rfl; have c4 := B.out.box 4 _ rfl; have c5 := B.out.box 5 _ rfl; have c6 := B.out.box 6 _ rfl; have c7 := B.out.box 7 _ rfl; have c8 := B.out.box 8 _ rfl; have c9 := B.out.box 9 _ rfl; have c10 := B.out.box 10 _ rfl; have c11 := B.out.box 11 _ rfl; have c12 := B.out.box 12 _ rfl; replace U := Lib.hid (U.out.ext hE9); (try clear v0 v1 v2 v3 v4); have v0 : World.cell? w9 ⟨(w.heap.size + 1), 0, none⟩ = some (.slice ob (ofTr T).tins.length cb) := U.out 0 _ rfl; have v1 := U.out 1 _ rfl; have v2 := U.out 2 _ rfl; have v3 := U.out 3 _ rfl; have v4 := U.out 4 _ rfl; clear hE9) | (go_at_call 32; have t0 := T2; clear t0 T2; refine (R32b.out _ B.out).mono ?_; rintro e w9 ⟨rfl, hE9⟩; replace B := Lib.hid (B.out.next hE9); (try clear c0 c1 c2 c3 c4 c5 c6 c7 c8 c9 c10 c11 c12); have c0 := B.out.box 0 _ rfl; have c1 := B.out.box 1 _ rfl; have c2 := B.out.box 2 _ rfl; have c3 := B.out.box 3 _ rfl; have c4 := B.out.box 4 _ rfl; have c5 := B.out.box 5 _ rfl; have c6 := B.out.box 6 _ rfl; have c7 := B.out.box 7 _ rfl; have c8 := B.out.box 8 _ rfl; have c9 := B.out.box 9 _ rfl; have c10 := B.out.box 10 _ rfl; have c11 := B.out.box 11 _ rfl; have c12 := B.out.box 12 _ rfl; replace U := Lib.hid (U.out.ext hE9); (try clear v0 v1 v2 v3 v4); have v0 : World.cell? w9 ⟨(w.heap.size + 1), 0, none⟩ = some (.slice ob (ofTr T).tins.length cb) := U.out 0 _ rfl; have v1 := U.out 1 _ rfl; have v2 := U.out 2 _ rfl; have v3 := U.out 3 _ rfl; have v4 := U.out 4 _ rfl; clear hE9) | (go_at_call 26; refine (R26.out _ B.out).mono ?_; rintro e w9 ⟨rfl, hE9⟩; replace B := Lib.hid (B.out.next hE9); (try clear c0 c1 c2 c3 c4 c5 c6 c7 c8 c9 c10 c11 c12); have c0 := B.out.box 0 _ rfl; have c1 := B.out.box 1 _ rfl; have c2 := B.out.box 2 _ rfl; have c3 := B.out.box 3 _ rfl; have c4 := B.out.box 4 _ rfl; have c5 := B.out.box 5 _ rfl; have c6 := B.out.box 6 _ rfl; have c7 := B.out.box 7 _ rfl; have c8 := B.out.box 8 _ rfl; have c9 := B.out.box 9 _ rfl; have c10 := B.out.box 10 _ rfl; have c11 := B.out.box 11 _ rfl; have c12 := B.out.box 12 _ rfl; replace U := Lib.hid (U.out.ext hE9); (try clear v0 v1 v2 v3 v4); have v0 : World.cell? w9 ⟨(w.heap.size + 1), 0, none⟩ = some (.slice ob (ofTr T).tins.length cb) := U.out 0 _ rfl; have v1 := U.out 1 _ rfl; have v2 := U.out 2 _ rfl; have v3 := U.out 3 _ rfl; have v4 := U.out 4 _ rfl; clear hE9) | (go_at_call 59; have t0 := T3; clear t0 T3; refine (R59a.out _ B.out).mono ?_; rintro e w9 ⟨rfl, hE9⟩; replace B := Lib.hid (B.out.next hE9); (try clear c0 c1 c2 c3 c4 c5 c6 c7 c8 c9 c10 c11 c12); have c0 := B.out.box 0 _ rfl; have c1 := B.out.box 1 _ rfl; have c2 := B.out.box 2 _ rfl; have c3 := B.out.box 3 _ rfl; have c4 := B.out.box 4 _ rfl; have c5 := B.out.box 5 _ rfl; have c6 := B.out.box 6 _ rfl; have c7 := B.out.box 7 _ rfl; have c8 := B.out.box 8 _ rfl; have c9 := B.out.box 9 _ rfl; have c10 := B.out.box 10 _ rfl; have c11 := B.out.box 11 _ rfl; have c12 := B.out.box 12 _ rfl; replace U := Lib.hid (U.out.ext hE9); (try clear v0 v1 v2 v3 v4); have v0 : World.cell? w9 ⟨(w.heap.size + 1), 0, none⟩ = some (.slice ob (ofTr T).tins.length cb) := U.out 0 _ rfl; have v1 := U.out 1 _ rfl; have v2 := U.out 2 _ rfl; have v3 := U.out 3 _ rfl; have v4 := U.out 4 _ rfl; clear hE9) | (go_at_call 59; have t0 := T4; clear t0 T4; refine (R59b.out _ B.out).mono ?_; rintro e w9 ⟨rfl, hE9⟩; replace B := Lib.hid (B.out.next hE9); (try clear c0 c1 c2 c3 c4 c5 c6 c7 c8 c9 c10 c11 c12); have c0 := B.out.box 0 _ rfl; have c1 := B.out.box 1 _ rfl; have c2 := B.out.box 2 _ rfl; have c3 := B.out.box 3 _ rfl; have c4 := B.out.box 4 _ rfl; have c5 := B.out.box 5 _ rfl; have c6 := B.out.box 6 _ rfl; have c7 := B.out.box 7 _ rfl; have c8 := B.out.box 8 _ rfl; have c9 := B.out.box 9 _ rfl; have c10 := B.out.box 10 _ rfl; have c11 := B.out.box 11 _ rfl; have c12 := B.out.box 12 _ rfl; replace U := Lib.hid (U.out.ext hE9); (try clear v0 v1 v2 v3 v4); have v0 : World.cell? w9 ⟨(w.heap.size + 1), 0, none⟩ = some (.slice ob (ofTr T).tins.length cb) := U.out 0 _ rfl; have v1 := U.out 1 _ rfl; have v2 := U.out 2 _ rfl; have v3 := U.out 3 _ rfl; have v4 := U.out 4 _ rfl; clear hE9) | (go_at_call 22; refine (Rk.out _ B.out).mono ?_; rintro e w9 ⟨rfl, hE9⟩; replace B := Lib.hid (B.out.next hE9); (try clear c0 c1 c2 c3 c4 c5 c6 c7 c8 c9 c10 c11 c12); have c0 := B.out.box 0 _ rfl; have c1 := B.out.box 1 _ rfl; have c2 := B.out.box 2 _ rfl; have c3 := B.out.box 3 _ rfl; have c4 := B.out.box 4 _ rfl; have c5 := B.out.box 5 _ rfl; have c6 := B.out.box 6 _ rfl; have c7 := B.out.box 7 _ rfl; have c8 := B.out.box 8 _ rfl; have c9 := B.out.box 9 _ rfl; have c10 := B.out.box 10 _ rfl; have c11 := B.out.box 11 _ rfl; have c12 := B.out.box 12 _ rfl; clear hE9))
      go_ret
      exact ⟨rfl, B.out.ext⟩
   ·have ht6I : (6 : Int) < (t.tins.length : Int) := by omega
    rw [hr] at R32a
    rw [hr2] at R32b
    clear h hl hl2 ht hk hr hr2 ht6
    go_enter Tryz.func15, Tryz.ntmps15
    go_wp2_with (first | (go_at_call 32; have t0 := T1; clear t0 T1; refine (R32a.out _ B.out).mono ?_; rintro e w9 ⟨rfl, hE9⟩; replace B := Lib.hid (B.out.next hE9); (try clear c0 c1 c2 c3 c4 c5 c6 c7 c8 c9 c10 c11 c12); have c0 := B.out.box 0 _ rfl; have c1 := B.out.box 1 _ rfl; have c2 := B.out.box 2 _ rfl; have c3 := B.out.box 3 _ rfl; have c4 := B.out.box 4 _ rfl; have c5 := B.out.box 5 _ rfl; have c6 := B.out.box 6 _ rfl; have c7 := B.out.box 7 _ rfl; have c8 := B.out.box 8 _ rfl; have c9 := B.out.box 9 _ rfl; have c10 := B.out.box 10 _ rfl; have c11 := B.out.box 11 _ rfl; have c12 := B.out.box 12 _ rfl; replace U := Lib.hid (U.out.ext hE9); (try clear v0 v1 v2 v3 v4); have v0 : World.cell? w9 ⟨(w.heap.size + 1), 0, none⟩ = some (.slice ob t.tins.length cb) := U.out 0 _ rfl; have v1 := U.out 1 _ rfl; have v2 := U.out 2 _ rfl; have v3 := U.out 3 _ rfl; have v4 := U.out 4 _ rfl; clear hE9) | (go_at_call 32; have t0 := T2; clear t0 T2; refine (R32b.out _ B.out).mono ?_; rintro e w9 ⟨rfl, hE9⟩; replace B := Lib.hid (B.out.next hE9); (try clear c0 c1 c2 c3 c4 c5 c6 c7 c8 c9 c10 c11 c12); have c0 := B.out.box 0 _ rfl; have c1 := B.out.box 1 _ rfl; have c2 := B.out.box 2 _ rfl; have c3 := B.out.box 3 _ rfl; have c4 := B.out.box 4 _ rfl; have c5 := B.out.box 5 _ rfl; have c6 := B.out.box 6 _ rfl; have c7 := B.out.box 7 _ rfl; have c8 := B.out.box 8 _ rfl; have c9 := B.out.box 9 _ rfl; have c10 := B.out.box 10 _ rfl; have c11 := B.out.box 11 _ rfl; have c12 := B.out.box 12 _ rfl; replace U := Lib.hid (U.out.ext hE9); (try clear v0 v1 v2 v3 v4); have v0 : World.cell? w9 ⟨(w.heap.size + 1), 0, none⟩ = some (.slice ob t.tins.length cb) := U.out 0 _ rfl; have v1 := U.out 1 _ rfl; have v2 := U.out 2 _ rfl; have v3 := U.out 3 _ rfl; have v4 := U.out 4 _ rfl; clear hE9) | (go_at_call 22; refine (Rk.out _ B.out).mono ?_; rintro e w9 ⟨rfl, hE9⟩; replace B := Lib.hid (B.out.next hE9); (try clear c0 c1 c2 c3 c4 c5 c6 c7 c8 c9 c10 c11 c12); have c0 := B.out.box 0 _ rfl; have c1 := B.out.box 1 _ rfl; have c2 := B.out.box 2 _ rfl; have c3 := B.out.box 3 _ rfl; have c4 := B.out.box 4 _ rfl; have c5 := B.out.box 5 _ rfl; have c6 := B.out.box 6 _ rfl; have c7 := B.out.box 7 _ rfl; have c8 := B.out.box 8 _ rfl; have c9 := B.out.box 9 _ rfl; have c10 := B.out.box 10 _ rfl; have c11 := B.out.box 11 _ rfl; have c12 := B.out.box 12 _ rfl; clear hE9))
    go_ret
    exact ⟨rfl, B.out.ext⟩

end Go.Proofs.YtjpekonfjihcoaaGreatDoor
