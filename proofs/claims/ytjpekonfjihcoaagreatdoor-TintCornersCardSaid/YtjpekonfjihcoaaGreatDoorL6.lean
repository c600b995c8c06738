/- The walk of TintCorners: it answers true. No condition. -/
import Derived.Test.YtjpekonfjihcoaaGreatDoorM33
import Derived.Test.YtjpekonfjihcoaaGreatDoorLRight
import Derived.Test.YtjpekonfjihcoaaGreatDoorCorner
import Derived.Test.YtjpekonfjihcoaaGreatDoorM28
import Derived.Test.YtjpekonfjihcoaaGreatDoorM19
namespace Go.TintM
end Go.TintM
set_option maxRecDepth 100000
set_option maxHeartbeats 64000000
set_option linter.unusedVariables false
set_option linter.unusedSimpArgs false
namespace Go.Proofs.YtjpekonfjihcoaaGreatDoor
open Go.RowKit Go.My Go.TintM

theorem corner_word {s : Sh} (g : Fine s) {m : List Nat} (hm : IsMix s m) : (wordOf s m == 3) = (trueOf s m (corner s true) && trueOf s m (corner s false)) := by
 have h1 := corners g hm
 have h2 := @word_surely s m
 rw [Bool.eq_iff_iff, beq_iff_eq, Bool.and_eq_true, ← h1]
 constructor
 ·intro h
  simpa [surely] using h2.1 (by omega)
 ·intro h
  have := h2.2 (by simpa [surely] using h)
  omega

theorem law6g {s : Sh} (g : Fine s) {m : List Nat} (hm : IsMix s m) {ot ol : Option Addr} {cap cl : Nat} {w : World} (h : TinsAt w ot (ofSh s).tins) (hi : IntsAt w ol (upL m)) (k : Int) (hk : w.cell? ⟨1, 0, none⟩ = some (.int .i64 k)) :
  Calls Tryz.prog 6 #[sheetV (ofSh s) ot cap, .slice ol m.length cl] w fun e w' => e = .returned (.bool true) ∧ Ext w w' := by
 have B := Lib.hid (LB.start (cap := cap) h)
 have R32 := Lib.hid (fun W (hW : LB (ofSh s) ot cap w W) => right_up g hm ot cap ol cl W hW.tins (hi.ext hW.ext))
 have R28 := Lib.hid (fun W (hW : LB (ofSh s) ot cap w W) => sWord_ok s g m hm ot cap ol cl W hW.tins (hi.ext hW.ext))
 have R37t := Lib.hid (fun W (hW : LB (ofSh s) ot cap w W) => corner_t s g ot cap W hW.tins)
 have R37f := Lib.hid (fun W (hW : LB (ofSh s) ot cap w W) => corner_f s g ot cap W hW.tins)
 have R23t := Lib.hid (fun W o c (hW : LB (ofSh s) ot cap w W) (ht : TrisAt W o (ofTr (corner s true)).tins) => sTrue_ok s g m hm _ (corner_good g true) ot cap ol cl o c W hW.tins (hi.ext hW.ext) ht)
 have R23f := Lib.hid (fun W o c (hW : LB (ofSh s) ot cap w W) (ht : TrisAt W o (ofTr (corner s false)).tins) => sTrue_ok s g m hm _ (corner_good g false) ot cap ol cl o c W hW.tins (hi.ext hW.ext) ht)
 have Rk := Lib.hid (fun (W : World) (hW : LB (ofSh s) ot cap w W) => known_any W k (cell_ext hW.ext hk))
 have n := Lib.hid (corner_word g hm)
 generalize trueOf s m (corner s true) = a at *
 generalize trueOf s m (corner s false) = b at *
 generalize wordOf s m = q at *
 clear g hm h hi hk
 go_enter Tryz.func6, Tryz.ntmps6
 go_wp2_with (first | (go_at_call 32; refine (R32.out _ B.out).mono ?_; rintro e w9 ⟨rfl, hE9⟩; replace B := Lib.hid (B.out.next hE9); (try clear c0 c1 c2 c3 c4 c5 c6 c7 c8 c9 c10 c11 c12); have c0 := B.out.box 0 _ rfl; have c1 := B.out.box 1 _ rfl; have c2 := B.out.box 2 _ rfl; have c3 := B.out.box 3 _ rfl; have c4 := B.out.box 4 _ rfl; have c5 := B.out.box 5 _ rfl; have c6 := B.out.box 6 _ rfl; have c7 := B.out.box 7 _ rfl; have c8 := B.out.box 8 _ rfl; have c9 := B.out.box 9 _ rfl; have c10 := B.out.box 10 _ rfl; have c11 := B.out.box 11 _ rfl; have c12 := B.out.box 12 _ rfl; clear hE9) | (go_at_call 28; refine (R28.out _ B.out).mono ?_; rintro e w9 ⟨rfl, hE9⟩; replace B := Lib.hid (B.out.next hE9); (try clear c0 c1 c2 c3 c4 c5 c6 c7 c8 c9 c10 c11 c12); have c0 := B.out.box 0 _ rfl; have c1 := B.out.box 1 _ rfl; have c2 := B.out.box 2 _ rfl; have c3 := B.out.box 3 _ rfl; have c4 := B.out.box 4 _ rfl; have c5 := B.out.box 5 _ rfl; have c6 := B.out.box 6 _ rfl; have c7 := B.out.box 7 _ rfl; have c8 := B.out.box 8 _ rfl; have c9 := B.out.box 9 _ rfl; have c10 := B.out.box 10 _ rfl; have c11 := B.out.box 11 _ rfl; have c12 := B.out.box 12 _ rfl; clear hE9))
 refine wp_region_plan (.take 0 <| .take 1 <| .take 2 <| .only 3 <| .only 4 <| .take 5 <| .take 6 <| .take 7 <| .take 8 <| .take 9 <| .done) (fun W => Ext w9 W) mixed (by kernel_rfl) (by kernel_rfl) rfl (fun _ _ d _ _ h => by cases d <;> exact h) ((Ext.refl w9).drew) ?_
 have X := Lib.hid (Ext.refl w9).drew
 repeat ((first | (refine plan_take (v := ?_) rfl rfl (fun W hW => ?_) ?_; rotate_left; (focus (have d0 := cell_ext hW c0; have d1 := cell_ext hW c1; have d2 := cell_ext hW c2; have d3 := cell_ext hW c3; have d4 := cell_ext hW c4; have d5 := cell_ext hW c5; have d6 := cell_ext hW c6; have d7 := cell_ext hW c7; have d8 := cell_ext hW c8; have d9 := cell_ext hW c9; have d10 := cell_ext hW c10; have d11 := cell_ext hW c11; have d12 := cell_ext hW c12; go_simp; first | exact rfl | (split <;> first | exact rfl | (exfalso; omega)) | done))) | refine plan_skip rfl rfl ?_); simp only [puts])
 refine plan_walk rfl ?_; intro K hK
 go_wp2_with (first | (go_at_call 37; refine (R37t.out _ (B.out.next X.out)).mono ?_; rintro e wm ⟨⟨oat, cat, rfl, ht⟩, hE8⟩))
 replace X := Lib.hid (X.out.trans hE8)
 have HT := Lib.hid ht
 refine hK _ _ X.out ?_
 clear hE8 hK ht
 repeat ((first | (refine plan_take (v := ?_) rfl rfl (fun W hW => ?_) ?_; rotate_left; (focus (skip; go_simp; first | exact rfl | (split <;> first | exact rfl | (exfalso; omega)) | done))) | refine plan_skip rfl rfl ?_); simp only [puts])
 refine plan_walk rfl ?_; intro K hK
 go_wp2_with (first | (go_at_call 23; refine (R23t.out _ _ _ (B.out.next X.out) HT.out).mono ?_; rintro e wt ⟨rfl, hE8⟩))
 replace X := Lib.hid (X.out.trans hE8)
 refine hK _ _ X.out ?_
 clear hE8 hK HT
 repeat ((first | (refine plan_take (v := ?_) rfl rfl (fun W hW => ?_) ?_; rotate_left; (focus (skip; go_simp; first | exact rfl | (split <;> first | exact rfl | (exfalso; omega)) | done))) | refine plan_skip rfl rfl ?_); simp only [puts])
 refine plan_done ?_
 replace B := Lib.hid (B.out.next X.out)
 clear c0 c1 c2 c3 c4 c5 c6 c7 c8 c9 c10 c11 c12
 have c0 := B.out.box 0 _ rfl; have c1 := B.out.box 1 _ rfl; have c2 := B.out.box 2 _ rfl; have c3 := B.out.box 3 _ rfl; have c4 := B.out.box 4 _ rfl; have c5 := B.out.box 5 _ rfl; have c6 := B.out.box 6 _ rfl; have c7 := B.out.box 7 _ rfl; have c8 := B.out.box 8 _ rfl; have c9 := B.out.box 9 _ rfl; have c10 := B.out.box 10 _ rfl; have c11 := B.out.box 11 _ rfl; have c12 := B.out.box 12 _ rfl
 clear X R37t R23t
 go_wp2_with fail
 refine wp_region_plan (.take 0 <| .take 1 <| .take 2 <| .only 3 <| .only 4 <| .take 5 <| .take 6 <| .take 7 <| .take 8 <| .take 9 <| .done) (fun W => Ext wt W) mixed (by kernel_rfl) (by kernel_rfl) rfl (fun _ _ d _ _ h => by cases d <;> exact h) ((Ext.refl wt).drew) ?_
 have X := Lib.hid (Ext.refl wt).drew
 repeat ((first | (refine plan_take (v := ?_) rfl rfl (fun W hW => ?_) ?_; rotate_left; (focus (have d0 := cell_ext hW c0; have d1 := cell_ext hW c1; have d2 := cell_ext hW c2; have d3 := cell_ext hW c3; have d4 := cell_ext hW c4; have d5 := cell_ext hW c5; have d6 := cell_ext hW c6; have d7 := cell_ext hW c7; have d8 := cell_ext hW c8; have d9 := cell_ext hW c9; have d10 := cell_ext hW c10; have d11 := cell_ext hW c11; have d12 := cell_ext hW c12; go_simp; first | exact rfl | (split <;> first | exact rfl | (exfalso; omega)) | done))) | refine plan_skip rfl rfl ?_); simp only [puts])
 refine plan_walk rfl ?_; intro K hK
 go_wp2_with (first | (go_at_call 37; refine (R37f.out _ (B.out.next X.out)).mono ?_; rintro e wn ⟨⟨oaf, caf, rfl, ht⟩, hE8⟩))
 replace X := Lib.hid (X.out.trans hE8)
 have HT := Lib.hid ht
 refine hK _ _ X.out ?_
 clear hE8 hK ht
 repeat ((first | (refine plan_take (v := ?_) rfl rfl (fun W hW => ?_) ?_; rotate_left; (focus (skip; go_simp; first | exact rfl | (split <;> first | exact rfl | (exfalso; omega)) | done))) | refine plan_skip rfl rfl ?_); simp only [puts])
 refine plan_walk rfl ?_; intro K hK
 go_wp2_with (first | (go_at_call 23; refine (R23f.out _ _ _ (B.out.next X.out) HT.out).mono ?_; rintro e wu ⟨rfl, hE8⟩))
 replace X := Lib.hid (X.out.trans hE8)
 refine hK _ _ X.out ?_
 clear hE8 hK HT
 repeat ((first | (refine plan_take (v := ?_) rfl rfl (fun W hW => ?_) ?_; rotate_left; (focus (skip; go_simp; first | exact rfl | (split <;> first | exact rfl | (exfalso; omega)) | done))) | refine plan_skip rfl rfl ?_); simp only [puts])
 refine plan_done ?_
 replace B := Lib.hid (B.out.next X.out)
 clear c0 c1 c2 c3 c4 c5 c6 c7 c8 c9 c10 c11 c12
 have c0 := B.out.box 0 _ rfl; have c1 := B.out.box 1 _ rfl; have c2 := B.out.box 2 _ rfl; have c3 := B.out.box 3 _ rfl; have c4 := B.out.box 4 _ rfl; have c5 := B.out.box 5 _ rfl; have c6 := B.out.box 6 _ rfl; have c7 := B.out.box 7 _ rfl; have c8 := B.out.box 8 _ rfl; have c9 := B.out.box 9 _ rfl; have c10 := B.out.box 10 _ rfl; have c11 := B.out.box 11 _ rfl; have c12 := B.out.box 12 _ rfl
 clear X R37f R23f
 have n0 := n.out
 clear n
 cases a <;> cases b <;> simp only [Bool.and_true, Bool.and_false] at n0 <;> (first | (have n1 : q = 3 := by simpa using n0) | (have n1 : ¬ q = 3 := by simpa using n0))
 all_goals
  go_wp2_with (first | (go_at_call 22; refine (Rk.out _ B.out).mono ?_; rintro e w9 ⟨rfl, hE9⟩; replace B := Lib.hid (B.out.next hE9); (try clear c0 c1 c2 c3 c4 c5 c6 c7 c8 c9 c10 c11 c12); have c0 := B.out.box 0 _ rfl; have c1 := B.out.box 1 _ rfl; have c2 := B.out.box 2 _ rfl; have c3 := B.out.box 3 _ rfl; have c4 := B.out.box 4 _ rfl; have c5 := B.out.box 5 _ rfl; have c6 := B.out.box 6 _ rfl; have c7 := B.out.box 7 _ rfl; have c8 := B.out.box 8 _ rfl; have c9 := B.out.box 9 _ rfl; have c10 := B.out.box 10 _ rfl; have c11 := B.out.box 11 _ rfl; have c12 := B.out.box 12 _ rfl; clear hE9))
  go_ret
  exact ⟨rfl, B.out.ext⟩

theorem law6 {S : SI} {l : List Int} {ot ol : Option Addr} {cap cl : Nat} {w : World} (h : SArg w S ot cap) (hl : LArg w l ol cl) (k : Int) (hk : w.cell? ⟨1, 0, none⟩ = some (.int .i64 k)) :
  Calls Tryz.prog 6 #[sheetV S ot cap, .slice ol l.length cl] w fun e w' => e = .returned (.bool true) ∧ Ext w w' := by
 have B := Lib.hid (LB.start (cap := cap) h.tins)
 have R32 := Lib.hid (fun W (hW : LB S ot cap w W) => right_any S ot cap l ol cl W hW.tins h.small (hl.ints.ext hW.ext) hl.small)
 have Rk := Lib.hid (fun (W : World) (hW : LB S ot cap w W) => known_any W k (cell_ext hW.ext hk))
 cases hr : rightB S l
 ·rw [hr] at R32
  clear h hl hk hr
  go_enter Tryz.func6, Tryz.ntmps6
  go_wp2_with (first | (go_at_call 32; refine (R32.out _ B.out).mono ?_; rintro e w9 ⟨rfl, hE9⟩; replace B := Lib.hid (B.out.next hE9); (try clear c0 c1 c2 c3 c4 c5 c6 c7 c8 c9 c10 c11 c12); have c0 := B.out.box 0 _ rfl; have c1 := B.out.box 1 _ rfl; have c2 := B.out.box 2 _ rfl; have c3 := B.out.box 3 _ rfl; have c4 := B.out.box 4 _ rfl; have c5 := B.out.box 5 _ rfl; have c6 := B.out.box 6 _ rfl; have c7 := B.out.box 7 _ rfl; have c8 := B.out.box 8 _ rfl; have c9 := B.out.box 9 _ rfl; have c10 := B.out.box 10 _ rfl; have c11 := B.out.box 11 _ rfl; have c12 := B.out.box 12 _ rfl; clear hE9) | (go_at_call 22; refine (Rk.out _ B.out).mono ?_; rintro e w9 ⟨rfl, hE9⟩; replace B := Lib.hid (B.out.next hE9); (try clear c0 c1 c2 c3 c4 c5 c6 c7 c8 c9 c10 c11 c12); have c0 := B.out.box 0 _ rfl; have c1 := B.out.box 1 _ rfl; have c2 := B.out.box 2 _ rfl; have c3 := B.out.box 3 _ rfl; have c4 := B.out.box 4 _ rfl; have c5 := B.out.box 5 _ rfl; have c6 := B.out.box 6 _ rfl; have c7 := B.out.box 7 _ rfl; have c8 := B.out.box 8 _ rfl; have c9 := B.out.box 9 _ rfl; have c10 := B.out.box 10 _ rfl; have c11 := B.out.box 11 _ rfl; have c12 := B.out.box 12 _ rfl; clear hE9))
  go_ret
  exact ⟨rfl, B.out.ext⟩
 ·obtain ⟨s, m, rfl, g, rfl, hm⟩ := right_lift h hr
  rw [upL_length]
  exact law6g g hm h.tins hl.ints k hk

end Go.Proofs.YtjpekonfjihcoaaGreatDoor
