/- The walk of TintReads: it answers true. No condition. -/
import Derived.Test.YtjpekonfjihcoaaGreatDoorL18
import Derived.Test.YtjpekonfjihcoaaGreatDoorR20
namespace Go.TintM
end Go.TintM
set_option maxRecDepth 100000
set_option maxHeartbeats 64000000
set_option linter.unusedVariables false
set_option linter.unusedSimpArgs false
namespace Go.Proofs.YtjpekonfjihcoaaGreatDoor
open Go.RowKit Go.My Go.TintM

theorem upL_maps : ∀ {a b : List (List Nat)}, a.map upL = b.map upL → a = b
 | [], [], _ => rfl
 | [], _ :: _, h => by simp at h
 | _ :: _, [], h => by simp at h
 | x :: a, y :: b, h => by
  simp only [List.map_cons, List.cons.injEq] at h
  rw [upL_inj h.1, upL_maps h.2]
theorem tx_back {x : Tx} (hx : Sm x) {s : Sh} (h : siOf x = ofSh s) : txOf s = x := by
 obtain ⟨hd, fd, ts⟩ := x
 obtain ⟨h1, h2, h3⟩ := hx
 match hd, h1.1, fd, h2.1 with
 | [n0, n1, n2, n3, n4, n5], _, [m0, m1, m2, m3, m4, m5], _ =>
  simp only [siOf, ofSh, SI.mk.injEq, List.getD_cons_zero, List.getD_cons_succ] at h
  obtain ⟨e0, e1, e2, e3, e4, e5, e6, e7, e8, e9, e10, e11, e12⟩ := h
  have q := upL_maps e12
  simp only [Int.ofNat_inj] at e0 e1 e2 e3 e4 e5 e6 e7 e8 e9 e10 e11
  simp only [txOf, e0, e1, e2, e3, e4, e5, e6, e7, e8, e9, e10, e11, q]
theorem no_tins (w : World) : TinsAt w none [] := fun i t h => by simp at h
abbrev noV : Value := .agg #[.int .i64 0, .int .i64 0, .int .i64 0, .int .i64 0, .int .i64 0, .int .i64 0, .int .i64 0, .int .i64 0, .int .i64 0, .int .i64 0, .int .i64 0, .int .i64 0, .slice none 0 0]
abbrev noL : List Value := [.int .i64 0, .int .i64 0, .int .i64 0, .int .i64 0, .int .i64 0, .int .i64 0, .int .i64 0, .int .i64 0, .int .i64 0, .int .i64 0, .int .i64 0, .int .i64 0, .slice none 0 0]
theorem same_no (w : World) : Calls Tryz.prog 66 #[noV, noV] w fun e w' => e = .returned (.bool true) ∧ Ext w w' := rsame_any noSI none none 0 0 w (no_tins w) (no_tins w) (by decide)

theorem law19 {l : List UInt8} {w : World} (hl : l.length ≤ 9223372036854775807) (m : Int) (hm : w.cell? ⟨1, 0, none⟩ = some (.int .i64 m)) :
  Calls Tryz.prog 19 #[.string (bs l)] w fun e w' => e = .returned (.bool true) ∧ Ext w w' := by
 have Hm := Lib.hid hm
 have Rk := Lib.hid (fun W (hE : Ext w W) => known_any W m (cell_ext hE hm))
 clear hm
 by_cases h260 : (260 : Int) < (l.length : Int)
 ·have HE := Lib.hid (Ext.refl w)
  go_enter Tryz.func19, Tryz.ntmps19
  go_wp2_with (first | (go_at_call 22; refine (Rk.out _ HE.out).mono ?_; rintro e w9 ⟨rfl, hE9⟩; replace HE := Lib.hid (HE.out.trans hE9); clear hE9))
  go_ret
  exact ⟨rfl, HE.out⟩
 ·have R67 := Lib.hid (fun W => rread_any l W (by omega))
  by_cases h160 : l.length ≤ 160
  ·have h160I : ¬ (160 : Int) < (l.length : Int) := by omega
   cases hp : parse l with
   | none =>
    have R64 := Lib.hid (read_text l m w h160 Hm.out hp)
    have Hp := Lib.hid hp
    clear hp hl
    go_enter Tryz.func19, Tryz.ntmps19
    go_wp2_with (first | (go_at_call 64; refine R64.out.mono ?_; rintro e w1 ⟨rfl, hE1⟩; have HE := Lib.hid (hE1.alloc (.cells noL.toArray 28)); have Y := Lib.hid (VB.new w1 noL 28); clear hE1) | (go_at_call 67; refine (R67.out _).mono ?_; rintro e w2 ⟨hrr, hE2⟩; obtain rfl := hrr.2 Hp.out; replace HE := Lib.hid (HE.out.trans hE2); replace Y := Lib.hid (Y.out.ext hE2); have y0 := Y.out 0 _ rfl; have y1 := Y.out 1 _ rfl; have y2 := Y.out 2 _ rfl; have y3 := Y.out 3 _ rfl; have y4 := Y.out 4 _ rfl; have y5 := Y.out 5 _ rfl; have y6 := Y.out 6 _ rfl; have y7 := Y.out 7 _ rfl; have y8 := Y.out 8 _ rfl; have y9 := Y.out 9 _ rfl; have y10 := Y.out 10 _ rfl; have y11 := Y.out 11 _ rfl; have y12 := Y.out 12 _ rfl; (try dsimp only at y0 y1 y2 y3 y4 y5 y6 y7 y8 y9 y10 y11 y12); have hlt := World.block_lt_of_cell? _ _ y0; have hne := Nat.ne_of_lt hlt; simp only at hlt hne; replace HE := Lib.hid (HE.out.alloc (.cells noL.toArray 28)); clear hrr hE2) | (go_at_call 66; refine (same_no _).mono ?_; rintro e w8 ⟨rfl, hE9⟩; replace HE := Lib.hid (HE.out.trans hE9); clear hE9 y0 y1 y2 y3 y4 y5 y6 y7 y8 y9 y10 y11 y12) | (go_at_call 22; refine (Rk.out _ HE.out).mono ?_; rintro e w9 ⟨rfl, hE9⟩; replace HE := Lib.hid (HE.out.trans hE9); clear hE9))
    go_ret
    exact ⟨rfl, HE.out⟩
   | some x =>
    have hsm := (parse_iff.1 hp).1
    have htx := (parse_iff.1 hp).2
    have htl : x.tins.length ≤ 200 := by
     have h1 := spl_text hsm
     have h2 := spl_len 10 (textB x)
     rw [h1, List.length_append, linesB_length, htx] at h2
     simp at h2; omega
    have hsl : (siOf x).tins.length ≤ 9223372036854775807 := by rw [tinsLen]; omega
    have Hp := Lib.hid hp
    have R24 := Lib.hid (fun W o c (hr : TinsAt W o (siOf x).tins) => rSheet_any (siOf x) o c W hr hsl)
    cases hbd : sheetB (siOf x)
    ·have R64 := Lib.hid (read_arg l m w h160 Hm.out x hp hbd)
     simp only [hbd] at R24
     clear hp hl hbd hsm htx
     go_enter Tryz.func19, Tryz.ntmps19
     go_wp2_with (first | (go_at_call 64; refine R64.out.mono ?_; rintro e w1 ⟨rfl, hE1⟩; have HE := Lib.hid (hE1.alloc (.cells noL.toArray 28)); have Y := Lib.hid (VB.new w1 noL 28); clear hE1) | (go_at_call 67; refine (R67.out _).mono ?_; rintro e w2 ⟨hrr, hE2⟩; obtain ⟨o5, c5, rfl, hr5⟩ := hrr.1 x Hp.out; replace HE := Lib.hid (HE.out.trans hE2); replace Y := Lib.hid (Y.out.ext hE2); have Z := Lib.hid (vb_sheet w2 (siOf x) o5 c5); have Hr5 := Lib.hid (hr5.ext ((Ext.refl w2).alloc (.cells (sheetC (siOf x) o5 c5) 28))); have y0 := Y.out 0 _ rfl; have y1 := Y.out 1 _ rfl; have y2 := Y.out 2 _ rfl; have y3 := Y.out 3 _ rfl; have y4 := Y.out 4 _ rfl; have y5 := Y.out 5 _ rfl; have y6 := Y.out 6 _ rfl; have y7 := Y.out 7 _ rfl; have y8 := Y.out 8 _ rfl; have y9 := Y.out 9 _ rfl; have y10 := Y.out 10 _ rfl; have y11 := Y.out 11 _ rfl; have y12 := Y.out 12 _ rfl; (try dsimp only at y0 y1 y2 y3 y4 y5 y6 y7 y8 y9 y10 y11 y12); have hlt := World.block_lt_of_cell? _ _ y0; have hne := Nat.ne_of_lt hlt; simp only at hlt hne; replace Y := Lib.hid (Y.out.ext ((Ext.refl w2).alloc (.cells (sheetC (siOf x) o5 c5) 28))); replace HE := Lib.hid (HE.out.alloc (.cells (sheetC (siOf x) o5 c5) 28)); clear hrr hE2 hr5) | (go_at_call 24; refine (R24.out _ o5 c5 Hr5.out).mono ?_; rintro e w3 ⟨rfl, hE3⟩; replace HE := Lib.hid (HE.out.trans hE3); clear y0 y1 y2 y3 y4 y5 y6 y7 y8 y9 y10 y11 y12; replace Y := Lib.hid (Y.out.ext hE3); have y0 := Y.out 0 _ rfl; have y1 := Y.out 1 _ rfl; have y2 := Y.out 2 _ rfl; have y3 := Y.out 3 _ rfl; have y4 := Y.out 4 _ rfl; have y5 := Y.out 5 _ rfl; have y6 := Y.out 6 _ rfl; have y7 := Y.out 7 _ rfl; have y8 := Y.out 8 _ rfl; have y9 := Y.out 9 _ rfl; have y10 := Y.out 10 _ rfl; have y11 := Y.out 11 _ rfl; have y12 := Y.out 12 _ rfl; (try dsimp only at y0 y1 y2 y3 y4 y5 y6 y7 y8 y9 y10 y11 y12); have hlt := World.block_lt_of_cell? _ _ y0; have hne := Nat.ne_of_lt hlt; simp only at hlt hne; clear hE3) | (go_at_call 66; refine (same_no _).mono ?_; rintro e w8 ⟨rfl, hE9⟩; replace HE := Lib.hid (HE.out.trans hE9); clear hE9 y0 y1 y2 y3 y4 y5 y6 y7 y8 y9 y10 y11 y12) | (go_at_call 22; refine (Rk.out _ HE.out).mono ?_; rintro e w9 ⟨rfl, hE9⟩; replace HE := Lib.hid (HE.out.trans hE9); clear hE9))
     go_ret
     exact ⟨rfl, HE.out⟩
    ·have R64 := Lib.hid (read_ok l m w h160 Hm.out x hp hbd)
     simp only [hbd] at R24
     obtain ⟨s, hs, g⟩ := sheet_lift (fun t ht => by
      simp only [siOf, List.mem_map] at ht
      obtain ⟨t0, h0, rfl⟩ := ht
      rw [upL_length]; exact (hsm.tins t0 h0).1) hbd
     have R63 := Lib.hid (fun W o c (hr : TinsAt W o (siOf x).tins) => (show Calls Tryz.prog 63 #[sheetV (siOf x) o c] W fun e w' => e = .returned (.tuple #[.string (bs l), .int .i64 0]) ∧ Ext W w' by
      rw [hs] at hr ⊢
      have := sPrint_any s g o c W hr
      rw [tx_back hsm hs, htx] at this
      exact this))
     have R66 := Lib.hid (fun W oa ob ca cb (ha : TinsAt W oa (siOf x).tins) (hb : TinsAt W ob (siOf x).tins) => rsame_any (siOf x) oa ob ca cb W ha hb hsl)
     clear hp hl hbd hsm htx hs g
     go_enter Tryz.func19, Tryz.ntmps19
     go_wp2_with (first | (go_at_call 64; refine R64.out.mono ?_; rintro e w1 ⟨⟨o4, c4, rfl, hr4⟩, hE1⟩; have HE := Lib.hid (hE1.alloc (.cells (sheetC (siOf x) o4 c4) 28)); have Y := Lib.hid (vb_sheet w1 (siOf x) o4 c4); have Hr4 := Lib.hid (hr4.ext ((Ext.refl w1).alloc (.cells (sheetC (siOf x) o4 c4) 28))); clear hE1 hr4) | (go_at_call 67; refine (R67.out _).mono ?_; rintro e w2 ⟨hrr, hE2⟩; obtain ⟨o5, c5, rfl, hr5⟩ := hrr.1 x Hp.out; replace HE := Lib.hid (HE.out.trans hE2); replace Y := Lib.hid (Y.out.ext hE2); have Z := Lib.hid (vb_sheet w2 (siOf x) o5 c5); have Hr5 := Lib.hid (hr5.ext ((Ext.refl w2).alloc (.cells (sheetC (siOf x) o5 c5) 28))); replace Hr4 := Lib.hid (Hr4.out.ext (hE2.alloc (.cells (sheetC (siOf x) o5 c5) 28))); have y0 := Y.out 0 _ rfl; have y1 := Y.out 1 _ rfl; have y2 := Y.out 2 _ rfl; have y3 := Y.out 3 _ rfl; have y4 := Y.out 4 _ rfl; have y5 := Y.out 5 _ rfl; have y6 := Y.out 6 _ rfl; have y7 := Y.out 7 _ rfl; have y8 := Y.out 8 _ rfl; have y9 := Y.out 9 _ rfl; have y10 := Y.out 10 _ rfl; have y11 := Y.out 11 _ rfl; have y12 := Y.out 12 _ rfl; (try dsimp only at y0 y1 y2 y3 y4 y5 y6 y7 y8 y9 y10 y11 y12); have hlt := World.block_lt_of_cell? _ _ y0; have hne := Nat.ne_of_lt hlt; simp only at hlt hne; replace Y := Lib.hid (Y.out.ext ((Ext.refl w2).alloc (.cells (sheetC (siOf x) o5 c5) 28))); replace HE := Lib.hid (HE.out.alloc (.cells (sheetC (siOf x) o5 c5) 28)); clear hrr hE2 hr5) | (go_at_call 24; refine (R24.out _ o5 c5 Hr5.out).mono ?_; rintro e w3 ⟨rfl, hE3⟩; replace HE := Lib.hid (HE.out.trans hE3); replace Hr4 := Lib.hid (Hr4.out.ext hE3); replace Hr5 := Lib.hid (Hr5.out.ext hE3); clear y0 y1 y2 y3 y4 y5 y6 y7 y8 y9 y10 y11 y12; replace Y := Lib.hid (Y.out.ext hE3); replace Z := Lib.hid (Z.out.ext hE3); have y0 := Y.out 0 _ rfl; have y1 := Y.out 1 _ rfl; have y2 := Y.out 2 _ rfl; have y3 := Y.out 3 _ rfl; have y4 := Y.out 4 _ rfl; have y5 := Y.out 5 _ rfl; have y6 := Y.out 6 _ rfl; have y7 := Y.out 7 _ rfl; have y8 := Y.out 8 _ rfl; have y9 := Y.out 9 _ rfl; have y10 := Y.out 10 _ rfl; have y11 := Y.out 11 _ rfl; have y12 := Y.out 12 _ rfl; (try dsimp only at y0 y1 y2 y3 y4 y5 y6 y7 y8 y9 y10 y11 y12); have hlt := World.block_lt_of_cell? _ _ y0; have hne := Nat.ne_of_lt hlt; simp only at hlt hne; have z0 := Z.out 0 _ rfl; have z1 := Z.out 1 _ rfl; have z2 := Z.out 2 _ rfl; have z3 := Z.out 3 _ rfl; have z4 := Z.out 4 _ rfl; have z5 := Z.out 5 _ rfl; have z6 := Z.out 6 _ rfl; have z7 := Z.out 7 _ rfl; have z8 := Z.out 8 _ rfl; have z9 := Z.out 9 _ rfl; have z10 := Z.out 10 _ rfl; have z11 := Z.out 11 _ rfl; have z12 := Z.out 12 _ rfl; (try dsimp only at z0 z1 z2 z3 z4 z5 z6 z7 z8 z9 z10 z11 z12); clear hE3) | (go_at_call 63; refine (R63.out _ o4 c4 Hr4.out).mono ?_; rintro e w4 ⟨rfl, hE3⟩; replace HE := Lib.hid (HE.out.trans hE3); replace Hr4 := Lib.hid (Hr4.out.ext hE3); replace Hr5 := Lib.hid (Hr5.out.ext hE3); clear y0 y1 y2 y3 y4 y5 y6 y7 y8 y9 y10 y11 y12; clear z0 z1 z2 z3 z4 z5 z6 z7 z8 z9 z10 z11 z12; replace Y := Lib.hid (Y.out.ext hE3); replace Z := Lib.hid (Z.out.ext hE3); have y0 := Y.out 0 _ rfl; have y1 := Y.out 1 _ rfl; have y2 := Y.out 2 _ rfl; have y3 := Y.out 3 _ rfl; have y4 := Y.out 4 _ rfl; have y5 := Y.out 5 _ rfl; have y6 := Y.out 6 _ rfl; have y7 := Y.out 7 _ rfl; have y8 := Y.out 8 _ rfl; have y9 := Y.out 9 _ rfl; have y10 := Y.out 10 _ rfl; have y11 := Y.out 11 _ rfl; have y12 := Y.out 12 _ rfl; (try dsimp only at y0 y1 y2 y3 y4 y5 y6 y7 y8 y9 y10 y11 y12); have hlt := World.block_lt_of_cell? _ _ y0; have hne := Nat.ne_of_lt hlt; simp only at hlt hne; have z0 := Z.out 0 _ rfl; have z1 := Z.out 1 _ rfl; have z2 := Z.out 2 _ rfl; have z3 := Z.out 3 _ rfl; have z4 := Z.out 4 _ rfl; have z5 := Z.out 5 _ rfl; have z6 := Z.out 6 _ rfl; have z7 := Z.out 7 _ rfl; have z8 := Z.out 8 _ rfl; have z9 := Z.out 9 _ rfl; have z10 := Z.out 10 _ rfl; have z11 := Z.out 11 _ rfl; have z12 := Z.out 12 _ rfl; (try dsimp only at z0 z1 z2 z3 z4 z5 z6 z7 z8 z9 z10 z11 z12); clear hE3) | (go_at_call 66; refine (R66.out _ o4 o5 c4 c5 Hr4.out Hr5.out).mono ?_; rintro e w8 ⟨rfl, hE9⟩; replace HE := Lib.hid (HE.out.trans hE9); clear y0 y1 y2 y3 y4 y5 y6 y7 y8 y9 y10 y11 y12; clear z0 z1 z2 z3 z4 z5 z6 z7 z8 z9 z10 z11 z12; clear hE9) | (go_at_call 22; refine (Rk.out _ HE.out).mono ?_; rintro e w9 ⟨rfl, hE9⟩; replace HE := Lib.hid (HE.out.trans hE9); clear hE9))
     go_ret
     exact ⟨rfl, HE.out⟩
  ·have h160I : (160 : Int) < (l.length : Int) := by omega
   have R64 := Lib.hid (read_long l w h160 hl)
   cases hp : parse l with
   | none =>
    have Hp := Lib.hid hp
    clear hp hl
    go_enter Tryz.func19, Tryz.ntmps19
    go_wp2_with (first | (go_at_call 64; refine R64.out.mono ?_; rintro e w1 ⟨rfl, hE1⟩; have HE := Lib.hid (hE1.alloc (.cells noL.toArray 28)); have Y := Lib.hid (VB.new w1 noL 28); clear hE1) | (go_at_call 67; refine (R67.out _).mono ?_; rintro e w2 ⟨hrr, hE2⟩; obtain rfl := hrr.2 Hp.out; replace HE := Lib.hid (HE.out.trans hE2); replace Y := Lib.hid (Y.out.ext hE2); have y0 := Y.out 0 _ rfl; have y1 := Y.out 1 _ rfl; have y2 := Y.out 2 _ rfl; have y3 := Y.out 3 _ rfl; have y4 := Y.out 4 _ rfl; have y5 := Y.out 5 _ rfl; have y6 := Y.out 6 _ rfl; have y7 := Y.out 7 _ rfl; have y8 := Y.out 8 _ rfl; have y9 := Y.out 9 _ rfl; have y10 := Y.out 10 _ rfl; have y11 := Y.out 11 _ rfl; have y12 := Y.out 12 _ rfl; (try dsimp only at y0 y1 y2 y3 y4 y5 y6 y7 y8 y9 y10 y11 y12); have hlt := World.block_lt_of_cell? _ _ y0; have hne := Nat.ne_of_lt hlt; simp only at hlt hne; replace HE := Lib.hid (HE.out.alloc (.cells noL.toArray 28)); clear hrr hE2) | (go_at_call 66; refine (same_no _).mono ?_; rintro e w8 ⟨rfl, hE9⟩; replace HE := Lib.hid (HE.out.trans hE9); clear hE9 y0 y1 y2 y3 y4 y5 y6 y7 y8 y9 y10 y11 y12) | (go_at_call 22; refine (Rk.out _ HE.out).mono ?_; rintro e w9 ⟨rfl, hE9⟩; replace HE := Lib.hid (HE.out.trans hE9); clear hE9))
    go_ret
    exact ⟨rfl, HE.out⟩
   | some x =>
    have Hp := Lib.hid hp
    clear hp hl
    go_enter Tryz.func19, Tryz.ntmps19
    go_wp2_with (first | (go_at_call 64; refine R64.out.mono ?_; rintro e w1 ⟨rfl, hE1⟩; have HE := Lib.hid (hE1.alloc (.cells noL.toArray 28)); have Y := Lib.hid (VB.new w1 noL 28); clear hE1) | (go_at_call 67; refine (R67.out _).mono ?_; rintro e w2 ⟨hrr, hE2⟩; obtain ⟨o5, c5, rfl, hr5⟩ := hrr.1 x Hp.out; replace HE := Lib.hid (HE.out.trans hE2); replace Y := Lib.hid (Y.out.ext hE2); have Z := Lib.hid (vb_sheet w2 (siOf x) o5 c5); have Hr5 := Lib.hid (hr5.ext ((Ext.refl w2).alloc (.cells (sheetC (siOf x) o5 c5) 28))); have y0 := Y.out 0 _ rfl; have y1 := Y.out 1 _ rfl; have y2 := Y.out 2 _ rfl; have y3 := Y.out 3 _ rfl; have y4 := Y.out 4 _ rfl; have y5 := Y.out 5 _ rfl; have y6 := Y.out 6 _ rfl; have y7 := Y.out 7 _ rfl; have y8 := Y.out 8 _ rfl; have y9 := Y.out 9 _ rfl; have y10 := Y.out 10 _ rfl; have y11 := Y.out 11 _ rfl; have y12 := Y.out 12 _ rfl; (try dsimp only at y0 y1 y2 y3 y4 y5 y6 y7 y8 y9 y10 y11 y12); have hlt := World.block_lt_of_cell? _ _ y0; have hne := Nat.ne_of_lt hlt; simp only at hlt hne; replace Y := Lib.hid (Y.out.ext ((Ext.refl w2).alloc (.cells (sheetC (siOf x) o5 c5) 28))); replace HE := Lib.hid (HE.out.alloc (.cells (sheetC (siOf x) o5 c5) 28)); clear hrr hE2 hr5) | (go_at_call 66; refine (same_no _).mono ?_; rintro e w8 ⟨rfl, hE9⟩; replace HE := Lib.hid (HE.out.trans hE9); clear hE9 y0 y1 y2 y3 y4 y5 y6 y7 y8 y9 y10 y11 y12) | (go_at_call 22; refine (Rk.out _ HE.out).mono ?_; rintro e w9 ⟨rfl, hE9⟩; replace HE := Lib.hid (HE.out.trans hE9); clear hE9))
    go_ret
    exact ⟨rfl, HE.out⟩

end Go.Proofs.YtjpekonfjihcoaaGreatDoor
