/- Contract of the reference: Parted. No condition beyond sheets as defined and small numbers. -/
import Derived.ArgAppend
import Derived.Below
import Derived.BigQuiet
import Derived.Deep.DeepCutAuto
import Derived.Deep.DeepFit
import Derived.Deep.LoopGhost
import Derived.Deep.QuietTactic
import Derived.Deep.RegionHeld
import Derived.Deep.RegionHeld3
import Derived.Deep.RegionWith
import Derived.Deep.Upon
import Derived.Defers
import Derived.Laws.BytesArg
import Derived.Laws.EntriesVeiled
import Derived.Laws.OwnMore
import Derived.Lib.Hide
import Derived.Lib.IndexBytes
import Derived.Lib.ItoaNum
import Derived.Lib.SplitLaws
import Derived.LoopIn
import Derived.LoopNIn
import Derived.Maps.AppendAt
import Derived.Maps.Keyed
import Derived.Maps.OwnIn
import Derived.OrdersHeld
import Derived.OwnWalkIn
import Derived.RangeFuncBound
import Derived.RangeFuncCalls
import Derived.RangeFuncLeaves
import Derived.RangeFuncNested
import Derived.Recover
import Derived.RegionIn
import Derived.Shelf.Abstract
import Derived.Shelf.Strconv.Itoa3
import Derived.Shelf.Strings.Split
import Derived.TacticsIn
import Derived.TacticsInMore
import Derived.Test.YtjpekonfjihcoaaGreatDoorProg
import Derived.WalkKit
import Derived.WalkLawsBesides
import Derived.WalkSpells
import Derived.Test.YtjpekonfjihcoaaGreatDoorM2
import Derived.Test.YtjpekonfjihcoaaGreatDoorAims3
import Derived.Test.YtjpekonfjihcoaaGreatDoorM3
import Derived.Test.YtjpekonfjihcoaaGreatDoorM24
import Derived.Test.YtjpekonfjihcoaaGreatDoorM4
import Derived.Test.YtjpekonfjihcoaaGreatDoorM14
import Derived.Test.YtjpekonfjihcoaaGreatDoorR12
import Derived.Test.YtjpekonfjihcoaaGreatDoorM1
import Derived.Test.YtjpekonfjihcoaaGreatDoorM17
namespace Go.TintM
end Go.TintM
set_option maxRecDepth 100000
set_option maxHeartbeats 64000000
set_option linter.unusedVariables false
set_option linter.unusedSimpArgs false
namespace Go.Proofs.YtjpekonfjihcoaaGreatDoor
open Go.RowKit Go.My Go.TintM

abbrev minF (d : Nat → Int) (lo hi : Nat → Nat) (p : Nat) : Int := min (d p * lo p) (d p * hi p)
abbrev offF (s : Sh) (d : Nat → Int) (p : Nat) : Int := (s.off : Int) * max (d p) (-d p)
theorem offF_end (s : Sh) (d : Nat → Int) : triTo (offF s d) 3 = (s.off : Int) * sizeD d := by
 rw [triTo_3]
 unfold sizeD tri offF
 rw [Int.mul_add, Int.mul_add]
theorem offF_in {s : Sh} (g : Fine s) {d : Nat → Int} (hd : ∀ p, p < 3 → -2 ≤ d p ∧ d p ≤ 2) : ∀ p, p < 3 → -40 ≤ offF s d p ∧ offF s d p ≤ 40 := fun p hp => by
 have h1 := hd p hp
 have h2 := g.off2
 have h3 : 0 ≤ max (d p) (-d p) ∧ max (d p) (-d p) ≤ 2 := by omega
 have h4 := Int.mul_le_mul (show (s.off : Int) ≤ 20 by omega) h3.2 h3.1 (by omega)
 have h5 := Int.mul_nonneg (show (0 : Int) ≤ (s.off : Int) by omega) h3.1
 unfold offF
 omega
theorem minF_in {d : Nat → Int} {lo hi : Nat → Nat} (hd : ∀ p, p < 3 → -2 ≤ d p ∧ d p ≤ 2) (hl : ∀ p, p < 3 → lo p ≤ 99 ∧ hi p ≤ 99) : ∀ p, p < 3 → -198 ≤ minF d lo hi p ∧ minF d lo hi p ≤ 198 := fun p hp => by
 have h1 := mul_in (hd p hp) (hl p hp).1
 have h2 := mul_in (hd p hp) (hl p hp).2
 unfold minF
 omega

theorem rParted_any (s : Sh) (g : Fine s) (d : Nat → Int) (hd : ∀ p, p < 3 → -2 ≤ d p ∧ d p ≤ 2) (ot : Option Addr) (cap : Nat) (w : World) (h : TinsAt w ot (ofSh s).tins) :
  Calls Tryz.prog 58 #[sheetV (ofSh s) ot cap, dirV d] w fun e w' => e = .returned (.bool (parted s d)) ∧ Ext w w' := by
 have R61 := Lib.hid (fun W => rAim_any s g ot cap W)
 have Hd := Lib.hid hd
 have Hl := Lib.hid (aim_small g)
 have Hs1 := Lib.hid (triTo_small (minF_in hd (aim_small g)))
 have Hs2 := Lib.hid (triTo_small (offF_in g hd))
 have He1 := Lib.hid (show triTo (minF d (aimLo s) (aimHi s)) 3 = lessD d (aimLo s) (aimHi s) from triTo_3 _)
 have He2 := Lib.hid (offF_end s d)
 have Hu1 := Lib.hid (fun k => (show triTo (minF d (aimLo s) (aimHi s)) (k + 1) = triTo (minF d (aimLo s) (aimHi s)) k + minF d (aimLo s) (aimHi s) k from rfl))
 have Hu2 := Lib.hid (fun k => (show triTo (offF s d) (k + 1) = triTo (offF s d) k + offF s d k from rfl))
 have hof := Lib.hid (offF_in g hd)
 have h01 : triTo (minF d (aimLo s) (aimHi s)) 0 = 0 := rfl
 have h02 : triTo (offF s d) 0 = 0 := rfl
 have H := Lib.hid h
 have RC := Lib.hid (fun t (ht : t ∈ s.tins) W => ralong_any d (tlo t) (thi t) hd (fun p hp => by have := g.tin t ht p hp; omega) W)
 have Hmo := Lib.hid (fun t (ht : t ∈ s.tins) => (show -594 ≤ moreD d (tlo t) (thi t) ∧ moreD d (tlo t) (thi t) ≤ 594 by
  have hf : ∀ p, p < 3 → -198 ≤ max (d p * tlo t p) (d p * thi t p) ∧ max (d p * tlo t p) (d p * thi t p) ≤ 198 := fun p hp => by
   have hh := g.tin t ht p hp
   have h1 := mul_in (hd p hp) (show tlo t p ≤ 99 by omega)
   have h2 := mul_in (hd p hp) (show thi t p ≤ 99 by omega)
   omega
  have h3 := triTo_small hf 3 (by omega)
  rw [triTo_3] at h3
  exact ⟨by have := h3.1; unfold moreD; omega, by have := h3.2; unfold moreD; omega⟩))
 have H6 := Lib.hid g.six
 have Hpar := Lib.hid (show parted s d = s.tins.all fun t => decide (moreD d (tlo t) (thi t) + s.off * sizeD d < lessD d (aimLo s) (aimHi s)) from rfl)
 have hoff2 := g.off2
 have hlen4 := g.len2
 go_enter Tryz.func58, Tryz.ntmps58
 clear h g hd
 go_wp2_with (first | (go_at_call 61; refine (R61.out _).mono ?_; rintro e w1 ⟨rfl, hE1⟩; have HE1 := Lib.hid hE1; clear hE1))
 have X0 : Ext w ((w.alloc (.cells (sheetC (ofSh s) ot cap) 28)).alloc (.cells #[.int .i64 (d 0), .int .i64 (d 1), .int .i64 (d 2)] 22)) := ((Ext.refl w).alloc _).alloc _
 obtain ⟨w2, hw2⟩ : ∃ W, W = w1.alloc (.cells (ampC (aimLo s) (aimHi s)) 25) := ⟨_, rfl⟩
 have HE2 := Lib.hid (show Ext w w2 by rw [hw2]; exact (X0.trans HE1.out).alloc _)
 have HP := Lib.hid (show SheetBox w2 w.heap.size (ofSh s) ot cap by rw [hw2]; exact ((SheetBox.new w (ofSh s) ot cap).ext (((Ext.refl _).alloc _).trans HE1.out)).ext ((Ext.refl _).alloc _))
 have HD := Lib.hid (show DirBox w2 (w.heap.size + 1) d by
  have := (DirBox.new (w.alloc (.cells (sheetC (ofSh s) ot cap) 28)) d).ext (HE1.out.trans ((Ext.refl _).alloc (.cells (ampC (aimLo s) (aimHi s)) 25)))
  rw [World.size_alloc] at this
  rw [hw2]; exact this)
 have HA := Lib.hid (show AmpBox w2 w1.heap.size (aimLo s) (aimHi s) by rw [hw2]; exact AmpBox.new _ _ _)
 rw [← hw2]
 clear hw2 X0 HE1
 go_loopg [6, 7, 8] 3 (fun g u v i wr => ∃ k : Nat, k + g = 3 ∧ i = .int .i64 k ∧ Ext w2 wr ∧ u = .int .i64 (triTo (minF d (aimLo s) (aimHi s)) k) ∧ v = .int .i64 (triTo (offF s d) k))
 case atStart => exact ⟨0, by omega, rfl, Ext.refl _, by rw [h01], by rw [h02]⟩
 case round =>
  clear h01 h02
  obtain ⟨k, hk, rfl, hE, rfl, rfl⟩ := hrel
  have HE := Lib.hid hE
  by_cases hk3 : k < 3
  ·have hkI : (k : Int) < 3 := by omega
   have e1 := (HD.out.ext hE).c k hk3
   have e2 := (HA.out.ext hE).c0 k hk3
   have e3 := (HA.out.ext hE).c1 k hk3
   have c11 : wr.cell? ⟨w.heap.size, 11, none⟩ = some (.int .i64 (s.off : Int)) := (HP.out.ext hE) 11 _ rfl
   have hdk := Hd.out k hk3
   have hlk := Hl.out k hk3
   have hs1 := Hs1.out k (by omega)
   have hs2 := Hs2.out k (by omega)
   have hok := hof.out k hk3
   have U1 := Lib.hid (Hu1.out k)
   have U2 := Lib.hid (Hu2.out k)
   clear hE
   simp only [minF, offF] at U1 U2 hok
   generalize triTo (minF d (aimLo s) (aimHi s)) k = S1 at *
   generalize triTo (offF s d) k = S2 at *
   generalize aimLo s k = A at *
   generalize aimHi s k = B at *
   generalize d k = D at *
   have m1 := mul_in hdk hlk.1
   have m2 := mul_in hdk hlk.2
   obtain ⟨X, hX⟩ : ∃ X, D * (A : Int) = X := ⟨_, rfl⟩
   obtain ⟨Y, hY⟩ : ∃ Y, D * (B : Int) = Y := ⟨_, rfl⟩
   rw [hX] at m1
   rw [hY] at m2
   rw [hX, hY] at U1
   obtain ⟨Z, hZ⟩ : ∃ Z, max D (-D) = Z := ⟨_, rfl⟩
   rw [hZ] at U2 hok
   have q0 : IntKind.i64.wrap (-D) = -D := by rw [IntWalk.i64_in _ (by omega)]
   have q1 : IntKind.i64.wrap X = X := by rw [IntWalk.i64_in _ (by omega)]
   have q2 : IntKind.i64.wrap Y = Y := by rw [IntWalk.i64_in _ (by omega)]
   obtain ⟨M, hM⟩ : ∃ M, min X Y = M := ⟨_, rfl⟩
   rw [hM] at U1
   have hmx : (if Y < X then Y else X) = M := by rw [← hM]; split <;> omega
   have hmz : (if D < -D then -D else D) = Z := by rw [← hZ]; split <;> omega
   obtain ⟨O, hO⟩ : ∃ O, (s.off : Int) * Z = O := ⟨_, rfl⟩
   rw [hO] at U2 hok
   have q3 : IntKind.i64.wrap (S1 + M) = S1 + M := by rw [IntWalk.i64_in _ (by omega)]
   have q4 : IntKind.i64.wrap O = O := by rw [IntWalk.i64_in _ (by omega)]
   have q5 : IntKind.i64.wrap (S2 + O) = S2 + O := by rw [IntWalk.i64_in _ (by omega)]
   clear m1 m2 hdk hlk hs1 hs2 hok
   go_wp2_with fail
   refine wp_region_plan (.take 0 <| .take 1 <| .take 2 <| .take 3 <| .take 4 <| .take 5 <| .take 6 <| .take 7 <| .take 8 <| .take 9 <| .take 10 <| .take 11 <| .take 12 <| .take 13 <| .take 14 <| .take 15 <| .take 16 <| .take 17 <| .take 18 <| .take 19 <| .done) (fun W => Ext wr W) mixed (by kernel_rfl) (by kernel_rfl) rfl (fun _ _ d _ _ h => by cases d <;> exact h) ((Ext.refl wr).drew) ?_
   repeat ((first | (refine plan_take (v := ?_) rfl rfl (fun W hW => ?_) ?_; rotate_left; (focus (have d0 := cell_ext hW e1; have d1 := cell_ext hW e2; have d2 := cell_ext hW e3; go_simp; first | exact rfl | (split <;> first | exact rfl | (exfalso; omega)) | done))) | refine plan_skip rfl rfl ?_); simp only [puts])
   refine plan_done ?_
   have XD := Lib.hid (Ext.refl wr).drew
   have e1' := cell_ext XD.out e1
   have c11' := cell_ext XD.out c11
   clear e1 e2 e3 c11
   generalize wr.drew = wd at *
   go_wp2_with fail
   refine wp_region_plan (.take 0 <| .take 1 <| .take 2 <| .take 3 <| .take 4 <| .take 5 <| .take 6 <| .take 7 <| .take 8 <| .take 9 <| .take 10 <| .take 11 <| .take 12 <| .take 13 <| .done) (fun W => Ext wd W) mixed (by kernel_rfl) (by kernel_rfl) rfl (fun _ _ d _ _ h => by cases d <;> exact h) ((Ext.refl wd).drew) ?_
   repeat ((first | (refine plan_take (v := ?_) rfl rfl (fun W hW => ?_) ?_; rotate_left; (focus (have d0 := cell_ext hW e1'; have d1 := cell_ext hW c11'; go_simp; first | exact rfl | (split <;> first | exact rfl | (exfalso; omega)) | done))) | refine plan_skip rfl rfl ?_); simp only [puts])
   refine plan_done ?_
   clear e1' c11'
   go_wp2
   go_roundg (gk - 1)
   case measure => omega
   case rel => exact ⟨k + 1, by omega, by go_num, HE.out.trans (XD.out.trans (Ext.refl wd).drew), by rw [U1.out], by rw [U2.out]⟩
  ·obtain rfl : k = 3 := by omega
   have b1 := Hs1.out 3 (by omega)
   have b2 := Hs2.out 3 (by omega)
   rw [He1.out] at b1 ⊢
   rw [He2.out] at b2 ⊢
   have HEw := Lib.hid hE
   obtain ⟨LL, hLL⟩ : ∃ x, x = lessD d (aimLo s) (aimHi s) := ⟨_, rfl⟩
   obtain ⟨OO, hOO⟩ : ∃ x, x = (s.off : Int) * sizeD d := ⟨_, rfl⟩
   rw [← hLL] at b1 Hpar ⊢
   rw [← hOO] at b2 Hpar ⊢
   clear hLL hOO He1 He2 Hs1 Hs2 Hu1 Hu2 hof Hl HA hE
   obtain ⟨P, hP⟩ : ∃ P : List Nat → Bool, P = fun t => decide (moreD d (tlo t) (thi t) + OO < LL) := ⟨_, rfl⟩
   rw [← hP] at Hpar
   have HPd := Lib.hid (fun t => (show P t = decide (moreD d (tlo t) (thi t) + OO < LL) by rw [hP]))
   clear hP
   obtain ⟨pv, hpv⟩ : ∃ b, b = parted s d := ⟨_, rfl⟩
   rw [← hpv] at Hpar
   have Hpv := Lib.hid hpv.symm
   clear hpv
   obtain ⟨wo, rfl⟩ : ∃ wo : World, wo = wr := ⟨_, rfl⟩
   clear hk
   go_wp2
   go_loopg [9] s.tins.length (fun g i wr => ∃ k : Nat, k + g = s.tins.length ∧ i = .int .i64 k ∧ Ext wo wr ∧ (s.tins.take k).all P = true)
   case atStart => exact ⟨0, by omega, rfl, Ext.refl _, rfl⟩
   case round =>
    obtain ⟨k, hk, rfl, hE, hall⟩ := hrel
    have HE := Lib.hid hE
    have Hall := Lib.hid hall
    have hE2 := HEw.out.trans hE
    have c12 : wr.cell? ⟨w.heap.size, 12, none⟩ = some (.slice ot s.tins.length cap) := by rw [← tins_len s]; exact (HP.out.ext hE2) 12 _ rfl
    clear hall
    by_cases hlt : k < s.tins.length
    ·have hlt' : k < (ofSh s).tins.length := by rw [tins_len]; exact hlt
     obtain ⟨b, off', x0, x1, x2, x3, x4, x5, hot, hb, ht, k0, k1, k2, k3, k4, k5⟩ := (H.out.ext (HE2.out.trans hE2)).at hlt'
     subst hot
     have htu : (ofSh s).tins[k] = upL s.tins[k] := by simp [ofSh]
     have hmem : s.tins[k] ∈ s.tins := List.getElem_mem hlt
     have hv := amp_tin (H6.out _ hmem) (htu.symm.trans ht)
     have R := Lib.hid (RC.out _ hmem)
     have hmo := Hmo.out _ hmem
     rw [hv] at R
     have Htk := Lib.hid (show (s.tins.take (k + 1)).all P = P s.tins[k] by
      rw [List.take_succ_eq_append_getElem hlt, List.all_append, Hall.out]; simp)
     have Hpd := Lib.hid (HPd.out s.tins[k])
     have Hno := Lib.hid (fun (hq : P s.tins[k] = false) => (show pv = false by
      rw [Hpar.out, List.all_eq_false]; exact ⟨_, hmem, by simpa using hq⟩))
     have g0 := (HD.out.ext hE2).c 0 (by omega)
     have g1 := (HD.out.ext hE2).c 1 (by omega)
     have g2 := (HD.out.ext hE2).c 2 (by omega)
     clear ht htu hmem hv hE hE2 hlt'
     generalize P s.tins[k] = pk at *
     generalize moreD d (tlo s.tins[k]) (thi s.tins[k]) = MM at *
     have hltI : (k : Int) < (s.tins.length : Int) := by omega
     have q1 : IntKind.i64.wrap (MM + OO) = MM + OO := by rw [IntWalk.i64_in _ (by omega)]
     go_wp2_with fail
     refine wp_region_plan (.take 0 <| .take 1 <| .take 2 <| .take 3 <| .take 4 <| .take 5 <| .take 6 <| .take 8 <| .take 10 <| .only 7 <| .take 9 <| .take 11 <| .done) (fun W => Ext wr W) mixed (by kernel_rfl) (by kernel_rfl) rfl (fun _ _ d _ _ h => by cases d <;> exact h) ((Ext.refl wr).drew) ?_
     repeat ((first | (refine plan_take (v := ?_) rfl rfl (fun W hW => ?_) ?_; rotate_left; (focus (have d0 := cell_ext hW g0; have d1 := cell_ext hW g1; have d2 := cell_ext hW g2; have d3 := cell_ext hW c12; have f0 := cell_ext hW k0; have f1 := cell_ext hW k1; have f2 := cell_ext hW k2; have f3 := cell_ext hW k3; have f4 := cell_ext hW k4; have f5 := cell_ext hW k5; go_simp; first | exact rfl | (split <;> first | exact rfl | (exfalso; omega)) | done))) | refine plan_skip rfl rfl ?_); simp only [puts])
     refine plan_walk rfl ?_; intro K hK
     clear g0 g1 g2 c12 k0 k1 k2 k3 k4 k5
     go_wp2_with (first | (go_at_call 102; refine (R.out _).mono ?_; rintro e w5 ⟨rfl, hE5⟩))
     have X := Lib.hid ((Ext.refl wr).drew.trans hE5)
     refine hK _ _ X.out ?_
     repeat ((first | (refine plan_take (v := ?_) rfl rfl (fun W hW => ?_) ?_; rotate_left; (focus (skip; go_simp; first | exact rfl | (split <;> first | exact rfl | (exfalso; omega)) | done))) | refine plan_skip rfl rfl ?_); simp only [puts])
     refine plan_done ?_
     clear hE5
     by_cases hc : MM + OO < LL
     ·have hc1 : ¬ LL ≤ MM + OO := by omega
      have hy := Lib.hid (show pk = true by rw [Hpd.out]; simp [hc])
      clear hc
      go_wp2
      go_roundg (gk - 1)
      case measure => omega
      case rel => exact ⟨k + 1, by omega, by go_num, HE.out.trans X.out, by rw [Htk.out, hy.out]⟩
     ·have hc1 : LL ≤ MM + OO := by omega
      have hy := Hno.out (by rw [Hpd.out]; simp [hc])
      subst hy
      clear hc
      go_wp2
      go_ret
      exact ⟨by rw [Hpv.out]; rfl, HE2.out.trans (HEw.out.trans (HE.out.trans X.out))⟩
    ·have hkk : k = s.tins.length := by omega
     have hy : pv = true := by rw [Hpar.out]; have := Hall.out; rw [hkk, List.take_length] at this; exact this
     subst hy
     clear hkk hE hE2
     go_wp2
     go_ret
     exact ⟨by rw [Hpv.out]; rfl, HE2.out.trans (HEw.out.trans HE.out)⟩

end Go.Proofs.YtjpekonfjihcoaaGreatDoor
