/- Contract: can. No condition beyond jobs as defined. -/
import Derived.Test.YtdmegfbeibbmfaaLeaf5
set_option linter.unusedVariables false
set_option linter.unusedSimpArgs false
namespace Go.Proofs.Ytdmegfbeibbmfaa
open Go.RowKit Go.My Go.GoldM

theorem index157_0 (x y : Value) (w : World) : (Instr.index 157 (.agg #[.func (.func 85) #[x] #[], .func (.func 86) #[y] #[]]) (.int .i64 0)).run Try.prog w = .ok (.func (.func 85) #[x] #[]) w := by kernel_rfl
theorem index157_1 (x y : Value) (w : World) : (Instr.index 157 (.agg #[.func (.func 85) #[x] #[], .func (.func 86) #[y] #[]]) (.int .i64 1)).run Try.prog w = .ok (.func (.func 86) #[y] #[]) w := by kernel_rfl

set_option maxRecDepth 100000 in
set_option maxHeartbeats 8000000 in
theorem can_large (j : Jb) (f : Fine j) (og op : Option Addr) (cg cp mb : Nat) (w' h' set : Nat) (w : World) (a1 : 1 ≤ w') (a2 : 1 ≤ h') (b1 : w' ≤ 6) (b2 : h' ≤ 6) (hs : set < 32) (hs1 : 1 ≤ set) (h1 : ¬ set &&& (set - 1) = 0) (hL : large j.pieces w' h' set = true) (hm : RestM.Memo w mb (F3 j.pieces)) (hp : PcsAt w op j.pieces) :
    Calls Try.prog 73 #[knV j og cg op cp mb, restV w' h' set] w fun e W' => e = .returned (.bool (canR j.pieces w' h' set)) ∧ KM j.pieces mb w W' := by
  have HR := Lib.hid (show canR j.pieces w' h' set = false by rw [canR_eq _ _ a1 a2, if_neg (by omega), if_neg h1, if_pos hL])
  have hmb := hm.lt
  have HM0 := Lib.hid hm
  have R84 := Lib.hid (fun W (hE : Ext w W) => large84 j f og op cg cp mb w' h' set b1 b2 hs W (hp.ext hE))
  rw [hL] at R84
  have q1 : IntKind.i64.wrap ((set : Int) - 1) = ((set - 1 : Nat) : Int) := by rw [IntWalk.i64_in _ (by omega)]; omega
  have q2 := and32 (a := set) (b := set - 1) hs (by omega)
  have h1I : ¬ ((set &&& (set - 1) : Nat) : Int) = 0 := by omega
  have h0I : ¬ (set : Int) = 0 := by omega
  have HK0 := Lib.hid (show VB ((w.alloc (.cells (knL j og cg op cp mb).toArray 114)).alloc (.cells #[I w', I h', I set] 139)) w.heap.size (knL j og cg op cp mb) from (VB.new w (knL j og cg op cp mb) 114).ext ((Ext.refl _).alloc _))
  have HA0 := Lib.hid (show VB ((w.alloc (.cells (knL j og cg op cp mb).toArray 114)).alloc (.cells #[I w', I h', I set] 139)) (w.heap.size + 1) [I w', I h', I set] by
    have := VB.new (w.alloc (.cells (knL j og cg op cp mb).toArray 114)) [I w', I h', I set] 139
    simpa only [World.size_alloc] using this)
  have HE0 := Lib.hid (show Ext w ((w.alloc (.cells (knL j og cg op cp mb).toArray 114)).alloc (.cells #[I w', I h', I set] 139)) from ((Ext.refl w).alloc _).alloc _)
  have HM1 := Lib.hid (HM0.out.ext HE0.out)
  clear hm hp f a1 a2 b1 b2 h1 hL
  generalize set &&& (set - 1) = Z at *
  go_enter Try.func73, Try.ntmps73
  go_wp2_with (first | ((with_reducible refine RestM.at_lookup _ _ rfl ?_); refine RestM.wpList_lookup rfl _ _ rfl mb ?_ (w' : Int) (h' : Int) (set : Int) ?_ (F3 j.pieces) HM1.out ?_; (focus (go_simp; done)); (focus (go_simp; done)); intro v ok hv; have Hv := Lib.hid hv; clear hv; cases ok) | (go_at_call 84; refine (R84.out _ HE0.out).mono ?_; rintro e w5 ⟨rfl, h5⟩; have HX := Lib.hid (KM.of_ext HM0.out (HE0.out.trans h5)); have HA := Lib.hid (HA0.out.ext h5); have HK := Lib.hid (HK0.out.ext h5); clear h5; have f0 := HA.out 0 _ rfl; have f1 := HA.out 1 _ rfl; have f2 := HA.out 2 _ rfl; have e6 := HK.out 6 _ rfl) | ((with_reducible refine RestM.at_update _ _ _ rfl ?_); refine RestM.wpList_update rfl _ _ _ rfl mb ?_ (w' : Int) (h' : Int) (set : Int) ?_ (F3 j.pieces) ?_ HX.out.memo ?_; (focus (go_simp; done)); (focus (go_simp; done)); (focus (rw [F3_nat, HR.out]; go_simp; done)); intro w8 hm8 hg8 _; have H8 := Lib.hid (KM.trans HX.out ⟨Mv.of_grown hg8 fun i e => by cases e; rfl, hm8⟩); clear hm8 hg8))
  · go_ret
    exact ⟨by rw [HR.out]; rfl, H8.out⟩
  · go_ret
    exact ⟨ret_bool ((Hv.out trivial).trans (F3_nat _ _ _ _)), KM.of_ext HM0.out HE0.out⟩


set_option maxRecDepth 100000 in
set_option maxHeartbeats 8000000 in
theorem can_search (j : Jb) (f : Fine j) (og op : Option Addr) (cg cp mb n : Nat) (hC : CanOK j og op cg cp mb n) (w' h' set : Nat) (w : World) (a1 : 1 ≤ w') (a2 : 1 ≤ h') (a3 : w' + h' ≤ n + 1) (b1 : w' ≤ 6) (b2 : h' ≤ 6) (hs : set < 32) (hs1 : 1 ≤ set) (h1 : ¬ set &&& (set - 1) = 0) (hL : large j.pieces w' h' set = false) (hm : RestM.Memo w mb (F3 j.pieces)) (hp : PcsAt w op j.pieces) :
    Calls Try.prog 73 #[knV j og cg op cp mb, restV w' h' set] w fun e W' => e = .returned (.bool (canR j.pieces w' h' set)) ∧ KM j.pieces mb w W' := by
  have HR := Lib.hid (show canR j.pieces w' h' set = (upR j.pieces w' h' set || levR j.pieces w' h' set) by rw [canR_eq _ _ a1 a2, if_neg (by omega), if_neg h1, hL]; rfl)
  have hmb := hm.lt
  have HM0 := Lib.hid hm
  have HP0 := Lib.hid hp
  have R84 := Lib.hid (fun W (hE : Ext w W) => large84 j f og op cg cp mb w' h' set b1 b2 hs W (hp.ext hE))
  rw [hL] at R84
  have R85 := Lib.hid (fun W (hm : RestM.Memo W mb (F3 j.pieces)) (hp : PcsAt W op j.pieces) => upright85 j og op cg cp mb n hC w' h' set a1 a2 a3 b1 b2 hs hs1 W hm hp)
  have R86 := Lib.hid (fun W (hm : RestM.Memo W mb (F3 j.pieces)) (hp : PcsAt W op j.pieces) => level86 j og op cg cp mb n hC w' h' set a1 a2 a3 b1 b2 hs hs1 W hm hp)
  generalize upR j.pieces w' h' set = U at *
  generalize levR j.pieces w' h' set = L at *
  have q1 : IntKind.i64.wrap ((set : Int) - 1) = ((set - 1 : Nat) : Int) := by rw [IntWalk.i64_in _ (by omega)]; omega
  have q2 := and32 (a := set) (b := set - 1) hs (by omega)
  have h1I : ¬ ((set &&& (set - 1) : Nat) : Int) = 0 := by omega
  have h0I : ¬ (set : Int) = 0 := by omega
  have HK0 := Lib.hid (show VB ((w.alloc (.cells (knL j og cg op cp mb).toArray 114)).alloc (.cells #[I w', I h', I set] 139)) w.heap.size (knL j og cg op cp mb) from (VB.new w (knL j og cg op cp mb) 114).ext ((Ext.refl _).alloc _))
  have HA0 := Lib.hid (show VB ((w.alloc (.cells (knL j og cg op cp mb).toArray 114)).alloc (.cells #[I w', I h', I set] 139)) (w.heap.size + 1) [I w', I h', I set] by
    have := VB.new (w.alloc (.cells (knL j og cg op cp mb).toArray 114)) [I w', I h', I set] 139
    simpa only [World.size_alloc] using this)
  have HE0 := Lib.hid (show Ext w ((w.alloc (.cells (knL j og cg op cp mb).toArray 114)).alloc (.cells #[I w', I h', I set] 139)) from ((Ext.refl w).alloc _).alloc _)
  have HM1 := Lib.hid (HM0.out.ext HE0.out)
  have hb1 : ¬ w.heap.size = mb := by omega
  have hb2 : ¬ w.heap.size + 1 = mb := by omega
  clear hm hp f a1 a2 a3 b1 b2 h1 hL hC
  generalize set &&& (set - 1) = Z at *
  have ix0 := index157_0
  have ix1 := index157_1
  go_enter Try.func73, Try.ntmps73
  go_wp2_with (first | ((with_reducible refine RestM.at_lookup _ _ rfl ?_); refine RestM.wpList_lookup rfl _ _ rfl mb ?_ (w' : Int) (h' : Int) (set : Int) ?_ (F3 j.pieces) HM1.out ?_; (focus (go_simp; done)); (focus (go_simp; done)); intro v ok hv; have Hv := Lib.hid hv; clear hv; cases ok) | (go_at_call 84; refine (R84.out _ HE0.out).mono ?_; rintro e w5 ⟨rfl, h5⟩; have HX := Lib.hid (KM.of_ext HM0.out (HE0.out.trans h5)); have HA := Lib.hid (HA0.out.ext h5); have HK := Lib.hid (HK0.out.ext h5); clear h5; have f0 := HA.out 0 _ rfl; have f1 := HA.out 1 _ rfl; have f2 := HA.out 2 _ rfl; have e0 := HK.out 0 _ rfl; have e1 := HK.out 1 _ rfl; have e2 := HK.out 2 _ rfl; have e3 := HK.out 3 _ rfl; have e4 := HK.out 4 _ rfl; have e5 := HK.out 5 _ rfl; have e6 := HK.out 6 _ rfl) | ((with_reducible refine RestM.at_update _ _ _ rfl ?_); refine RestM.wpList_update rfl _ _ _ rfl mb ?_ (w' : Int) (h' : Int) (set : Int) ?_ (F3 j.pieces) ?_ HX.out.memo ?_; (focus (go_simp; done)); (focus (go_simp; done)); (focus (rw [F3_nat, HR.out]; go_simp; done)); intro w8 hm8 hg8 _; have H8 := Lib.hid (KM.trans HX.out ⟨Mv.of_grown hg8 fun i e => by cases e; rfl, hm8⟩); clear hm8 hg8))
  · clear e0 e1 e2 e3 e4 e5 e6 f0 f1 f2 Hv
    go_loopg [7, 11, 63] 2 (fun g is x i wr => ∃ k : Nat, k + g = 2 ∧ i = .int .i64 k ∧ is = .bool false ∧ KM j.pieces mb w wr ∧ VB wr w.heap.size (knL j og cg op cp mb) ∧ VB wr (w.heap.size + 1) [I w', I h', I set] ∧ (1 ≤ k → U = false) ∧ (2 ≤ k → L = false))
    case atStart => exact ⟨0, rfl, rfl, rfl, HX.out, HK.out, HA.out, fun h => by omega, fun h => by omega⟩
    case round =>
      clear HX HK HA HK0 HA0 HE0 HM1
      obtain ⟨k, hk, rfl, rfl, hX, hK, hA, hU, hV⟩ := hrel
      have HX := Lib.hid hX
      have HK := Lib.hid hK
      have HA := Lib.hid hA
      have HU := Lib.hid hU
      have HV := Lib.hid hV
      clear hX hK hA hU hV
      have f0 := HA.out 0 _ rfl; have f1 := HA.out 1 _ rfl; have f2 := HA.out 2 _ rfl; have e0 := HK.out 0 _ rfl; have e1 := HK.out 1 _ rfl; have e2 := HK.out 2 _ rfl; have e3 := HK.out 3 _ rfl; have e4 := HK.out 4 _ rfl; have e5 := HK.out 5 _ rfl; have e6 := HK.out 6 _ rfl
      obtain rfl | rfl | rfl : k = 0 ∨ k = 1 ∨ k = 2 := by omega
      · cases U with
        | true =>
          go_wp2_with (first | (go_at_call 85; refine (R85.out _ HX.out.memo (HX.out.pcs HM0.out HP0.out)).mono ?_; rintro e w6 ⟨rfl, h6⟩; replace HK := Lib.hid (HK.out.mv h6.mv hb1); replace HA := Lib.hid (HA.out.mv h6.mv hb2); replace HX := Lib.hid (HX.out.trans h6); clear h6 f0 f1 f2 e0 e1 e2 e3 e4 e5 e6; have f0 := HA.out 0 _ rfl; have f1 := HA.out 1 _ rfl; have f2 := HA.out 2 _ rfl; have e0 := HK.out 0 _ rfl; have e1 := HK.out 1 _ rfl; have e2 := HK.out 2 _ rfl; have e3 := HK.out 3 _ rfl; have e4 := HK.out 4 _ rfl; have e5 := HK.out 5 _ rfl; have e6 := HK.out 6 _ rfl) | ((with_reducible refine RestM.at_update _ _ _ rfl ?_); refine RestM.wpList_update rfl _ _ _ rfl mb ?_ (w' : Int) (h' : Int) (set : Int) ?_ (F3 j.pieces) ?_ HX.out.memo ?_; (focus (go_simp; done)); (focus (go_simp; done)); (focus (rw [F3_nat, HR.out]; go_simp; done)); intro w8 hm8 hg8 _; have H8 := Lib.hid (KM.trans HX.out ⟨Mv.of_grown hg8 fun i e => by cases e; rfl, hm8⟩); clear hm8 hg8))
          go_ret
          exact ⟨by rw [HR.out]; rfl, H8.out⟩
        | false =>
          go_wp2_with (first | (go_at_call 85; refine (R85.out _ HX.out.memo (HX.out.pcs HM0.out HP0.out)).mono ?_; rintro e w6 ⟨rfl, h6⟩; replace HK := Lib.hid (HK.out.mv h6.mv hb1); replace HA := Lib.hid (HA.out.mv h6.mv hb2); replace HX := Lib.hid (HX.out.trans h6); clear h6 f0 f1 f2 e0 e1 e2 e3 e4 e5 e6; have f0 := HA.out 0 _ rfl; have f1 := HA.out 1 _ rfl; have f2 := HA.out 2 _ rfl; have e0 := HK.out 0 _ rfl; have e1 := HK.out 1 _ rfl; have e2 := HK.out 2 _ rfl; have e3 := HK.out 3 _ rfl; have e4 := HK.out 4 _ rfl; have e5 := HK.out 5 _ rfl; have e6 := HK.out 6 _ rfl))
          go_roundg (gk - 1)
          case measure => omega
          case rel => exact ⟨1, by omega, rfl, rfl, HX.out, HK.out, HA.out, fun _ => by first | rfl | trivial, fun h => by omega⟩
      · obtain rfl := HU.out (by omega)
        cases L with
        | true =>
          go_wp2_with (first | (go_at_call 86; refine (R86.out _ HX.out.memo (HX.out.pcs HM0.out HP0.out)).mono ?_; rintro e w6 ⟨rfl, h6⟩; replace HK := Lib.hid (HK.out.mv h6.mv hb1); replace HA := Lib.hid (HA.out.mv h6.mv hb2); replace HX := Lib.hid (HX.out.trans h6); clear h6 f0 f1 f2 e0 e1 e2 e3 e4 e5 e6; have f0 := HA.out 0 _ rfl; have f1 := HA.out 1 _ rfl; have f2 := HA.out 2 _ rfl; have e0 := HK.out 0 _ rfl; have e1 := HK.out 1 _ rfl; have e2 := HK.out 2 _ rfl; have e3 := HK.out 3 _ rfl; have e4 := HK.out 4 _ rfl; have e5 := HK.out 5 _ rfl; have e6 := HK.out 6 _ rfl) | ((with_reducible refine RestM.at_update _ _ _ rfl ?_); refine RestM.wpList_update rfl _ _ _ rfl mb ?_ (w' : Int) (h' : Int) (set : Int) ?_ (F3 j.pieces) ?_ HX.out.memo ?_; (focus (go_simp; done)); (focus (go_simp; done)); (focus (rw [F3_nat, HR.out]; go_simp; done)); intro w8 hm8 hg8 _; have H8 := Lib.hid (KM.trans HX.out ⟨Mv.of_grown hg8 fun i e => by cases e; rfl, hm8⟩); clear hm8 hg8))
          go_ret
          exact ⟨by rw [HR.out]; rfl, H8.out⟩
        | false =>
          go_wp2_with (first | (go_at_call 86; refine (R86.out _ HX.out.memo (HX.out.pcs HM0.out HP0.out)).mono ?_; rintro e w6 ⟨rfl, h6⟩; replace HK := Lib.hid (HK.out.mv h6.mv hb1); replace HA := Lib.hid (HA.out.mv h6.mv hb2); replace HX := Lib.hid (HX.out.trans h6); clear h6 f0 f1 f2 e0 e1 e2 e3 e4 e5 e6; have f0 := HA.out 0 _ rfl; have f1 := HA.out 1 _ rfl; have f2 := HA.out 2 _ rfl; have e0 := HK.out 0 _ rfl; have e1 := HK.out 1 _ rfl; have e2 := HK.out 2 _ rfl; have e3 := HK.out 3 _ rfl; have e4 := HK.out 4 _ rfl; have e5 := HK.out 5 _ rfl; have e6 := HK.out 6 _ rfl))
          go_roundg (gk - 1)
          case measure => omega
          case rel => exact ⟨2, by omega, rfl, rfl, HX.out, HK.out, HA.out, fun _ => by first | rfl | trivial, fun _ => by first | rfl | trivial⟩
      · obtain rfl := HU.out (by omega)
        obtain rfl := HV.out (by omega)
        go_wp2_with (first | ((with_reducible refine RestM.at_update _ _ _ rfl ?_); refine RestM.wpList_update rfl _ _ _ rfl mb ?_ (w' : Int) (h' : Int) (set : Int) ?_ (F3 j.pieces) ?_ HX.out.memo ?_; (focus (go_simp; done)); (focus (go_simp; done)); (focus (rw [F3_nat, HR.out]; go_simp; done)); intro w8 hm8 hg8 _; have H8 := Lib.hid (KM.trans HX.out ⟨Mv.of_grown hg8 fun i e => by cases e; rfl, hm8⟩); clear hm8 hg8))
        go_ret
        exact ⟨by rw [HR.out]; rfl, H8.out⟩
  · go_ret
    exact ⟨ret_bool ((Hv.out trivial).trans (F3_nat _ _ _ _)), KM.of_ext HM0.out HE0.out⟩


end Go.Proofs.Ytdmegfbeibbmfaa
