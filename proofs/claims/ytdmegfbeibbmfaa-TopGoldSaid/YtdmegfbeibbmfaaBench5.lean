/- Contracts: end, long. No condition beyond benches as defined. -/
import Derived.Test.YtdmegfbeibbmfaaBench4
import Derived.Laws.EntriesVeiled
set_option linter.unusedVariables false
set_option linter.unusedSimpArgs false
namespace Go.Proofs.Ytdmegfbeibbmfaa
open Go.RowKit Go.My Go.GoldM

theorem mcell {f : Int → Int → Int} {mb : Nat} {w3 W : World} (hM : EndM.Memo w3 mb f) (hW : Mv (fun i => i = mb) w3 W) {p : Addr} {v : Value} (hc : w3.cell? p = some v) : W.cell? p = some v := hW.cell (hM.not hc) hc
theorem size2 (w : World) (A B : Obj) : ((w.alloc A).alloc B).heap.size = w.heap.size + 1 + 1 := by simp

set_option maxRecDepth 100000 in
set_option maxHeartbeats 8000000 in
theorem end70 (x : Bn) (ob os op : Option Addr) (cb cs cp mb : Nat) (plan : List Nat) (F : Nat → Nat) (n : Nat) (s : St) (hk : x.sts[n]? = some s) (s4 : s.hi ≤ 6) (s5 : s.needs.length ≤ 1) (s6 : ∀ m ∈ s.needs, m < n) (hF : F n = mxN (freeN F plan n :: s.needs.map F) + s.hi) (hFb : F n ≤ 60) (hC : EndOK x ob os op cb cs cp mb plan F n) (hn : n < plan.length) (hl : plan.length ≤ 100) (w : World) (hm : EndM.Memo w mb (fE F)) (h : WkAt w x os op plan) :
    Calls Try.prog 70 #[wkV x ob cb os cs op plan.length cp mb, I n, .int .i64 1] w fun e w' => e = .returned (I (F n)) ∧ KE F mb w w' := by
  have hmb := hm.lt
  have HW := Lib.hid ((VB.new w (wkL x ob cb os cs op plan.length cp mb) 104).ext ((Ext.refl _).alloc (.cells #[I n, .int .i64 1] 150)))
  have HE0 := Lib.hid (((Ext.refl w).alloc (.cells (wkL x ob cb os cs op plan.length cp mb).toArray 104)).alloc (.cells #[I n, .int .i64 1] 150))
  have HKy := Lib.hid (show VB ((w.alloc (.cells (wkL x ob cb os cs op plan.length cp mb).toArray 104)).alloc (.cells #[I n, .int .i64 1] 150)) (w.heap.size + 1) [I n, .int .i64 1] by
    have h9 := VB.new (w.alloc (.cells (wkL x ob cb os cs op plan.length cp mb).toArray 104)) [I n, .int .i64 1] 150
    simpa only [World.size_alloc] using h9)
  have HM := Lib.hid hm
  have HM1 := Lib.hid (hm.ext HE0.out)
  have HH := Lib.hid h
  have R82 := Lib.hid (fun W hm h => begin82 x ob os op cb cs cp mb plan F n s hk s5 s6 hC hn hl W hm h)
  have hkl := (List.getElem?_eq_some_iff.1 hk).1
  have hklI : (n : Int) < (x.sts.length : Int) := by omega
  generalize mxN (freeN F plan n :: s.needs.map F) = G at *
  obtain ⟨b, off, on, cn, hos, hb, k0, k1, k2, k3, k4, hcn, hn2⟩ := h.ss.at hk
  subst hos
  have HST := Lib.hid (And.intro k0 (And.intro k1 (And.intro k2 (And.intro k3 k4))))
  have hq : IntKind.i64.wrap ((G : Int) + (s.hi : Int)) = ((F n : Nat) : Int) := by rw [IntWalk.i64_in _ (by omega)]; omega
  have hne1 : ¬ (n : Int) = -1 := by omega
  have hneb : ((n : Int) == -1) = false := by rw [beq_eq_false_iff_ne]; omega
  clear hC hm h hk s4 s5 s6 hF hFb hn2 k0 k1 k2 k3 k4
  go_enter Try.func70, Try.ntmps70
  go_wp2_with (first | ((with_reducible refine EndM.at_lookup _ _ rfl ?_); refine EndM.wpList_lookup rfl _ _ rfl mb ?_ (n : Int) (1 : Int) ?_ (fE F) HM1.out ?_; (focus (go_simp; done)); (focus (go_simp; done)); intro v ok hv; have Hv := Lib.hid hv; clear hv; cases ok))
  · obtain ⟨w3, hw3⟩ : ∃ X, X = ((w.alloc (.cells #[I x.ap, .slice ob x.boards.length cb, .slice (some ⟨b, off, none⟩) x.sts.length cs, .slice op plan.length cp, .map (some mb), .int .i64 (-1), .int .i64 0] 104)).alloc (.cells #[.int .i64 (n : Nat), .int .i64 1] 150)).alloc (.cells #[.func (.func 80) #[] #[], .func (.func 81) #[] #[]] 154) := ⟨_, rfl⟩
    have hfn : w3.cell? ⟨w.heap.size + 1 + 1, 1, none⟩ = some (.func (.func 81) #[] #[]) := by
      have h9 := VB.new ((w.alloc (.cells #[I x.ap, .slice ob x.boards.length cb, .slice (some ⟨b, off, none⟩) x.sts.length cs, .slice op plan.length cp, .map (some mb), .int .i64 (-1), .int .i64 0] 104)).alloc (.cells #[.int .i64 (n : Nat), .int .i64 1] 150)) [.func (.func 80) #[] #[], .func (.func 81) #[] #[]] 154
      rw [size2] at h9
      rw [hw3]
      exact h9 1 _ rfl
    have HX3 := Lib.hid (show Ext w w3 by rw [hw3]; exact HE0.out.alloc _)
    have HW3 := Lib.hid (show VB w3 w.heap.size (wkL x ob cb (some ⟨b, off, none⟩) cs op plan.length cp mb) by rw [hw3]; exact HW.out.ext ((Ext.refl _).alloc _))
    have HKy3 := Lib.hid (show VB w3 (w.heap.size + 1) [I n, .int .i64 1] by rw [hw3]; exact HKy.out.ext ((Ext.refl _).alloc _))
    rw [← hw3]
    clear hw3
    have HM3 := Lib.hid (HM.out.ext HX3.out)
    have s0 := cell_ext HX3.out HST.out.1
    have s1 := cell_ext HX3.out HST.out.2.1
    have s2 := cell_ext HX3.out HST.out.2.2.1
    have s3 := cell_ext HX3.out HST.out.2.2.2.1
    have s4 := cell_ext HX3.out HST.out.2.2.2.2
    refine wp_region_plan (.take 0 <| .take 1 <| .take 2 <| .take 4 <| .take 5 <| .take 6 <| .take 7 <| .take 8 <| .take 9 <| .take 10 <| .take 11 <| .take 12 <| .take 13 <| .only 3 <| .only 14 <| .take 15 <| .take 16 <| .done) (fun W => Mv (fun i => i = mb) w3 W) mixed (by kernel_rfl) (by kernel_rfl) rfl (fun _ _ d _ _ h => by cases d <;> exact h) (Mv.of_ext (Ext.refl w3).drew) ?_
    repeat ((first | (refine plan_take (v := ?_) rfl rfl (fun W hW => ?_) ?_; rotate_left; (focus (have e0 := mcell HM3.out hW (HW3.out 0 _ rfl); have e1 := mcell HM3.out hW (HW3.out 1 _ rfl); have e2 := mcell HM3.out hW (HW3.out 2 _ rfl); have e3 := mcell HM3.out hW (HW3.out 3 _ rfl); have e4 := mcell HM3.out hW (HW3.out 4 _ rfl); have e5 := mcell HM3.out hW (HW3.out 5 _ rfl); have e6 := mcell HM3.out hW (HW3.out 6 _ rfl); have a1 := mcell HM3.out hW hfn; have t0 := mcell HM3.out hW s0; have t1 := mcell HM3.out hW s1; have t2 := mcell HM3.out hW s2; have t3 := mcell HM3.out hW s3; have t4 := mcell HM3.out hW s4; go_simp; first | exact rfl | (split <;> first | exact rfl | (exfalso; omega)) | done))) | refine plan_skip rfl rfl ?_); simp only [Act.put, List.setIfInBounds_toArray, List.set_cons_zero, List.set_cons_succ])
    clear s0 s1 s2 s3 s4 hfn
    refine plan_walk rfl ?_; intro K hK
    go_wp2_with (first | (go_at_call 82; refine (R82.out _ (HM3.out.ext (Ext.refl w3).drew) (HH.out.ext HX3.out.drew)).mono ?_; rintro e w5 ⟨rfl, h5⟩))
    have HM5 := Lib.hid (show Mv (fun i => i = mb) w3 w5 from (Mv.of_ext (Ext.refl w3).drew).trans h5.mv)
    have HK5 := Lib.hid ((KE.of_ext HM.out HX3.out.drew).trans h5)
    clear h5
    refine hK _ _ HM5.out ?_
    refine plan_walk rfl ?_; intro K hK
    go_wp2_with (first | (go_at_call 81; refine (most81 s on cn _).mono ?_; rintro e w6 ⟨rfl, h6⟩))
    have HM6 := Lib.hid (show Mv (fun i => i = mb) w3 w6 from HM5.out.trans (Mv.of_ext h6))
    have HX := Lib.hid (HK5.out.trans (KE.of_ext HK5.out.memo h6))
    clear h6
    refine hK _ _ HM6.out ?_
    repeat ((first | (refine plan_take (v := ?_) rfl rfl (fun W hW => ?_) ?_; rotate_left; (focus (skip; go_simp; first | exact rfl | (split <;> first | exact rfl | (exfalso; omega)) | done))) | refine plan_skip rfl rfl ?_); simp only [Act.put, List.setIfInBounds_toArray, List.set_cons_zero, List.set_cons_succ])
    refine plan_done ?_
    have e3 := mcell HM3.out HM6.out (HW3.out 5 _ rfl)
    have e4 := mcell HM3.out HM6.out (HW3.out 4 _ rfl)
    have y0 := mcell HM3.out HM6.out (HKy3.out 0 _ rfl)
    have y1 := mcell HM3.out HM6.out (HKy3.out 1 _ rfl)
    clear Hv
    go_wp2_with (first | ((with_reducible refine EndM.at_update _ _ _ rfl ?_); refine EndM.wpList_update rfl _ _ _ rfl mb ?_ (n : Int) (1 : Int) ?_ (fE F) ?_ HX.out.memo ?_; (focus (go_simp; done)); (focus (go_simp; done)); (focus (rw [fE_nat]; go_simp; done)); intro w8 hm8 hg8 _; have H8 := Lib.hid (KE.trans HX.out ⟨Mv.of_grown hg8 fun i e => by cases e; rfl, hm8⟩); clear hm8 hg8))
    go_ret
    exact ⟨rfl, H8.out⟩
  · go_ret
    refine ⟨?_, KE.of_ext HM.out HE0.out⟩
    exact ret_int (Hv.out trivial)

theorem end_all (x : Bn) (f : FineB x) (ob os op : Option Addr) (cb cs cp mb : Nat) (plan : List Nat) (F : Nat → Nat) (hF : EndsAre x.sts plan F) (hFb : ∀ n, n < x.sts.length → F n ≤ 60) (hpl : plan.length = x.sts.length) : ∀ n, n ≤ x.sts.length → EndOK x ob os op cb cs cp mb plan F n := by
  intro n
  induction n with
  | zero => intro _ m W hm; omega
  | succ n ih =>
    intro hn m W hm hme h
    have ih := ih (by omega)
    by_cases hmn : m < n
    · exact ih m W hmn hme h
    · obtain rfl : m = n := by omega
      have hk : x.sts[m]? = some x.sts[m] := by simp [show m < x.sts.length by omega]
      obtain ⟨_, _, _, s4, s5, s6⟩ := f.st m _ hk
      have hE := hF m (by omega)
      rw [show x.sts.getD m stD = x.sts[m] by simp [List.getD, show m < x.sts.length by omega]] at hE
      have hsl := f.sl
      exact end70 x ob os op cb cs cp mb plan F m _ hk s4 s5 s6 hE (hFb m (by omega)) ih (by omega) (by omega) W hme h
theorem range_take (F : Nat → Nat) (k : Nat) : (List.range (k + 1)).map F = (List.range k).map F ++ [F k] := by simp [List.range_succ]

set_option maxRecDepth 100000 in
set_option maxHeartbeats 4000000 in
theorem long47 (x : Bn) (f : FineB x) (ob os op : Option Addr) (cb cs cp mb : Nat) (plan : List Nat) (F : Nat → Nat) (hF : EndsAre x.sts plan F) (hFb : ∀ n, n < x.sts.length → F n ≤ 60) (hpl : plan.length = x.sts.length) (w : World) (hm : EndM.Memo w mb (fE F)) (h : WkAt w x os op plan) :
    Calls Try.prog 47 #[wkV x ob cb os cs op plan.length cp mb] w fun e w' => e = .returned (I (longN x.sts F)) ∧ KE F mb w w' := by
  have hmb := hm.lt
  have HW0 := Lib.hid (VB.new w (wkL x ob cb os cs op plan.length cp mb) 104)
  have HE0 := Lib.hid ((Ext.refl w).alloc (.cells (wkL x ob cb os cs op plan.length cp mb).toArray 104))
  have HM := Lib.hid hm
  have HH := Lib.hid h
  have HC := Lib.hid (end_all x f ob os op cb cs cp mb plan F hF hFb hpl x.sts.length (Nat.le_refl _))
  have hsl := f.sl
  have Hpl := Lib.hid hpl
  clear hm h f hF hFb hpl
  go_enter Try.func47, Try.ntmps47
  go_wp2_with fail
  obtain ⟨w1, hw1⟩ : ∃ X, X = w.alloc (.cells #[I x.ap, .slice ob x.boards.length cb, .slice os x.sts.length cs, .slice op plan.length cp, .map (some mb), .int .i64 (-1), .int .i64 0] 104) := ⟨_, rfl⟩
  have HW1 := Lib.hid (show VB w1 w.heap.size (wkL x ob cb os cs op plan.length cp mb) by rw [hw1]; exact HW0.out)
  have HK1 := Lib.hid (show KE F mb w w1 by rw [hw1]; exact KE.of_ext HM.out HE0.out)
  rw [← hw1]
  clear hw1
  go_loopg [3, 9] x.sts.length (fun g v i wr => ∃ k : Nat, k + g = x.sts.length ∧ i = .int .i64 k ∧ KE F mb w wr ∧ VB wr w.heap.size (wkL x ob cb os cs op plan.length cp mb) ∧ My.Own wr (w.heap.size + 1) 3 v (natsV ((List.range k).map F)))
  case atStart => exact ⟨0, by simp, rfl, HK1.out, HW1.out, My.Own.nil _ _ _⟩
  case round =>
    obtain ⟨k, hk, rfl, hK, hW, hO⟩ := hrel
    clear HK1 HW1
    obtain ⟨oa, ca, rfl, hca, _⟩ := hO.slice
    rw [natsV_len] at hO hca ⊢
    have HK := Lib.hid hK
    have HW := Lib.hid hW
    have HO := Lib.hid hO
    clear hK hW hO
    obtain ⟨wo, rfl⟩ : ∃ wo : World, wo = wr := ⟨_, rfl⟩
    by_cases hlt : k < x.sts.length
    · have hltI : (k : Int) < (x.sts.length : Int) := by omega
      have Hfin := Lib.hid (show natsV ((List.range (k + 1)).map F) = natsV ((List.range k).map F) ++ [I (F k)] by rw [range_take, natsV_app])
      have HR := Lib.hid (HC.out k wo hlt HK.out.memo (HH.out.ke HM.out HK.out))
      have hkn : k ≤ 6 := by omega
      have Hrl := Lib.hid (show ((List.range k).map F).length = k by simp)
      generalize (List.range k).map F = L at *
      have e0 := HW.out 0 _ rfl; have e1 := HW.out 1 _ rfl; have e2 := HW.out 2 _ rfl; have e3 := HW.out 3 _ rfl; have e4 := HW.out 4 _ rfl; have e5 := HW.out 5 _ rfl; have e6 := HW.out 6 _ rfl
      have hsz := HK.out.mv.size
      go_wp2_with (first | (go_at_call 70; refine (HR.out).mono ?_; rintro e w6 ⟨rfl, h6'⟩; have HK6 := Lib.hid (HK.out.trans h6'); have HW6 := Lib.hid (VB.ke HW.out HK.out.memo h6'); have HO6 := Lib.hid (HO.out.mv h6'.mv (fun b hb hi => by have := (HO.out.lt b hb).1; omega)); have hs6 := h6'.mv.size; clear h6' e0 e1 e2 e3 e4 e5 e6) | (at_builtin; refine wpList_app1 _ rfl _ _ 33 rfl 3 Try.underlying33 (.int .i64 0) 8 i3 rfl (by decide) (w.heap.size + 1) _ _ rfl (HO6.out.ext ((Ext.refl w6).alloc _)) w6.heap.size (I (F k)) rfl (by go_simp) rfl ?_ ?_ ?_))
      · rw [natsV_len, Hrl.out]; omega
      · simp only [World.size_alloc]; omega
      · intro v' w7 hown7 hB7 hg7
        rw [← Hfin.out] at hown7
        have hX : Ext w6 (w6.alloc (.cells #[I (F k)] 3)) := (Ext.refl w6).alloc _
        have hMv : Mv (fun i => i = mb ∨ w.heap.size ≤ i) w w7 := (HK6.out.mv.mono fun i _ hi => .inl hi).trans ((Mv.of_ext hX).trans (Mv.of_below hB7 fun i _ hi => .inr (by omega)))
        have hK7 : KE F mb w w7 := ⟨hMv.mono fun i hi h => h.elim id (fun h => by omega), (HK6.out.memo.ext hX).keep (hB7.block mb (by omega))⟩
        have hV7 : VB w7 w.heap.size (wkL x ob cb os cs op plan.length cp mb) := fun i v hv => cell_below hB7 (by simp) ((HW6.out.ext hX) i v hv)
        have HK7 := Lib.hid hK7
        have HV7 := Lib.hid hV7
        have HO7 := Lib.hid hown7
        clear hown7 hB7 hg7 hX hMv hK7 hV7
        go_wp2
        go_roundg (gk - 1)
        case measure => omega
        case rel => exact ⟨k + 1, by omega, by go_num, HK7.out, HV7.out, HO7.out⟩
    · obtain rfl : k = x.sts.length := by omega
      have hlen : ((List.range x.sts.length).map F).length ≤ 1000 := by simp; omega
      have hO2 := own_nats HO.out
      have R71 := last71 (upL ((List.range x.sts.length).map F)) oa ca wo hO2.2.2 (by rw [upL_length]; exact hlen)
      rw [upL_length, mxTo_up] at R71
      have HR71 := Lib.hid R71
      have HG := Lib.hid (show longN x.sts F = mxN ((List.range x.sts.length).map F) from rfl)
      generalize ((List.range x.sts.length).map F) = L at *
      generalize L.length = N at *
      generalize mxN L = G at *
      clear R71 hO2 hlen
      go_wp2_with (first | (go_at_call 71; refine (HR71.out).mono ?_; rintro e w6 ⟨rfl, h6⟩; obtain rfl := h6.symm))
      go_ret
      exact ⟨by rw [HG.out]; rfl, HK.out⟩

end Go.Proofs.Ytdmegfbeibbmfaa
