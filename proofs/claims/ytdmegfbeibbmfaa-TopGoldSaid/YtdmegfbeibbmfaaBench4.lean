/- Contracts: when strokes end. No condition beyond benches as defined. -/
import Derived.Test.YtdmegfbeibbmfaaBench3
import Derived.Test.YtdmegfbeibbmfaaLeaf14
set_option linter.unusedVariables false
set_option linter.unusedSimpArgs false
namespace Go.Proofs.Ytdmegfbeibbmfaa
open Go.RowKit Go.My Go.GoldM

def fE (F : Nat → Nat) (a _b : Int) : Int := ((F a.toNat : Nat) : Int)
theorem fE_nat (F : Nat → Nat) (n : Nat) (b : Int) : fE F (n : Int) b = ((F n : Nat) : Int) := rfl
structure KE (F : Nat → Nat) (mb : Nat) (W W' : World) : Prop where
  mv : Mv (fun i => i = mb) W W'
  memo : EndM.Memo W' mb (fE F)
theorem KE.trans {F : Nat → Nat} {mb : Nat} {a b c : World} (h : KE F mb a b) (k : KE F mb b c) : KE F mb a c := ⟨h.mv.trans k.mv, k.memo⟩
theorem KE.of_ext {F : Nat → Nat} {mb : Nat} {a b : World} (h : EndM.Memo a mb (fE F)) (hE : Ext a b) : KE F mb a b := ⟨Mv.of_ext hE, h.ext hE⟩
structure WkAt (W : World) (x : Bn) (os op : Option Addr) (plan : List Nat) : Prop where
  ss : StsAt W os x.sts
  pl : IntsAt W op (upL plan)
theorem WkAt.ext {W W' : World} {x : Bn} {os op : Option Addr} {plan : List Nat} (h : WkAt W x os op plan) (hE : Ext W W') : WkAt W' x os op plan := ⟨h.ss.ext hE, h.pl.ext hE⟩
theorem ints_ke {F : Nat → Nat} {mb : Nat} {W W' : World} {o : Option Addr} {l : List Int} (h : IntsAt W o l) (hm : EndM.Memo W mb (fE F)) (hk : KE F mb W W') : IntsAt W' o l := fun i v hv => by
  obtain ⟨b, off, h1, h2, h3⟩ := h i v hv
  exact ⟨b, off, h1, Nat.lt_of_lt_of_le h2 hk.mv.size, hk.mv.cell (hm.not h3) h3⟩
theorem WkAt.ke {F : Nat → Nat} {mb : Nat} {W W' : World} {x : Bn} {os op : Option Addr} {plan : List Nat} (h : WkAt W x os op plan) (hm : EndM.Memo W mb (fE F)) (hk : KE F mb W W') : WkAt W' x os op plan :=
  ⟨fun i s hs => by
    obtain ⟨b, off, on, cn, h1, h2, h3, h4, h5⟩ := h.ss i s hs
    exact ⟨b, off, on, cn, h1, Nat.lt_of_lt_of_le h2 hk.mv.size, fun j v hv => hk.mv.cell (hm.not (h3 j v hv)) (h3 j v hv), h4, ints_ke h5 hm hk⟩, ints_ke h.pl hm hk⟩
theorem VB.ke {F : Nat → Nat} {mb b : Nat} {W W' : World} {vs : List Value} (h : VB W b vs) (hm : EndM.Memo W mb (fE F)) (hk : KE F mb W W') : VB W' b vs := fun i v hv => hk.mv.cell (hm.not (h i v hv)) (h i v hv)
def EndOK (x : Bn) (ob os op : Option Addr) (cb cs cp mb : Nat) (plan : List Nat) (F : Nat → Nat) (n : Nat) : Prop := ∀ (m : Nat) (W : World), m < n → EndM.Memo W mb (fE F) → WkAt W x os op plan →
  Calls Try.prog 70 #[wkV x ob cb os cs op plan.length cp mb, I m, .int .i64 1] W fun e W' => e = .returned (I (F m)) ∧ KE F mb W W'

set_option maxRecDepth 100000 in
set_option maxHeartbeats 2000000 in
theorem free87 (x : Bn) (ob os op : Option Addr) (cb cs cp mb : Nat) (plan : List Nat) (F : Nat → Nat) (n : Nat) (hC : EndOK x ob os op cb cs cp mb plan F n) (hn : n < plan.length) (hl : plan.length ≤ 100) (w : World) (hm : EndM.Memo w mb (fE F)) (h : WkAt w x os op plan) :
    Calls Try.prog 87 #[wkV x ob cb os cs op plan.length cp mb, I n, .int .i64 1] w fun e w' => e = .returned (I (freeN F plan n)) ∧ KE F mb w w' := by
  have HW := Lib.hid (VB.new w (wkL x ob cb os cs op plan.length cp mb) 104)
  have HE0 := Lib.hid ((Ext.refl w).alloc (.cells (wkL x ob cb os cs op plan.length cp mb).toArray 104))
  have HM := Lib.hid hm
  have HH := Lib.hid h
  have R := Lib.hid (fun W (hE : Ext w W) => before90 x ob os op cb cs cp mb plan n hn hl W (h.pl.ext hE))
  have HC := Lib.hid hC
  cases hp : prev plan n with
  | none =>
    have HF := Lib.hid (show freeN F plan n = 0 by simp [freeN, hp])
    rw [hp] at R
    clear hp hC hm h
    go_enter Try.func87, Try.ntmps87
    go_wp2_with (first | (go_at_call 90; refine (R.out _ HE0.out).mono ?_; rintro e w1 ⟨rfl, h1⟩; have H1 := Lib.hid (HE0.out.trans h1); clear h1))
    go_ret
    exact ⟨by rw [HF.out]; rfl, KE.of_ext HM.out H1.out⟩
  | some i =>
    have hin := prevTo_lt hp
    have HF := Lib.hid (show freeN F plan n = F i by simp [freeN, hp])
    rw [hp] at R
    clear hp hC hm h
    go_enter Try.func87, Try.ntmps87
    go_wp2_with (first | (go_at_call 90; refine (R.out _ HE0.out).mono ?_; rintro e w1 ⟨rfl, h1⟩; have HW1 := Lib.hid (HW.out.ext h1); have H1 := Lib.hid (HE0.out.trans h1); clear h1; have e0 := HW1.out 0 _ rfl; have e1 := HW1.out 1 _ rfl; have e2 := HW1.out 2 _ rfl; have e3 := HW1.out 3 _ rfl; have e4 := HW1.out 4 _ rfl; have e5 := HW1.out 5 _ rfl; have e6 := HW1.out 6 _ rfl) | (go_at_call 70; refine (HC.out i _ hin (HM.out.ext H1.out) (HH.out.ext H1.out)).mono ?_; rintro e w2 ⟨rfl, h2⟩))
    go_ret
    exact ⟨by rw [HF.out]; rfl, (KE.of_ext HM.out H1.out).trans h2⟩

theorem mx_up (l : List Nat) : ∀ a : Nat, (upL l).foldl max (a : Int) = ((l.foldl max a : Nat) : Int) := by
  induction l with
  | nil => intro a; rfl
  | cons y l ih =>
    intro a
    simp only [upL, List.map_cons, List.foldl_cons]
    rw [show max (a : Int) (y : Int) = ((max a y : Nat) : Int) by omega]
    exact ih _
theorem mxTo_up (l : List Nat) : mxTo (upL l) = ((mxN l : Nat) : Int) := mx_up l 0

theorem take_one (l : List Nat) (h : 0 < l.length) : l.take 1 = [l[0]] := by
  cases l with
  | nil => simp at h
  | cons a l => simp

set_option maxRecDepth 100000 in
set_option maxHeartbeats 4000000 in
theorem begin82 (x : Bn) (ob os op : Option Addr) (cb cs cp mb : Nat) (plan : List Nat) (F : Nat → Nat) (n : Nat) (s : St) (hk : x.sts[n]? = some s) (s5 : s.needs.length ≤ 1) (s6 : ∀ m ∈ s.needs, m < n) (hC : EndOK x ob os op cb cs cp mb plan F n) (hn : n < plan.length) (hl : plan.length ≤ 100) (w : World) (hm : EndM.Memo w mb (fE F)) (h : WkAt w x os op plan) :
    Calls Try.prog 82 #[wkV x ob cb os cs op plan.length cp mb, I n, .int .i64 1] w fun e w' => e = .returned (I (mxN (freeN F plan n :: s.needs.map F))) ∧ KE F mb w w' := by
  have hmb := hm.lt
  have HW := Lib.hid (VB.new w (wkL x ob cb os cs op plan.length cp mb) 104)
  have HE0 := Lib.hid ((Ext.refl w).alloc (.cells (wkL x ob cb os cs op plan.length cp mb).toArray 104))
  have HM := Lib.hid hm
  have HH := Lib.hid h
  have R87 := Lib.hid (fun W hm h => free87 x ob os op cb cs cp mb plan F n hC hn hl W hm h)
  have HC := Lib.hid hC
  have Hk := Lib.hid hk
  have H6 := Lib.hid (fun i (hi : i < s.needs.length) => s6 _ (List.getElem_mem hi))
  have hkl := (List.getElem?_eq_some_iff.1 hk).1
  have hklI : (n : Int) < (x.sts.length : Int) := by omega
  generalize freeN F plan n = fr at *
  obtain ⟨b, off, on, cn, hos, hb, k0, k1, k2, k3, k4, hcn, hn2⟩ := h.ss.at hk
  subst hos
  have HN0 := Lib.hid hn2
  have K4 := Lib.hid k4
  clear hC hm h hk s6 hn2 k0 k1 k2 k3 k4
  go_enter Try.func82, Try.ntmps82
  go_wp2_with (first | (go_at_call 87; refine (R87.out _ (HM.out.ext HE0.out) (HH.out.ext HE0.out)).mono ?_; rintro e w2 ⟨rfl, h2⟩; have HK2 := Lib.hid ((KE.of_ext HM.out HE0.out).trans h2); have HW2 := Lib.hid (VB.ke HW.out (HM.out.ext HE0.out) h2); clear h2; have hs2 := HK2.out.mv.size; have k4 := HK2.out.mv.cell (HM.out.not K4.out) K4.out; have e0 := HW2.out 0 _ rfl; have e1 := HW2.out 1 _ rfl; have e2 := HW2.out 2 _ rfl; have e3 := HW2.out 3 _ rfl; have e4 := HW2.out 4 _ rfl; have e5 := HW2.out 5 _ rfl; have e6 := HW2.out 6 _ rfl; have hl0 := World.block_lt_of_cell? _ _ e0; have hne0 := Nat.ne_of_lt hl0; simp only at hl0 hne0; have hb2 : b < w2.heap.size := Nat.lt_of_lt_of_le hb hs2; have hne1 := Nat.ne_of_lt hb2))
  obtain ⟨w3, hw3⟩ : ∃ X, X = w2.alloc (.cells #[.int .i64 (fr : Nat)] 3) := ⟨_, rfl⟩
  have hX3 : Ext w2 w3 := by rw [hw3]; exact (Ext.refl w2).alloc _
  have hown3 : My.Own w3 (w.heap.size + 1) 3 (.slice (some ⟨w2.heap.size, 0, none⟩) 1 1) (natsV [fr]) := by
    rw [hw3]
    exact ⟨rfl, .inr ⟨w2.heap.size, 1, #[I fr], rfl, by omega, heap_alloc_new _ _, Nat.le_refl _, by decide, rfl, rfl⟩⟩
  rw [← hw3]
  have HK3 := Lib.hid (HK2.out.trans (KE.of_ext HK2.out.memo hX3))
  have HW3 := Lib.hid (HW2.out.ext hX3)
  have Hown3 := Lib.hid hown3
  clear hw3 hX3 hown3 e0 e1 e2 e3 e4 e5 e6 k4 hl0 hne0 hne1 hb2
  go_loopg [7, 23] s.needs.length (fun g v i wr => ∃ m : Nat, m + g = s.needs.length ∧ i = .int .i64 m ∧ KE F mb w wr ∧ VB wr w.heap.size (wkL x ob cb (some ⟨b, off, none⟩) cs op plan.length cp mb) ∧ My.Own wr (w.heap.size + 1) 3 v (natsV (fr :: (s.needs.take m).map F)))
  case atStart => exact ⟨0, by simp, rfl, HK3.out, HW3.out, Hown3.out⟩
  case round =>
    obtain ⟨m, hm, rfl, hK, hW, hO⟩ := hrel
    clear HK3 HW3 Hown3 HK2 HW2
    obtain ⟨oa, ca, rfl, hca, _⟩ := hO.slice
    rw [natsV_len] at hO hca ⊢
    have HK := Lib.hid hK
    have HW3 := Lib.hid hW
    have HN := Lib.hid (ints_ke HN0.out HM.out hK)
    have HO := Lib.hid hO
    clear hK hW hO
    obtain ⟨wo, rfl⟩ : ∃ wo : World, wo = wr := ⟨_, rfl⟩
    by_cases hlt : m < s.needs.length
    · obtain rfl : m = 0 := by omega
      obtain ⟨b', off', hon, hb', hc'⟩ := HN.out.at (k := 0) (by rw [upL_length]; exact hlt)
      have h6 := H6.out 0 hlt
      have hx0 : (upL s.needs)[0]'(by rw [upL_length]; exact hlt) = ((s.needs[0] : Nat) : Int) := by simp [upL]
      rw [hx0, Nat.add_zero] at hc'
      subst hon
      have hltI : ((0 : Nat) : Int) < (s.needs.length : Int) := by omega
      have hltJ : (0 : Int) < (s.needs.length : Int) := by omega
      have Hfin := Lib.hid (show natsV (fr :: (s.needs.take 1).map F) = natsV [fr] ++ [I (F s.needs[0])] by
        have := take_one s.needs hlt
        rw [this, natsV_app]; simp)
      generalize s.needs[0] = n0 at *
      have e0 := HW3.out 0 _ rfl; have e1 := HW3.out 1 _ rfl; have e2 := HW3.out 2 _ rfl; have e3 := HW3.out 3 _ rfl; have e4 := HW3.out 4 _ rfl; have e5 := HW3.out 5 _ rfl; have e6 := HW3.out 6 _ rfl
      have hsz := HK.out.mv.size
      go_wp2_with (first | (go_at_call 70; refine (HC.out n0 _ h6 HK.out.memo (HH.out.ke HM.out HK.out)).mono ?_; rintro e w6 ⟨rfl, h6'⟩; have HK6 := Lib.hid (HK.out.trans h6'); have HW6 := Lib.hid (VB.ke HW3.out HK.out.memo h6'); have HO6 := Lib.hid (HO.out.mv h6'.mv (fun b hb hi => by have := (HO.out.lt b hb).1; omega)); have hs6 := h6'.mv.size; clear h6' e0 e1 e2 e3 e4 e5 e6 hc') | (at_builtin; refine wpList_app1 _ rfl _ _ 33 rfl 3 Try.underlying33 (.int .i64 0) 8 i3 rfl (by decide) (w.heap.size + 1) _ _ rfl (HO6.out.ext ((Ext.refl w6).alloc _)) w6.heap.size (I (F n0)) rfl (by go_simp) rfl ?_ ?_ ?_))
      · rw [natsV_len]; simp
      · simp only [World.size_alloc]; omega
      · intro v' w7 hown7 hB7 hg7
        rw [← Hfin.out] at hown7
        have hX : Ext w6 (w6.alloc (.cells #[I (F n0)] 3)) := (Ext.refl w6).alloc _
        have hMv : Mv (fun i => i = mb ∨ w.heap.size ≤ i) w w7 := (HK6.out.mv.mono fun i _ hi => .inl hi).trans ((Mv.of_ext hX).trans (Mv.of_below hB7 fun i _ hi => .inr (by omega)))
        have hK7 : KE F mb w w7 := ⟨hMv.mono fun i hi h => h.elim id (fun h => by omega), (HK6.out.memo.ext hX).keep (hB7.block mb (by omega))⟩
        have hV7 : VB w7 w.heap.size (wkL x ob cb (some ⟨b, off, none⟩) cs op plan.length cp mb) := fun i v hv => cell_below hB7 (by simp) ((HW6.out.ext hX) i v hv)
        have HK7 := Lib.hid hK7
        have HV7 := Lib.hid hV7
        have HO7 := Lib.hid hown7
        clear hown7 hB7 hg7 hX hMv hK7 hV7
        go_wp2
        go_roundg (gk - 1)
        case measure => omega
        case rel => exact ⟨1, by omega, by go_num, HK7.out, HV7.out, HO7.out⟩
    · obtain rfl : m = s.needs.length := by omega
      have hall : s.needs.take s.needs.length = s.needs := List.take_length
      rw [hall] at HO hca ⊢
      have hlen : (fr :: s.needs.map F).length ≤ 1000 := by simp; omega
      have hO2 := own_nats HO.out
      have R71 := last71 (upL (fr :: s.needs.map F)) oa ca wo hO2.2.2 (by rw [upL_length]; exact hlen)
      rw [upL_length, mxTo_up] at R71
      have HR71 := Lib.hid R71
      generalize (fr :: s.needs.map F).length = N at *
      generalize hG : mxN (fr :: s.needs.map F) = G at *
      have HG := Lib.hid hG
      clear R71 hO2 hall hlen hG
      go_wp2_with (first | (go_at_call 71; refine (HR71.out).mono ?_; rintro e w6 ⟨rfl, h6⟩; obtain rfl := h6.symm))
      go_ret
      exact ⟨by rw [HG.out]; rfl, HK.out⟩

end Go.Proofs.Ytdmegfbeibbmfaa
