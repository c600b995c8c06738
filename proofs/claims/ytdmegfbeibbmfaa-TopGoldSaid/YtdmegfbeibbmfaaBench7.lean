/- Contracts: the iterator over all plans; plans. No condition beyond benches as defined. -/
import Derived.Test.YtdmegfbeibbmfaaBench6
import Derived.Laws.EntriesVeiled
set_option linter.unusedVariables false
set_option linter.unusedSimpArgs false
namespace Go.Proofs.Ytdmegfbeibbmfaa
open Go.RowKit Go.My Go.GoldM

set_option maxRecDepth 100000 in
set_option maxHeartbeats 4000000 in
theorem iter_plans (x : Bn) (f : FineB x) (ob os : Option Addr) (cb cs bj : Nat) (Bd : Nat → Prop) (w : World) (hbj : bj < w.heap.size) (hbd : ¬ Bd bj) (hos : ∀ ad, os = some ad → ad.block < w.heap.size ∧ ¬ Bd ad.block) (hbn : VB w bj (bnL x ob cb os cs)) (hp : StsAt w os x.sts) :
    Iter Try.prog 68 #[.pointer (some ⟨bj, 0, none⟩)] (plansOf x).length Bd w.heap.size (PlanP x w.heap.size) w := by
  intro l W R Fin hE hR h0 hY
  have HR := Lib.hid hR
  have H0 := Lib.hid h0
  have HY := Lib.hid hY
  have HE := Lib.hid hE
  have Hf := Lib.hid f
  have Hos := Lib.hid hos
  have HB := Lib.hid (hbn.ext hE)
  have HP := Lib.hid ((hp.ext hE).rnd)
  have k3 := cell2 W (.cells #[.func (.yield l) #[] #[]] 134) .nilFunc 134
  have k4 := frozen2 W (.cells #[.func (.yield l) #[] #[]] 134) .nilFunc 134
  clear hR h0 hY hE hbn hp f hos
  go_enter Try.func68, Try.ntmps68
  go_wp2_with fail
  obtain ⟨w4, hw4⟩ : ∃ X, X = (W.alloc (.cells #[.func (.yield l) #[] #[]] 134)).alloc (.cells #[.func (.func 69) #[] #[.pointer (some ⟨bj, 0, none⟩), .pointer (some ⟨W.heap.size, 0, none⟩), .pointer (some ⟨W.heap.size + 1, 0, none⟩)]] 134) := ⟨_, rfl⟩
  have hfb : w4.cell? ⟨W.heap.size + 1, 0, none⟩ = some (.func (.func 69) #[] #[.pointer (some ⟨bj, 0, none⟩), .pointer (some ⟨W.heap.size, 0, none⟩), .pointer (some ⟨W.heap.size + 1, 0, none⟩)]) := by rw [hw4]; exact cell2 _ _ _ _
  have hyb : w4.cell? ⟨W.heap.size, 0, none⟩ = some (.func (.yield l) #[] #[]) := by rw [hw4]; go_simp
  have hE4 : Ext W w4 := by rw [hw4]; exact ((Ext.refl W).alloc _).alloc _
  have hs4 : w4.heap.size = W.heap.size + 2 := by rw [hw4]; simp
  rw [← hw4]
  clear hw4 k3 k4
  have hI : ∀ i, (i = W.heap.size ∨ i = W.heap.size + 1) → W.heap.size ≤ i ∧ i < w4.heap.size := fun i hi => by omega
  have hrd : RndAt w4 os x.sts := fun i s hs => by
    obtain ⟨b, off, h1, h2, h3⟩ := HP.out i s hs
    exact ⟨b, off, h1, Nat.lt_of_lt_of_le h2 hE4.size, cell_ext hE4 h3⟩
  have hput := plan_any Hf.out hbj hbd Hos.out HE.out.size HR.out HY.out x.sts.length [] none 0 0 [] (fun i => i = W.heap.size ∨ i = W.heap.size + 1) w4 (by simp) (by simp [plansOf])
    ⟨HB.out.ext hE4, hrd, hyb, hfb, .inl rfl, .inr rfl, hI, My.Own.nil _ _ _, nofun⟩
    (HR.out 0 _ _ W w4 H0.out (Mv.of_ext hE4) fun i hi => by
      rcases hi with hi | hi
      · exact ⟨.inr (hI i hi).1, (hI i hi).2⟩
      · cases hi)
  have Hput := Lib.hid hput
  have HI := Lib.hid hI
  clear hput hI hyb hs4 hE4 hfb hrd
  refine (Hput.out).mono ?_
  rintro e w7 ⟨b, rfl, hMv, hT, hF⟩
  have HMv := Lib.hid hMv
  have HT := Lib.hid hT
  have HF := Lib.hid hF
  clear hMv hT hF
  go_wp2
  go_end0
  refine ⟨⟨_, rfl⟩, ?_⟩
  cases b with
  | true => exact .inl ⟨_, by have := HT.out rfl; rwa [Nat.zero_add] at this, fun i hi => ⟨(HI.out i hi).1, Nat.lt_of_lt_of_le (HI.out i hi).2 HMv.out.size⟩⟩
  | false => exact .inr (HF.out rfl)

set_option maxHeartbeats 1000000 in
theorem plans45 (x : Bn) (ob os : Option Addr) (cb cs : Nat) (w : World) : Calls Try.prog 45 #[bnV x ob cb os cs] w fun e w' => e = .returned (.func (.func 68) #[] #[.pointer (some ⟨w.heap.size, 0, none⟩)]) ∧ w' = w.alloc (.cells (bnL x ob cb os cs).toArray 57) := by
  go_enter Try.func45, Try.ntmps45
  go_wp2
  go_ret
  exact ⟨rfl, rfl⟩

end Go.Proofs.Ytdmegfbeibbmfaa
