/- Contract: More, at the bench of the examples. -/
import Derived.Test.YtdmegfbeibbmfaaBench11
set_option linter.unusedVariables false
set_option linter.unusedSimpArgs false
namespace Go.Proofs.Ytdmegfbeibbmfaa
open Go.RowKit Go.My Go.GoldM

theorem fineB (n : Nat) (hn : n ≤ 3) : FineB (benchB n) where
  ap := hn
  bl := by simp [benchB]
  bd := fun m hm => by simp [benchB] at hm; omega
  sl := by simp [benchB, stsB]
  st := fun i s hs => by
    match i, hs with
    | 0, hs => simp [benchB, stsB] at hs; subst hs; simp [benchB]
    | 1, hs => simp [benchB, stsB] at hs; subst hs; simp [benchB]
    | 2, hs => simp [benchB, stsB] at hs; subst hs; simp [benchB]
    | 3, hs => simp [benchB, stsB] at hs; subst hs; simp [benchB]
    | i + 4, hs => simp [benchB, stsB] at hs
theorem knownB : EndsKnown (benchB 2) (fun p => endF stsB p 6) where
  len := fun p hp => (plansB p hp).1
  ends := fun p hp => (plansB p hp).2.1
  le := fun p hp n hn => (plansB p hp).2.2 n hn
theorem minB5 : minTo (fun j => (longs (benchB 2) (fun p => endF stsB p 6)).getD j 0) 8 = 5 := by decide +kernel

set_option maxRecDepth 100000 in
set_option maxHeartbeats 2000000 in
theorem more10 (ob os : Option Addr) (cb cs : Nat) (w : World) (h : BnAt w (benchB 1) ob os) (hos : ∀ ad, os = some ad → ad.block < w.heap.size) :
    Calls Try.prog 10 #[bnV (benchB 1) ob cb os cs] w fun e w' => e = .returned (.tuple #[.int .i64 5, .int .i64 0]) ∧ Ext w w' := by
  have R20 := Lib.hid (fun W (hE : Ext w W) => isBench20 (benchB 1) (fineB 1 (by decide)) ob os cb cs W (h.ext hE))
  have R22 := Lib.hid (fun W => with22 (benchB 1) 2 ob os cb cs W)
  have R21 := Lib.hid (fun W (hE : Ext w W) => bests21 (benchB 2) (fineB 2 (by decide)) (fun p => endF stsB p 6) knownB (by rw [plansB_len]; decide) ob os cb cs W (⟨(h.ext hE).bs, (h.ext hE).ss⟩) (fun ad had => Nat.lt_of_lt_of_le (hos ad had) hE.size))
  have HB := Lib.hid (VB.new w (bnL (benchB 1) ob cb os cs) 57)
  have hE0 := Lib.hid ((Ext.refl w).alloc (.cells (bnL (benchB 1) ob cb os cs).toArray 57))
  clear h hos
  have e1 : (benchB 1).boards.length = 2 := rfl
  have e2 : (benchB 1).sts.length = 4 := rfl
  have e3 : (benchB 1).ap = 1 := rfl
  go_enter Try.func10, Try.ntmps10
  go_wp2_with (first | (go_at_call 20; refine (R20.out _ hE0.out).mono ?_; rintro e w1 ⟨rfl, h1⟩; have H1 := Lib.hid (hE0.out.trans h1); have HB1 := Lib.hid (HB.out.ext h1); clear h1; have b0 := HB1.out 0 _ rfl; have b1 := HB1.out 1 _ rfl; have b2 := HB1.out 2 _ rfl) | (go_at_call 22; refine (R22.out _).mono ?_; rintro e w2 ⟨rfl, h2⟩; have H2 := Lib.hid (H1.out.trans h2); clear h2) | (go_at_call 21; refine (R21.out _ H2.out).mono ?_; rintro e w3 ⟨B, v, rfl, hO, h3⟩; rw [plansB_len] at hO; obtain ⟨g, n, cap, o, m, c, rfl, hn, hcap, k0, k1, hg⟩ := hO.head (j := 8); rw [minB5] at k1; have H3 := Lib.hid (H2.out.trans h3); clear hO h3))
  refine bodyPost_ret (results_tmp2 rfl _ _ _) (by simp) ?_
  exact ⟨rfl, H3.out⟩

end Go.Proofs.Ytdmegfbeibbmfaa
