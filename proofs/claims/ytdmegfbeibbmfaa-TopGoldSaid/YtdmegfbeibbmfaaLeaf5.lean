/- Contracts: upright, level, given can's. No condition beyond jobs as defined. -/
import Derived.Test.YtdmegfbeibbmfaaLeaf4
set_option linter.unusedVariables false
set_option linter.unusedSimpArgs false
namespace Go.Proofs.Ytdmegfbeibbmfaa
open Go.RowKit Go.My Go.GoldM

theorem any_no {P : Nat → Bool} {n : Nat} (h : ∀ i, i < n → P i = false) : (List.range n).any P = false := by
  rw [List.any_eq_false]
  exact fun i hi => by simp [h i (List.mem_range.1 hi)]
theorem any_yes {P : Nat → Bool} {n i : Nat} (hi : i < n) (h : P i = true) : (List.range n).any P = true := List.any_eq_true.2 ⟨i, List.mem_range.2 hi, h⟩

set_option maxRecDepth 100000 in
set_option maxHeartbeats 8000000 in
theorem upright85 (j : Jb) (og op : Option Addr) (cg cp mb n : Nat) (hC : CanOK j og op cg cp mb n) (w' h' set : Nat) (a1 : 1 ≤ w') (a2 : 1 ≤ h') (a3 : w' + h' ≤ n + 1) (b1 : w' ≤ 6) (b2 : h' ≤ 6) (hs : set < 32) (hs1 : 1 ≤ set)
    (w : World) (hm : RestM.Memo w mb (F3 j.pieces)) (hp : PcsAt w op j.pieces) :
    Calls Try.prog 85 #[knV j og cg op cp mb, restV w' h' set] w fun e W' => e = .returned (.bool (upR j.pieces w' h' set)) ∧ KM j.pieces mb w W' := by
  have hmb := hm.lt
  have HM0 := Lib.hid hm
  have HP0 := Lib.hid hp
  have RP := Lib.hid (fun k (hk : k < w' - 1) W (hm : RestM.Memo W mb (F3 j.pieces)) (hp : PcsAt W op j.pieces) => parts89 j og op cg cp mb n hC (k + 1) h' (w' - (k + 1)) h' set (by omega) (by omega) (by omega) (by omega) (by omega) (by omega) (by omega) (by omega) (by omega) (by omega) hs hs1 W hm hp)
  have Hno := Lib.hid (fun (h : ∀ k, k < w' - 1 → parts set (canR j.pieces (k + 1) h') (canR j.pieces (w' - (k + 1)) h') = false) => (show upR j.pieces w' h' set = false from any_no h))
  have Hyes := Lib.hid (fun k (hk : k < w' - 1) (h : parts set (canR j.pieces (k + 1) h') (canR j.pieces (w' - (k + 1)) h') = true) => (show upR j.pieces w' h' set = true from any_yes (P := fun k => parts set (canR j.pieces (k + 1) h') (canR j.pieces (w' - (k + 1)) h')) hk h))
  obtain ⟨R, hR⟩ : ∃ R, R = upR j.pieces w' h' set := ⟨_, rfl⟩
  rw [← hR] at Hno Hyes ⊢
  clear hC a3 hm hp hR
  have hE0 : Ext w ((w.alloc (.cells (knL j og cg op cp mb).toArray 114)).alloc (.cells #[I w', I h', I set] 139)) := ((Ext.refl w).alloc _).alloc _
  have HK0 := Lib.hid (show VB ((w.alloc (.cells (knL j og cg op cp mb).toArray 114)).alloc (.cells #[I w', I h', I set] 139)) w.heap.size (knL j og cg op cp mb) from (VB.new w (knL j og cg op cp mb) 114).ext ((Ext.refl _).alloc _))
  have HA0 := Lib.hid (show VB ((w.alloc (.cells (knL j og cg op cp mb).toArray 114)).alloc (.cells #[I w', I h', I set] 139)) (w.heap.size + 1) [I w', I h', I set] by
    have := VB.new (w.alloc (.cells (knL j og cg op cp mb).toArray 114)) [I w', I h', I set] 139
    simpa only [World.size_alloc] using this)
  have HE0 := Lib.hid hE0
  clear hE0
  go_enter Try.func85, Try.ntmps85
  go_wp2
  go_loopg [5] (w' - 1) (fun g v wr => ∃ k : Nat, k + g = w' - 1 ∧ v = .int .i64 ((k : Int) + 1) ∧ KM j.pieces mb w wr ∧ VB wr w.heap.size (knL j og cg op cp mb) ∧ VB wr (w.heap.size + 1) [I w', I h', I set] ∧ ∀ k', k' < k → parts set (canR j.pieces (k' + 1) h') (canR j.pieces (w' - (k' + 1)) h') = false)
  case atStart => exact ⟨0, by omega, rfl, KM.of_ext HM0.out HE0.out, HK0.out, HA0.out, fun k' hk' => by omega⟩
  case round =>
    obtain ⟨k, hk, rfl, hM, hK, hA, hall⟩ := hrel
    have HM := Lib.hid hM
    have HK := Lib.hid hK
    have HA := Lib.hid hA
    have Hall := Lib.hid hall
    have Hp := Lib.hid (hM.pcs HM0.out HP0.out)
    clear hM hK hA hall HK0 HA0 HE0
    have e0 := HK.out 0 _ rfl; have e1 := HK.out 1 _ rfl; have e2 := HK.out 2 _ rfl; have e3 := HK.out 3 _ rfl; have e4 := HK.out 4 _ rfl; have e5 := HK.out 5 _ rfl; have e6 := HK.out 6 _ rfl
    have f0 := HA.out 0 _ rfl; have f1 := HA.out 1 _ rfl; have f2 := HA.out 2 _ rfl
    by_cases hlt : k < w' - 1
    · have hltI : (k : Int) + 1 < (w' : Int) := by omega
      have q1 : IntKind.i64.wrap ((w' : Int) - ((k : Int) + 1)) = ((w' - (k + 1) : Nat) : Int) := by rw [IntWalk.i64_in _ (by omega)]; omega
      have RK := Lib.hid (RP.out k hlt)
      simp only [restV, I, Int.natCast_add, Int.cast_ofNat_Int] at RK
      have hy := Hyes.out k hlt
      have hb1 : ¬ w.heap.size = mb := by omega
      have hb2 : ¬ w.heap.size + 1 = mb := by omega
      cases hP : parts set (canR j.pieces (k + 1) h') (canR j.pieces (w' - (k + 1)) h') with
      | false =>
        have HP := Lib.hid hP
        rw [hP] at RK
        clear hP hy
        go_wp2_with (first | (go_at_call 89; refine (RK.out _ HM.out.memo Hp.out).mono ?_; rintro e w6 ⟨rfl, h6⟩; have H6 := Lib.hid h6; clear h6 e0 e1 e2 e3 e4 e5 e6 f0 f1 f2))
        go_roundg (gk - 1)
        case measure => omega
        case rel => exact ⟨k + 1, by omega, by go_num, HM.out.trans H6.out, HK.out.mv H6.out.mv hb1, HA.out.mv H6.out.mv hb2, fun k' hk' => by
          rcases Nat.lt_succ_iff_lt_or_eq.1 hk' with h | rfl
          · exact Hall.out k' h
          · exact HP.out⟩
      | true =>
        obtain rfl := hy hP
        rw [hP] at RK
        clear hP
        go_wp2_with (first | (go_at_call 89; refine (RK.out _ HM.out.memo Hp.out).mono ?_; rintro e w6 ⟨rfl, h6⟩; have H6 := Lib.hid h6; clear h6 e0 e1 e2 e3 e4 e5 e6 f0 f1 f2))
        go_ret
        exact ⟨rfl, HM.out.trans H6.out⟩
    · obtain rfl : k = w' - 1 := by omega
      have hltI : ¬ ((w' - 1 : Nat) : Int) + 1 < (w' : Int) := by omega
      obtain rfl := Hno.out Hall.out
      go_wp2
      go_ret
      exact ⟨rfl, HM.out⟩

set_option maxRecDepth 100000 in
set_option maxHeartbeats 8000000 in
theorem level86 (j : Jb) (og op : Option Addr) (cg cp mb n : Nat) (hC : CanOK j og op cg cp mb n) (w' h' set : Nat) (a1 : 1 ≤ w') (a2 : 1 ≤ h') (a3 : w' + h' ≤ n + 1) (b1 : w' ≤ 6) (b2 : h' ≤ 6) (hs : set < 32) (hs1 : 1 ≤ set)
    (w : World) (hm : RestM.Memo w mb (F3 j.pieces)) (hp : PcsAt w op j.pieces) :
    Calls Try.prog 86 #[knV j og cg op cp mb, restV w' h' set] w fun e W' => e = .returned (.bool (levR j.pieces w' h' set)) ∧ KM j.pieces mb w W' := by
  have hmb := hm.lt
  have HM0 := Lib.hid hm
  have HP0 := Lib.hid hp
  have RP := Lib.hid (fun k (hk : k < h' - 1) W (hm : RestM.Memo W mb (F3 j.pieces)) (hp : PcsAt W op j.pieces) => parts89 j og op cg cp mb n hC w' (k + 1) w' (h' - (k + 1)) set (by omega) (by omega) (by omega) (by omega) (by omega) (by omega) (by omega) (by omega) (by omega) (by omega) hs hs1 W hm hp)
  have Hno := Lib.hid (fun (h : ∀ k, k < h' - 1 → parts set (canR j.pieces w' (k + 1)) (canR j.pieces w' (h' - (k + 1))) = false) => (show levR j.pieces w' h' set = false from any_no h))
  have Hyes := Lib.hid (fun k (hk : k < h' - 1) (h : parts set (canR j.pieces w' (k + 1)) (canR j.pieces w' (h' - (k + 1))) = true) => (show levR j.pieces w' h' set = true from any_yes (P := fun k => parts set (canR j.pieces w' (k + 1)) (canR j.pieces w' (h' - (k + 1)))) hk h))
  obtain ⟨R, hR⟩ : ∃ R, R = levR j.pieces w' h' set := ⟨_, rfl⟩
  rw [← hR] at Hno Hyes ⊢
  clear hC a3 hm hp hR
  have hE0 : Ext w ((w.alloc (.cells (knL j og cg op cp mb).toArray 114)).alloc (.cells #[I w', I h', I set] 139)) := ((Ext.refl w).alloc _).alloc _
  have HK0 := Lib.hid (show VB ((w.alloc (.cells (knL j og cg op cp mb).toArray 114)).alloc (.cells #[I w', I h', I set] 139)) w.heap.size (knL j og cg op cp mb) from (VB.new w (knL j og cg op cp mb) 114).ext ((Ext.refl _).alloc _))
  have HA0 := Lib.hid (show VB ((w.alloc (.cells (knL j og cg op cp mb).toArray 114)).alloc (.cells #[I w', I h', I set] 139)) (w.heap.size + 1) [I w', I h', I set] by
    have := VB.new (w.alloc (.cells (knL j og cg op cp mb).toArray 114)) [I w', I h', I set] 139
    simpa only [World.size_alloc] using this)
  have HE0 := Lib.hid hE0
  clear hE0
  go_enter Try.func86, Try.ntmps86
  go_wp2
  go_loopg [5] (h' - 1) (fun g v wr => ∃ k : Nat, k + g = h' - 1 ∧ v = .int .i64 ((k : Int) + 1) ∧ KM j.pieces mb w wr ∧ VB wr w.heap.size (knL j og cg op cp mb) ∧ VB wr (w.heap.size + 1) [I w', I h', I set] ∧ ∀ k', k' < k → parts set (canR j.pieces w' (k' + 1)) (canR j.pieces w' (h' - (k' + 1))) = false)
  case atStart => exact ⟨0, by omega, rfl, KM.of_ext HM0.out HE0.out, HK0.out, HA0.out, fun k' hk' => by omega⟩
  case round =>
    obtain ⟨k, hk, rfl, hM, hK, hA, hall⟩ := hrel
    have HM := Lib.hid hM
    have HK := Lib.hid hK
    have HA := Lib.hid hA
    have Hall := Lib.hid hall
    have Hp := Lib.hid (hM.pcs HM0.out HP0.out)
    clear hM hK hA hall HK0 HA0 HE0
    have e0 := HK.out 0 _ rfl; have e1 := HK.out 1 _ rfl; have e2 := HK.out 2 _ rfl; have e3 := HK.out 3 _ rfl; have e4 := HK.out 4 _ rfl; have e5 := HK.out 5 _ rfl; have e6 := HK.out 6 _ rfl
    have f0 := HA.out 0 _ rfl; have f1 := HA.out 1 _ rfl; have f2 := HA.out 2 _ rfl
    by_cases hlt : k < h' - 1
    · have hltI : (k : Int) + 1 < (h' : Int) := by omega
      have q1 : IntKind.i64.wrap ((h' : Int) - ((k : Int) + 1)) = ((h' - (k + 1) : Nat) : Int) := by rw [IntWalk.i64_in _ (by omega)]; omega
      have RK := Lib.hid (RP.out k hlt)
      simp only [restV, I, Int.natCast_add, Int.cast_ofNat_Int] at RK
      have hy := Hyes.out k hlt
      have hb1 : ¬ w.heap.size = mb := by omega
      have hb2 : ¬ w.heap.size + 1 = mb := by omega
      cases hP : parts set (canR j.pieces w' (k + 1)) (canR j.pieces w' (h' - (k + 1))) with
      | false =>
        have HP := Lib.hid hP
        rw [hP] at RK
        clear hP hy
        go_wp2_with (first | (go_at_call 89; refine (RK.out _ HM.out.memo Hp.out).mono ?_; rintro e w6 ⟨rfl, h6⟩; have H6 := Lib.hid h6; clear h6 e0 e1 e2 e3 e4 e5 e6 f0 f1 f2))
        go_roundg (gk - 1)
        case measure => omega
        case rel => exact ⟨k + 1, by omega, by go_num, HM.out.trans H6.out, HK.out.mv H6.out.mv hb1, HA.out.mv H6.out.mv hb2, fun k' hk' => by
          rcases Nat.lt_succ_iff_lt_or_eq.1 hk' with h | rfl
          · exact Hall.out k' h
          · exact HP.out⟩
      | true =>
        obtain rfl := hy hP
        rw [hP] at RK
        clear hP
        go_wp2_with (first | (go_at_call 89; refine (RK.out _ HM.out.memo Hp.out).mono ?_; rintro e w6 ⟨rfl, h6⟩; have H6 := Lib.hid h6; clear h6 e0 e1 e2 e3 e4 e5 e6 f0 f1 f2))
        go_ret
        exact ⟨rfl, HM.out.trans H6.out⟩
    · obtain rfl : k = h' - 1 := by omega
      have hltI : ¬ ((h' - 1 : Nat) : Int) + 1 < (h' : Int) := by omega
      obtain rfl := Hno.out Hall.out
      go_wp2
      go_ret
      exact ⟨rfl, HM.out⟩

end Go.Proofs.Ytdmegfbeibbmfaa
