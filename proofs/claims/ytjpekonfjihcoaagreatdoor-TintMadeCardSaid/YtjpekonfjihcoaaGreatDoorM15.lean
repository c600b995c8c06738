/- Contracts and mathematics, joined: Off, Sums3. Conditions stand with each. -/
import Derived.Below
import Derived.BigQuiet
import Derived.Deep.DeepCutAuto
import Derived.Deep.DeepFit
import Derived.Deep.LoopGhost
import Derived.Deep.QuietTactic
import Derived.Deep.RegionHeld
import Derived.Deep.RegionHeld3
import Derived.Deep.RegionWith
import Derived.Laws.EntriesVeiled
import Derived.Lib.Hide
import Derived.OrdersHeld
import Derived.Test.YtjpekonfjihcoaaGreatDoorProg
import Derived.WalkKit
import Derived.WalkLawsBesides
import Derived.WalkSpells
import Derived.Test.YtjpekonfjihcoaaGreatDoorM2
import Derived.Test.YtjpekonfjihcoaaGreatDoorM4
import Derived.Test.YtjpekonfjihcoaaGreatDoorM3
import Derived.Test.YtjpekonfjihcoaaGreatDoorM10
import Derived.Test.YtjpekonfjihcoaaGreatDoorM1
import Derived.Test.YtjpekonfjihcoaaGreatDoorM5
namespace Go.TintM
end Go.TintM
set_option maxRecDepth 100000
set_option maxHeartbeats 64000000
set_option linter.unusedVariables false
set_option linter.unusedSimpArgs false
/- Contract: off. No condition beyond sheets and mixtures as defined. -/
namespace Go.Proofs.YtjpekonfjihcoaaGreatDoor
open Go.RowKit Go.My Go.TintM


theorem off_any (s : Sh) (g : Fine s) (m : List Nat) (hm : IsMix s m) (ot : Option Addr) (cap : Nat) (om : Option Addr) (cm : Nat) (w : World) (h : TinsAt w ot (ofSh s).tins) (hi : IntsAt w om (upL m)) :
  Calls Tryz.prog 93 #[potV s ot cap om m.length cm] w fun e w' => e = .returned (.int .i64 (offOf s m)) ∧ Ext w w' := by
 have hm8 : ∀ x ∈ upL m, 0 ≤ x ∧ x ≤ 10000 := fun x hx => by
  obtain ⟨n, hn, rfl⟩ := List.mem_map.1 hx
  have := hm.le n hn; omega
 have hml : (upL m).length ≤ 1000 := by rw [upL_length, hm.len]; have := g.len2; omega
 have R127 := Lib.hid (fun p (hp : p < 3) y (hy : y ≤ 20) W (hW : Ext w W) => far_any s g m hm ot cap om cm p y hp hy W (h.ext hW) (hi.ext hW))
 have R75 := Lib.hid (fun W (hW : Ext w W) => sumB_any (upL m) om cm W (hi.ext hW) hml hm8)
 rw [upL_length, sum_up] at R75
 have Hsm := Lib.hid (fun p (hp : p < 3) y => far_small g hm (p := p) (y := y) hp)
 have Hce := Lib.hid (fun p (hp : p < 3) y => ceil_small hm.pos hm.sum (far_small g hm (p := p) (y := y) hp))
 have Hst := Lib.hid (fun i p (hp : p < 3) => offTo_p s m i hp)
 have Hy := Lib.hid (offTo_y s m)
 have Hend := Lib.hid (offTo_end s m)
 have H0 := Lib.hid (offTo_zero s m)
 have hs1 := hm.pos
 have hs8 := hm.sum
 have hy1 := g.ylo
 have hy2 := g.yhi
 clear h hi hm8 hml hm g
 go_enter Tryz.func93, Tryz.ntmps93
 obtain ⟨wp, hwp⟩ : ∃ wp, wp = w.alloc (.cells (potC s ot cap om m.length cm) 108) := ⟨_, rfl⟩
 have HP0 := Lib.hid (show PotBox wp w.heap.size s ot cap om m.length cm by rw [hwp]; exact PotBox.new _ _ _ _ _ _ _)
 have HE0 := Lib.hid (show Ext w wp by rw [hwp]; exact (Ext.refl w).alloc _)
 go_wp2_with (first | (go_at_call 75; refine (R75.out _ ((Ext.refl w).alloc _)).mono ?_; rintro e w1 ⟨rfl, rfl⟩))
 rw [← hwp]
 clear hwp
 go_loopg [3, 5, 6, 22] (s.yhi + 1 - s.ylo) (fun g n y p q wr => ∃ i Y : Nat, Y = s.ylo + i ∧ i + g = s.yhi + 1 - s.ylo ∧ y = .int .i64 (Y : Nat) ∧ n = .int .i64 (offTo s m i 0) ∧ Ext wp wr)
 case atStart => exact ⟨0, s.ylo, by omega, by omega, rfl, by rw [H0.out], Ext.refl _⟩
 case round =>
  obtain ⟨i, Y, hY, hi, rfl, rfl, hE⟩ := hrel
  obtain ⟨g0, rfl⟩ : ∃ g0 : Nat, g0 = gk := ⟨_, rfl⟩
  have HP := Lib.hid (HP0.out.ext hE)
  have c0 := HP.out 0 _ rfl; have c1 := HP.out 1 _ rfl; have c2 := HP.out 2 _ rfl; have c3 := HP.out 3 _ rfl; have c4 := HP.out 4 _ rfl; have c5 := HP.out 5 _ rfl; have c6 := HP.out 6 _ rfl; have c7 := HP.out 7 _ rfl; have c8 := HP.out 8 _ rfl; have c9 := HP.out 9 _ rfl; have c10 := HP.out 10 _ rfl; have c11 := HP.out 11 _ rfl; have c12 := HP.out 12 _ rfl; have c13 : wr.cell? ⟨w.heap.size, 13, none⟩ = some (.slice om m.length cm) := HP.out 13 _ rfl
  have hwE := HE0.out.trans hE
  by_cases hlt : i < s.yhi + 1 - s.ylo
  ·have hYy : Y ≤ s.yhi := by omega
   have hYE := Lib.hid hY
   have hle : (Y : Int) ≤ (ofSh s).yhi := by show (Y : Int) ≤ (s.yhi : Int); omega
   have q0 : IntKind.i64.wrap ((Y : Int) + 1) = (Y : Int) + 1 := by rw [IntWalk.i64_in _ (by omega)]
   clear hY
   go_wp2
   clear c0 c1 c2 c3 c4 c5 c6 c7 c8 c9 c10 c11 c12 c13
   go_loopg [3, 6, 22] 3 (fun g n p q wr => ∃ k : Nat, k + g = 3 ∧ q = .int .i64 k ∧ n = .int .i64 (offTo s m i k) ∧ Ext wp wr)
   case atStart => exact ⟨0, by omega, rfl, rfl, hE⟩
   case round =>
    clear HP hwE hE
    obtain ⟨k, hk, rfl, rfl, hE⟩ := hrel
    have HP := Lib.hid (HP0.out.ext hE)
    have c0 := HP.out 0 _ rfl; have c1 := HP.out 1 _ rfl; have c2 := HP.out 2 _ rfl; have c3 := HP.out 3 _ rfl; have c4 := HP.out 4 _ rfl; have c5 := HP.out 5 _ rfl; have c6 := HP.out 6 _ rfl; have c7 := HP.out 7 _ rfl; have c8 := HP.out 8 _ rfl; have c9 := HP.out 9 _ rfl; have c10 := HP.out 10 _ rfl; have c11 := HP.out 11 _ rfl; have c12 := HP.out 12 _ rfl; have c13 : wr.cell? ⟨w.heap.size, 13, none⟩ = some (.slice om m.length cm) := HP.out 13 _ rfl
    have hwE := Lib.hid (HE0.out.trans hE)
    have HE := Lib.hid hE
    clear hE
    by_cases hk3 : k < 3
    ·have hkI : (k : Int) < 3 := by omega
     have Hs := Lib.hid (Hst.out i k hk3)
     have hs := Hsm.out k hk3 Y
     have hc := Hce.out k hk3 Y
     rw [← hYE.out] at Hs
     have R := Lib.hid (R127.out k hk3 Y (by omega) wr hwE.out)
     have hcd : (far s m k Y + (m.sum : Int) - 1).tdiv (m.sum : Int) = ceilD (far s m k Y) m.sum := rfl
     generalize offTo s m i k = T at *
     generalize far s m k Y = F at *
     generalize ceilD F m.sum = C at *
     generalize m.sum = N at *
     have q1 : IntKind.i64.wrap (F + (N : Int)) = F + (N : Int) := by rw [IntWalk.i64_in _ (by omega)]
     have q2 : IntKind.i64.wrap (F + (N : Int) - 1) = F + (N : Int) - 1 := by rw [IntWalk.i64_in _ (by omega)]
     have q3 : IntKind.i64.wrap C = C := by rw [IntWalk.i64_in _ (by omega)]
     have hN : ¬ (N : Int) = 0 := by omega
     have hN2 : ((N : Int) == 0) = false := by simpa using hN
     clear hi hle hYy hlt hs1 hs8
     go_wp2_with (first | (go_at_call 127; refine R.out.mono ?_; rintro e w2 ⟨rfl, hE4⟩; have HE4 := Lib.hid hE4; clear hE4 c0 c1 c2 c3 c4 c5 c6 c7 c8 c9 c10 c11 c12 c13))
     all_goals go_roundg (gk - 1)
     case measure => omega
     case measure => omega
     case rel => exact ⟨k + 1, by omega, by go_num, congrArg (Value.int .i64) (by rw [Hs.out]; omega), HE.out.trans HE4.out⟩
     case rel => exact ⟨k + 1, by omega, by go_num, congrArg (Value.int .i64) (by rw [Hs.out]; omega), HE.out.trans HE4.out⟩
    ·obtain rfl : k = 3 := by omega
     have Hyy := Lib.hid (Hy.out i)
     generalize offTo s m i 3 = T at *
     go_wp2
     go_roundg (g0 - 1)
     case measure => omega
     case rel => exact ⟨i + 1, Y + 1, by have := hYE.out; omega, by omega, by go_num, by rw [Hyy.out], HE.out⟩
  ·obtain rfl : i = s.yhi + 1 - s.ylo := by omega
   have hle : ¬ (Y : Int) ≤ (ofSh s).yhi := by show ¬ (Y : Int) ≤ (s.yhi : Int); omega
   have he := Hend.out
   generalize offTo s m (s.yhi + 1 - s.ylo) 0 = T at *
   subst he
   have HwE := Lib.hid hwE
   clear hwE hE hY hi
   go_wp2
   go_ret
   exact ⟨rfl, HwE.out⟩

end Go.Proofs.YtjpekonfjihcoaaGreatDoor
/- Contract: Sums. No condition beyond lists of at most 1000 numbers. -/
namespace Go.Proofs.YtjpekonfjihcoaaGreatDoor
open Go.RowKit Go.My Go.TintM

/-- Six numbers of which the first 2 k are filled. -/
def fillL (lo hi : Nat → Int) (k : Nat) : List Int := (List.range 6).map fun j => if j / 2 < k then (if j % 2 = 0 then lo (j / 2) else hi (j / 2)) else 0
theorem fill_len (lo hi : Nat → Int) (k : Nat) : (fillL lo hi k).length = 6 := by simp [fillL]
theorem fill_get (lo hi : Nat → Int) (k : Nat) {j : Nat} (hj : j < 6) : (fillL lo hi k)[j]? = some (if j / 2 < k then (if j % 2 = 0 then lo (j / 2) else hi (j / 2)) else 0) := by simp [fillL, hj]
theorem fill_step (lo hi : Nat → Int) {k : Nat} (hk : k < 3) : (fillL lo hi (k + 1))[k * 2]? = some (lo k) ∧ (fillL lo hi (k + 1))[k * 2 + 1]? = some (hi k) ∧ ∀ j, j ≠ k * 2 → j ≠ k * 2 + 1 → (fillL lo hi (k + 1))[j]? = (fillL lo hi k)[j]? := by
 refine ⟨?_, ?_, fun j h1 h2 => ?_⟩
 ·rw [fill_get _ _ _ (by omega), if_pos (by omega), if_pos (by omega), show k * 2 / 2 = k by omega]
 ·rw [fill_get _ _ _ (by omega), if_pos (by omega), if_neg (by omega), show (k * 2 + 1) / 2 = k by omega]
 ·by_cases hj : j < 6
  ·rw [fill_get _ _ _ hj, fill_get _ _ _ hj]
   by_cases hq : j / 2 < k
   ·rw [if_pos (show j / 2 < k + 1 by omega), if_pos hq]
   ·rw [if_neg (show ¬ j / 2 < k + 1 by omega), if_neg hq]
  ·simp [fillL, hj]
abbrev sumsV (s : Sh) (m : List Nat) : Value := .agg #[.int .i64 (lowS s m 0 : Nat), .int .i64 (highS s m 0 : Nat), .int .i64 (lowS s m 1 : Nat), .int .i64 (highS s m 1 : Nat), .int .i64 (lowS s m 2 : Nat), .int .i64 (highS s m 2 : Nat)]
abbrev sumF (s : Sh) (m : List Nat) (k : Nat) : List Int := fillL (fun p => (lowS s m p : Nat)) (fun p => (highS s m p : Nat)) k

theorem sSums_ok (s : Sh) (g : Fine s) (m : List Nat) (hm : IsMix s m) (ot : Option Addr) (cap : Nat) (ol : Option Addr) (cl : Nat) (w : World) (h : TinsAt w ot (ofSh s).tins) (hi : IntsAt w ol (upL m)) :
  Calls Tryz.prog 34 #[sheetV (ofSh s) ot cap, .slice ol m.length cl] w fun e w' => e = .returned (.tuple #[sumsV s m, .int .i64 0]) ∧ Ext w w' := by
 have hl : (ofSh s).tins.length ≤ 9223372036854775807 := by rw [tins_len]; have := g.len2; omega
 have hll : (upL m).length ≤ 1000 := by rw [upL_length, hm.len]; have := g.len2; omega
 have R72 := Lib.hid (fun W (hW : Ext w W) => isSheet_any (ofSh s) ot cap W (h.ext hW) hl)
 rw [sheet_of g] at R72
 have R73 := Lib.hid (fun W (hW : Ext w W) => isMix_any (ofSh s) ot cap (upL m) ol cl W (hi.ext hW) hll)
 rw [mix_of hm, upL_length] at R73
 have R87 := Lib.hid (fun k (hk : k < 3) W (hW : Ext w W) => has_any s g m hm ot cap ol cl k hk W (h.ext hW) (hi.ext hW))
 clear h hi hl hll g hm
 go_enter Tryz.func34, Tryz.ntmps34
 go_wp2_with (first | (go_at_call 72; refine (R72.out _ (((Ext.refl w).alloc _).alloc _)).mono ?_; rintro e w1 ⟨rfl, hE1⟩; have HE1 := Lib.hid ((((Ext.refl w).alloc _).alloc _).trans hE1); have z0 := cell_ext (p := ⟨w.heap.size + 1, 0, none⟩) (v := .int .i64 0) hE1 (by go_simp); have z1 := cell_ext (p := ⟨w.heap.size + 1, 1, none⟩) (v := .int .i64 0) hE1 (by go_simp); have z2 := cell_ext (p := ⟨w.heap.size + 1, 2, none⟩) (v := .int .i64 0) hE1 (by go_simp); have z3 := cell_ext (p := ⟨w.heap.size + 1, 3, none⟩) (v := .int .i64 0) hE1 (by go_simp); have z4 := cell_ext (p := ⟨w.heap.size + 1, 4, none⟩) (v := .int .i64 0) hE1 (by go_simp); have z5 := cell_ext (p := ⟨w.heap.size + 1, 5, none⟩) (v := .int .i64 0) hE1 (by go_simp); have hf : ∀ j, w1.frozen? ⟨w.heap.size + 1, j, none⟩ = false := (fun j => (hE1.frozen (by simp)).trans (by go_simp)); have f0 := hf 0; have f1 := hf 1; have f2 := hf 2; have f3 := hf 3; have f4 := hf 4; have f5 := hf 5; have c0 := cell_ext (p := ⟨w.heap.size, 0, none⟩) (v := .int .i64 (ofSh s).o0) hE1 (by go_simp); have c1 := cell_ext (p := ⟨w.heap.size, 1, none⟩) (v := .int .i64 (ofSh s).o1) hE1 (by go_simp); have c2 := cell_ext (p := ⟨w.heap.size, 2, none⟩) (v := .int .i64 (ofSh s).o2) hE1 (by go_simp); have c3 := cell_ext (p := ⟨w.heap.size, 3, none⟩) (v := .int .i64 (ofSh s).a0) hE1 (by go_simp); have c4 := cell_ext (p := ⟨w.heap.size, 4, none⟩) (v := .int .i64 (ofSh s).b0) hE1 (by go_simp); have c5 := cell_ext (p := ⟨w.heap.size, 5, none⟩) (v := .int .i64 (ofSh s).a1) hE1 (by go_simp); have c6 := cell_ext (p := ⟨w.heap.size, 6, none⟩) (v := .int .i64 (ofSh s).b1) hE1 (by go_simp); have c7 := cell_ext (p := ⟨w.heap.size, 7, none⟩) (v := .int .i64 (ofSh s).a2) hE1 (by go_simp); have c8 := cell_ext (p := ⟨w.heap.size, 8, none⟩) (v := .int .i64 (ofSh s).b2) hE1 (by go_simp); have c9 := cell_ext (p := ⟨w.heap.size, 9, none⟩) (v := .int .i64 (ofSh s).ylo) hE1 (by go_simp); have c10 := cell_ext (p := ⟨w.heap.size, 10, none⟩) (v := .int .i64 (ofSh s).yhi) hE1 (by go_simp); have c11 := cell_ext (p := ⟨w.heap.size, 11, none⟩) (v := .int .i64 (ofSh s).off) hE1 (by go_simp); have c12 := cell_ext (p := ⟨w.heap.size, 12, none⟩) (v := .slice ot (ofSh s).tins.length cap) hE1 (by go_simp); clear hf hE1) | (go_at_call 73; refine (R73.out _ HE1.out).mono ?_; rintro e w2 ⟨rfl, hE2⟩; have y0 := z0; replace z0 := cell_ext hE2 z0; replace f0 := (hE2.frozen (World.block_lt_of_cell? _ _ y0)).trans f0; have y1 := z1; replace z1 := cell_ext hE2 z1; replace f1 := (hE2.frozen (World.block_lt_of_cell? _ _ y1)).trans f1; have y2 := z2; replace z2 := cell_ext hE2 z2; replace f2 := (hE2.frozen (World.block_lt_of_cell? _ _ y2)).trans f2; have y3 := z3; replace z3 := cell_ext hE2 z3; replace f3 := (hE2.frozen (World.block_lt_of_cell? _ _ y3)).trans f3; have y4 := z4; replace z4 := cell_ext hE2 z4; replace f4 := (hE2.frozen (World.block_lt_of_cell? _ _ y4)).trans f4; have y5 := z5; replace z5 := cell_ext hE2 z5; replace f5 := (hE2.frozen (World.block_lt_of_cell? _ _ y5)).trans f5; clear y0 y1 y2 y3 y4 y5; replace c0 := cell_ext hE2 c0; replace c1 := cell_ext hE2 c1; replace c2 := cell_ext hE2 c2; replace c3 := cell_ext hE2 c3; replace c4 := cell_ext hE2 c4; replace c5 := cell_ext hE2 c5; replace c6 := cell_ext hE2 c6; replace c7 := cell_ext hE2 c7; replace c8 := cell_ext hE2 c8; replace c9 := cell_ext hE2 c9; replace c10 := cell_ext hE2 c10; replace c11 := cell_ext hE2 c11; replace c12 := cell_ext hE2 c12; replace HE1 := Lib.hid (HE1.out.trans hE2); clear hE2))
 obtain ⟨wl, hwl⟩ : ∃ wl, wl = w2.alloc (.cells #[.int .i64 0, .int .i64 0, .int .i64 0, .int .i64 0, .int .i64 0, .int .i64 0] 25) := ⟨_, rfl⟩
 have hEl : Ext w wl := by rw [hwl]; exact HE1.out.alloc _
 have hE2l : Ext w2 wl := by rw [hwl]; exact (Ext.refl w2).alloc _
 have C0 := Lib.hid (show ∀ (i : Nat) (v : Value), (sheetC (ofSh s) ot cap)[i]? = some v → wl.cell? ⟨w.heap.size, i, none⟩ = some v from fun i v hv => by
  refine cell_ext hE2l ?_
  have hi13 : i < 13 := by have := (Array.getElem?_eq_some_iff.1 hv).1; simpa using this
  match i, hi13 with
  | 0, _ => cases hv; exact c0
  | 1, _ => cases hv; exact c1
  | 2, _ => cases hv; exact c2
  | 3, _ => cases hv; exact c3
  | 4, _ => cases hv; exact c4
  | 5, _ => cases hv; exact c5
  | 6, _ => cases hv; exact c6
  | 7, _ => cases hv; exact c7
  | 8, _ => cases hv; exact c8
  | 9, _ => cases hv; exact c9
  | 10, _ => cases hv; exact c10
  | 11, _ => cases hv; exact c11
  | 12, _ => cases hv; exact c12)
 have hob : OBx w2.heap.size wl wl (sumF s m 0) := by
  refine ⟨Turned.refl _ _, fun j x hj => ?_, fun j hj => ?_⟩
  ·have hj6 : j < 6 := by have := (List.getElem?_eq_some_iff.1 hj).1; rw [fill_len] at this; exact this
   rw [fill_get _ _ 0 hj6] at hj
   rw [hwl]
   match j, hj6 with
   | 0, _ => cases hj; go_simp
   | 1, _ => cases hj; go_simp
   | 2, _ => cases hj; go_simp
   | 3, _ => cases hj; go_simp
   | 4, _ => cases hj; go_simp
   | 5, _ => cases hj; go_simp
  ·rw [hwl]; go_simp
 have Hob := Lib.hid hob
 have Hr0 := Lib.hid (show ∀ j, j < 6 → wl.cell? ⟨w.heap.size + 1, j, none⟩ = some (.int .i64 0) from fun j hj => by
  refine cell_ext hE2l ?_
  match j, hj with
  | 0, _ => exact z0
  | 1, _ => exact z1
  | 2, _ => exact z2
  | 3, _ => exact z3
  | 4, _ => exact z4
  | 5, _ => exact z5)
 have hzl := World.block_lt_of_cell? _ _ z0
 simp only at hzl
 have Hq0 := Lib.hid (show ∀ j, j < 6 → wl.frozen? ⟨w.heap.size + 1, j, none⟩ = false from fun j hj => by
  refine (hE2l.frozen (by exact hzl)).trans ?_
  match j, hj with
  | 0, _ => exact f0
  | 1, _ => exact f1
  | 2, _ => exact f2
  | 3, _ => exact f3
  | 4, _ => exact f4
  | 5, _ => exact f5)
 have HEl := Lib.hid hEl
 have hszl : w2.heap.size < wl.heap.size := by rw [hwl]; simp
 rw [← hwl]
 clear hwl hob hEl hE2l z0 f0 z1 f1 z2 f2 z3 f3 z4 f4 z5 f5 c0 c1 c2 c3 c4 c5 c6 c7 c8 c9 c10 c11 c12
 go_loopg [7, 18] 3 (fun g pp i wr => ∃ k : Nat, k + g = 3 ∧ i = .int .i64 k ∧ OBx w2.heap.size wl wr (sumF s m k))
 case atStart => exact ⟨0, by simp, rfl, Hob.out⟩
 case round =>
  obtain ⟨k, hk, rfl, hob⟩ := hrel
  have Ob := Lib.hid hob
  have HEw := Lib.hid (ext_own HEl.out hob.turned (by omega))
  clear hob Hob
  by_cases hlt : k < 3
  ·have hkI : (k : Int) < 3 := by omega
   have c0 : wr.cell? ⟨w.heap.size, 0, none⟩ = some (.int .i64 (ofSh s).o0) := Turned.cell Ob.out.turned (by simp <;> omega) (C0.out 0 _ rfl)
   have c1 : wr.cell? ⟨w.heap.size, 1, none⟩ = some (.int .i64 (ofSh s).o1) := Turned.cell Ob.out.turned (by simp <;> omega) (C0.out 1 _ rfl)
   have c2 : wr.cell? ⟨w.heap.size, 2, none⟩ = some (.int .i64 (ofSh s).o2) := Turned.cell Ob.out.turned (by simp <;> omega) (C0.out 2 _ rfl)
   have c3 : wr.cell? ⟨w.heap.size, 3, none⟩ = some (.int .i64 (ofSh s).a0) := Turned.cell Ob.out.turned (by simp <;> omega) (C0.out 3 _ rfl)
   have c4 : wr.cell? ⟨w.heap.size, 4, none⟩ = some (.int .i64 (ofSh s).b0) := Turned.cell Ob.out.turned (by simp <;> omega) (C0.out 4 _ rfl)
   have c5 : wr.cell? ⟨w.heap.size, 5, none⟩ = some (.int .i64 (ofSh s).a1) := Turned.cell Ob.out.turned (by simp <;> omega) (C0.out 5 _ rfl)
   have c6 : wr.cell? ⟨w.heap.size, 6, none⟩ = some (.int .i64 (ofSh s).b1) := Turned.cell Ob.out.turned (by simp <;> omega) (C0.out 6 _ rfl)
   have c7 : wr.cell? ⟨w.heap.size, 7, none⟩ = some (.int .i64 (ofSh s).a2) := Turned.cell Ob.out.turned (by simp <;> omega) (C0.out 7 _ rfl)
   have c8 : wr.cell? ⟨w.heap.size, 8, none⟩ = some (.int .i64 (ofSh s).b2) := Turned.cell Ob.out.turned (by simp <;> omega) (C0.out 8 _ rfl)
   have c9 : wr.cell? ⟨w.heap.size, 9, none⟩ = some (.int .i64 (ofSh s).ylo) := Turned.cell Ob.out.turned (by simp <;> omega) (C0.out 9 _ rfl)
   have c10 : wr.cell? ⟨w.heap.size, 10, none⟩ = some (.int .i64 (ofSh s).yhi) := Turned.cell Ob.out.turned (by simp <;> omega) (C0.out 10 _ rfl)
   have c11 : wr.cell? ⟨w.heap.size, 11, none⟩ = some (.int .i64 (ofSh s).off) := Turned.cell Ob.out.turned (by simp <;> omega) (C0.out 11 _ rfl)
   have c12 : wr.cell? ⟨w.heap.size, 12, none⟩ = some (.slice ot (ofSh s).tins.length cap) := Turned.cell Ob.out.turned (by simp <;> omega) (C0.out 12 _ rfl)
   match k, hlt with
   | 0, _ =>
    obtain ⟨xa, ha⟩ : ∃ x, wr.cell? ⟨w2.heap.size, 0, none⟩ = some (.int .i64 x) := ⟨_, Ob.out.c 0 _ (fill_get _ _ 0 (by omega))⟩
    obtain ⟨xb, hb⟩ : ∃ x, wr.cell? ⟨w2.heap.size, 1, none⟩ = some (.int .i64 x) := ⟨_, Ob.out.c 1 _ (fill_get _ _ 0 (by omega))⟩
    have fa := Ob.out.f 0 (by omega)
    have fb := Ob.out.f 1 (by omega)
    have R := Lib.hid (R87.out 0 (by omega) wr HEw.out)
    go_wp2_with (first | (go_at_call 87; refine R.out.mono ?_; rintro e w3 ⟨rfl, hE3⟩; have ha2 := cell_ext hE3 ha; have hb2 := cell_ext hE3 hb; have fa2 := (hE3.frozen (World.block_lt_of_cell? _ _ ha)).trans fa; have fb2 := (hE3.frozen (World.block_lt_of_cell? _ _ hb)).trans fb; have HE3 := Lib.hid hE3; clear ha hb fa fb hE3 c0 c1 c2 c3 c4 c5 c6 c7 c8 c9 c10 c11 c12))
    go_roundg (gk - 1)
    case measure => omega
    case rel => exact ⟨1, by omega, by go_num, (Ob.out.next HE3.out ⟨_, fill_get _ _ 0 (by omega)⟩).set 0 (lowS s m 0 : Nat) (highS s m 0 : Nat) (by omega) (fill_len _ _ _) (fill_len _ _ _) (fill_step _ _ (k := 0) (by omega)).1 (fill_step _ _ (k := 0) (by omega)).2.1 (fill_step _ _ (k := 0) (by omega)).2.2⟩
   | 1, _ =>
    obtain ⟨xa, ha⟩ : ∃ x, wr.cell? ⟨w2.heap.size, 2, none⟩ = some (.int .i64 x) := ⟨_, Ob.out.c 2 _ (fill_get _ _ 1 (by omega))⟩
    obtain ⟨xb, hb⟩ : ∃ x, wr.cell? ⟨w2.heap.size, 3, none⟩ = some (.int .i64 x) := ⟨_, Ob.out.c 3 _ (fill_get _ _ 1 (by omega))⟩
    have fa := Ob.out.f 2 (by omega)
    have fb := Ob.out.f 3 (by omega)
    have R := Lib.hid (R87.out 1 (by omega) wr HEw.out)
    go_wp2_with (first | (go_at_call 87; refine R.out.mono ?_; rintro e w3 ⟨rfl, hE3⟩; have ha2 := cell_ext hE3 ha; have hb2 := cell_ext hE3 hb; have fa2 := (hE3.frozen (World.block_lt_of_cell? _ _ ha)).trans fa; have fb2 := (hE3.frozen (World.block_lt_of_cell? _ _ hb)).trans fb; have HE3 := Lib.hid hE3; clear ha hb fa fb hE3 c0 c1 c2 c3 c4 c5 c6 c7 c8 c9 c10 c11 c12))
    go_roundg (gk - 1)
    case measure => omega
    case rel => exact ⟨2, by omega, by go_num, (Ob.out.next HE3.out ⟨_, fill_get _ _ 1 (by omega)⟩).set 2 (lowS s m 1 : Nat) (highS s m 1 : Nat) (by omega) (fill_len _ _ _) (fill_len _ _ _) (fill_step _ _ (k := 1) (by omega)).1 (fill_step _ _ (k := 1) (by omega)).2.1 (fill_step _ _ (k := 1) (by omega)).2.2⟩
   | 2, _ =>
    obtain ⟨xa, ha⟩ : ∃ x, wr.cell? ⟨w2.heap.size, 4, none⟩ = some (.int .i64 x) := ⟨_, Ob.out.c 4 _ (fill_get _ _ 2 (by omega))⟩
    obtain ⟨xb, hb⟩ : ∃ x, wr.cell? ⟨w2.heap.size, 5, none⟩ = some (.int .i64 x) := ⟨_, Ob.out.c 5 _ (fill_get _ _ 2 (by omega))⟩
    have fa := Ob.out.f 4 (by omega)
    have fb := Ob.out.f 5 (by omega)
    have R := Lib.hid (R87.out 2 (by omega) wr HEw.out)
    go_wp2_with (first | (go_at_call 87; refine R.out.mono ?_; rintro e w3 ⟨rfl, hE3⟩; have ha2 := cell_ext hE3 ha; have hb2 := cell_ext hE3 hb; have fa2 := (hE3.frozen (World.block_lt_of_cell? _ _ ha)).trans fa; have fb2 := (hE3.frozen (World.block_lt_of_cell? _ _ hb)).trans fb; have HE3 := Lib.hid hE3; clear ha hb fa fb hE3 c0 c1 c2 c3 c4 c5 c6 c7 c8 c9 c10 c11 c12))
    go_roundg (gk - 1)
    case measure => omega
    case rel => exact ⟨3, by omega, by go_num, (Ob.out.next HE3.out ⟨_, fill_get _ _ 2 (by omega)⟩).set 4 (lowS s m 2 : Nat) (highS s m 2 : Nat) (by omega) (fill_len _ _ _) (fill_len _ _ _) (fill_step _ _ (k := 2) (by omega)).1 (fill_step _ _ (k := 2) (by omega)).2.1 (fill_step _ _ (k := 2) (by omega)).2.2⟩
  ·obtain rfl : k = 3 := by omega
   have b0 : wr.cell? ⟨w2.heap.size, 0, none⟩ = some (.int .i64 (lowS s m 0 : Nat)) := Ob.out.c 0 _ (by rw [fill_get _ _ 3 (by omega)]; rfl)
   have b1 : wr.cell? ⟨w2.heap.size, 1, none⟩ = some (.int .i64 (highS s m 0 : Nat)) := Ob.out.c 1 _ (by rw [fill_get _ _ 3 (by omega)]; rfl)
   have b2 : wr.cell? ⟨w2.heap.size, 2, none⟩ = some (.int .i64 (lowS s m 1 : Nat)) := Ob.out.c 2 _ (by rw [fill_get _ _ 3 (by omega)]; rfl)
   have b3 : wr.cell? ⟨w2.heap.size, 3, none⟩ = some (.int .i64 (highS s m 1 : Nat)) := Ob.out.c 3 _ (by rw [fill_get _ _ 3 (by omega)]; rfl)
   have b4 : wr.cell? ⟨w2.heap.size, 4, none⟩ = some (.int .i64 (lowS s m 2 : Nat)) := Ob.out.c 4 _ (by rw [fill_get _ _ 3 (by omega)]; rfl)
   have b5 : wr.cell? ⟨w2.heap.size, 5, none⟩ = some (.int .i64 (highS s m 2 : Nat)) := Ob.out.c 5 _ (by rw [fill_get _ _ 3 (by omega)]; rfl)
   have z0 : wr.cell? ⟨w.heap.size + 1, 0, none⟩ = some (.int .i64 0) := Turned.cell Ob.out.turned (by simp <;> omega) (Hr0.out 0 (by omega))
   have y0 : wr.frozen? ⟨w.heap.size + 1, 0, none⟩ = false := (Turned.frozen Ob.out.turned (by simp <;> omega) (by simp; omega)).trans (Hq0.out 0 (by omega))
   have z1 : wr.cell? ⟨w.heap.size + 1, 1, none⟩ = some (.int .i64 0) := Turned.cell Ob.out.turned (by simp <;> omega) (Hr0.out 1 (by omega))
   have y1 : wr.frozen? ⟨w.heap.size + 1, 1, none⟩ = false := (Turned.frozen Ob.out.turned (by simp <;> omega) (by simp; omega)).trans (Hq0.out 1 (by omega))
   have z2 : wr.cell? ⟨w.heap.size + 1, 2, none⟩ = some (.int .i64 0) := Turned.cell Ob.out.turned (by simp <;> omega) (Hr0.out 2 (by omega))
   have y2 : wr.frozen? ⟨w.heap.size + 1, 2, none⟩ = false := (Turned.frozen Ob.out.turned (by simp <;> omega) (by simp; omega)).trans (Hq0.out 2 (by omega))
   have z3 : wr.cell? ⟨w.heap.size + 1, 3, none⟩ = some (.int .i64 0) := Turned.cell Ob.out.turned (by simp <;> omega) (Hr0.out 3 (by omega))
   have y3 : wr.frozen? ⟨w.heap.size + 1, 3, none⟩ = false := (Turned.frozen Ob.out.turned (by simp <;> omega) (by simp; omega)).trans (Hq0.out 3 (by omega))
   have z4 : wr.cell? ⟨w.heap.size + 1, 4, none⟩ = some (.int .i64 0) := Turned.cell Ob.out.turned (by simp <;> omega) (Hr0.out 4 (by omega))
   have y4 : wr.frozen? ⟨w.heap.size + 1, 4, none⟩ = false := (Turned.frozen Ob.out.turned (by simp <;> omega) (by simp; omega)).trans (Hq0.out 4 (by omega))
   have z5 : wr.cell? ⟨w.heap.size + 1, 5, none⟩ = some (.int .i64 0) := Turned.cell Ob.out.turned (by simp <;> omega) (Hr0.out 5 (by omega))
   have y5 : wr.frozen? ⟨w.heap.size + 1, 5, none⟩ = false := (Turned.frozen Ob.out.turned (by simp <;> omega) (by simp; omega)).trans (Hq0.out 5 (by omega))
   clear Ob
   go_wp2
   refine bodyPost_ret (v := .tuple #[sumsV s m, .int .i64 0]) (results_cellst (n := 6) rfl (by kernel_rfl) (by kernel_rfl) _ (w.heap.size + 1) [.int .i64 (lowS s m 0 : Nat), .int .i64 (highS s m 0 : Nat), .int .i64 (lowS s m 1 : Nat), .int .i64 (highS s m 1 : Nat), .int .i64 (lowS s m 2 : Nat), .int .i64 (highS s m 2 : Nat)] _ rfl (by simp) (by simp) (fun j v hv => ?_)) (by simp) ⟨rfl, ?_⟩
   ·match j, hv with
    | 0, hv => cases hv; go_simp
    | 1, hv => cases hv; go_simp
    | 2, hv => cases hv; go_simp
    | 3, hv => cases hv; go_simp
    | 4, hv => cases hv; go_simp
    | 5, hv => cases hv; go_simp
   ·exact ext_set (ext_set (ext_set (ext_set (ext_set (ext_set HEw.out (by omega)) (by omega)) (by omega)) (by omega)) (by omega)) (by omega)

end Go.Proofs.YtjpekonfjihcoaaGreatDoor
