/- Contracts and mathematics, joined: Along, Parts. Conditions stand with each. -/
import Derived.ArgAppend
import Derived.Below
import Derived.BigQuiet
import Derived.Deep.DeepCutAuto
import Derived.Deep.DeepFit
import Derived.Deep.LoopGhost
import Derived.Deep.QuietTactic
import Derived.Deep.RegionHeld
import Derived.Deep.RegionHeld3
import Derived.Deep.RegionWith
import Derived.Defers
import Derived.Laws.EntriesVeiled
import Derived.Laws.OwnMore
import Derived.Lib.Hide
import Derived.Lib.IndexBytes
import Derived.Lib.ItoaNum
import Derived.Lib.SplitLaws
import Derived.LoopIn
import Derived.LoopNIn
import Derived.Maps.AppendAt
import Derived.Maps.Keyed
import Derived.Maps.OwnIn
import Derived.OrdersHeld
import Derived.OwnWalkIn
import Derived.RangeFuncBound
import Derived.RangeFuncCalls
import Derived.RangeFuncLeaves
import Derived.RangeFuncNested
import Derived.Recover
import Derived.RegionIn
import Derived.Shelf.Abstract
import Derived.TacticsIn
import Derived.TacticsInMore
import Derived.Test.YtjpekonfjihcoaaGreatDoorProg
import Derived.WalkKit
import Derived.WalkLawsBesides
import Derived.WalkSpells
import Derived.Test.YtjpekonfjihcoaaGreatDoorM2
import Derived.Test.YtjpekonfjihcoaaGreatDoorM3
import Derived.Test.YtjpekonfjihcoaaGreatDoorM1
import Derived.Test.YtjpekonfjihcoaaGreatDoorM4
namespace Go.TintM
end Go.TintM
set_option maxRecDepth 100000
set_option maxHeartbeats 64000000
set_option linter.unusedVariables false
set_option linter.unusedSimpArgs false
/- Contracts: along, opposite; the reference's along. No condition beyond small numbers. -/
namespace Go.Proofs.YtjpekonfjihcoaaGreatDoor
open Go.RowKit Go.My Go.TintM

def triTo (f : Nat → Int) : Nat → Int
 | 0 => 0
 | k + 1 => triTo f k + f k
theorem triTo_3 (f : Nat → Int) : triTo f 3 = tri f := by simp [triTo, tri]
theorem triTo_small {f : Nat → Int} {c : Int} (h : ∀ p, p < 3 → -c ≤ f p ∧ f p ≤ c) : ∀ k, k ≤ 3 → -(3 * c) ≤ triTo f k ∧ triTo f k ≤ 3 * c := by
 have h0 := h 0 (by omega)
 have h1 := h 1 (by omega)
 have h2 := h 2 (by omega)
 intro k hk
 have : k = 0 ∨ k = 1 ∨ k = 2 ∨ k = 3 := by omega
 rcases this with rfl | rfl | rfl | rfl <;> simp [triTo] <;> omega
abbrev dirV (d : Nat → Int) : Value := .agg #[.int .i64 (d 0), .int .i64 (d 1), .int .i64 (d 2)]
abbrev ampV (lo hi : Nat → Nat) : Value := .agg #[.int .i64 (lo 0 : Nat), .int .i64 (hi 0 : Nat), .int .i64 (lo 1 : Nat), .int .i64 (hi 1 : Nat), .int .i64 (lo 2 : Nat), .int .i64 (hi 2 : Nat)]
/-- A box with a direction. -/
structure DirBox (W : World) (b : Nat) (d : Nat → Int) : Prop where
 c : ∀ p, p < 3 → W.cell? ⟨b, p, none⟩ = some (.int .i64 (d p))
theorem DirBox.new (w : World) (d : Nat → Int) : DirBox (w.alloc (.cells #[.int .i64 (d 0), .int .i64 (d 1), .int .i64 (d 2)] 22)) w.heap.size d := ⟨fun p hp => by
 match p, hp with
 | 0, _ => go_simp
 | 1, _ => go_simp
 | 2, _ => go_simp⟩
theorem DirBox.ext {W W' : World} {b : Nat} {d : Nat → Int} (h : DirBox W b d) (hE : Ext W W') : DirBox W' b d := ⟨fun p hp => cell_ext hE (h.c p hp)⟩
/-- A box with three spans. -/
structure AmpBox (W : World) (b : Nat) (lo hi : Nat → Nat) : Prop where
 c0 : ∀ p, p < 3 → W.cell? ⟨b, p * 2, none⟩ = some (.int .i64 (lo p : Nat))
 c1 : ∀ p, p < 3 → W.cell? ⟨b, p * 2 + 1, none⟩ = some (.int .i64 (hi p : Nat))
abbrev ampC (lo hi : Nat → Nat) : Array Value := #[.int .i64 (lo 0 : Nat), .int .i64 (hi 0 : Nat), .int .i64 (lo 1 : Nat), .int .i64 (hi 1 : Nat), .int .i64 (lo 2 : Nat), .int .i64 (hi 2 : Nat)]
theorem AmpBox.new (w : World) (lo hi : Nat → Nat) : AmpBox (w.alloc (.cells (ampC lo hi) 25)) w.heap.size lo hi := ⟨fun p hp => by
 match p, hp with
 | 0, _ => go_simp
 | 1, _ => go_simp
 | 2, _ => go_simp, fun p hp => by
 match p, hp with
 | 0, _ => go_simp
 | 1, _ => go_simp
 | 2, _ => go_simp⟩
theorem AmpBox.ext {W W' : World} {b : Nat} {lo hi : Nat → Nat} (h : AmpBox W b lo hi) (hE : Ext W W') : AmpBox W' b lo hi := ⟨fun p hp => cell_ext hE (h.c0 p hp), fun p hp => cell_ext hE (h.c1 p hp)⟩

theorem mul_in {d : Int} {a : Nat} (hd : -2 ≤ d ∧ d ≤ 2) (ha : a ≤ 99) : -198 ≤ d * a ∧ d * a ≤ 198 := by
 have : d = -2 ∨ d = -1 ∨ d = 0 ∨ d = 1 ∨ d = 2 := by omega
 rcases this with rfl | rfl | rfl | rfl | rfl <;> omega

theorem index25_0 (a b c d e f : Int) (w : World) : (Instr.index 25 (.agg #[.int .i64 a, .int .i64 b, .int .i64 c, .int .i64 d, .int .i64 e, .int .i64 f]) (.int .i64 0)).run Tryz.prog w = .ok (spanV a b) w := by kernel_rfl
theorem index25_1 (a b c d e f : Int) (w : World) : (Instr.index 25 (.agg #[.int .i64 a, .int .i64 b, .int .i64 c, .int .i64 d, .int .i64 e, .int .i64 f]) (.int .i64 1)).run Tryz.prog w = .ok (spanV c d) w := by kernel_rfl
theorem index25_2 (a b c d e f : Int) (w : World) : (Instr.index 25 (.agg #[.int .i64 a, .int .i64 b, .int .i64 c, .int .i64 d, .int .i64 e, .int .i64 f]) (.int .i64 2)).run Tryz.prog w = .ok (spanV e f) w := by kernel_rfl
theorem index22_0 (a b c : Int) (w : World) : (Instr.index 22 (.agg #[.int .i64 a, .int .i64 b, .int .i64 c]) (.int .i64 0)).run Tryz.prog w = .ok (.int .i64 a) w := by kernel_rfl
theorem index22_1 (a b c : Int) (w : World) : (Instr.index 22 (.agg #[.int .i64 a, .int .i64 b, .int .i64 c]) (.int .i64 1)).run Tryz.prog w = .ok (.int .i64 b) w := by kernel_rfl
theorem index22_2 (a b c : Int) (w : World) : (Instr.index 22 (.agg #[.int .i64 a, .int .i64 b, .int .i64 c]) (.int .i64 2)).run Tryz.prog w = .ok (.int .i64 c) w := by kernel_rfl
theorem index25 (lo hi : Nat → Nat) {k : Nat} (hk : k < 3) (w : World) : (Instr.index 25 (ampV lo hi) (.int .i64 (k : Nat))).run Tryz.prog w = .ok (spanV (lo k : Nat) (hi k : Nat)) w := by
 match k, hk with
 | 0, _ => exact index25_0 _ _ _ _ _ _ w
 | 1, _ => exact index25_1 _ _ _ _ _ _ w
 | 2, _ => exact index25_2 _ _ _ _ _ _ w
theorem index22 (d : Nat → Int) {k : Nat} (hk : k < 3) (w : World) : (Instr.index 22 (dirV d) (.int .i64 (k : Nat))).run Tryz.prog w = .ok (.int .i64 (d k)) w := by
 match k, hk with
 | 0, _ => exact index22_0 _ _ _ w
 | 1, _ => exact index22_1 _ _ _ w
 | 2, _ => exact index22_2 _ _ _ w

theorem along_any (d : Nat → Int) (lo hi : Nat → Nat) (hd : ∀ p, p < 3 → -2 ≤ d p ∧ d p ≤ 2) (hl : ∀ p, p < 3 → lo p ≤ 99 ∧ hi p ≤ 99) (w : World) :
  Calls Tryz.prog 129 #[dirV d, ampV lo hi] w fun e w' => e = .returned (.int .i64 (lessD d lo hi)) ∧ Ext w w' := by
 have Hd := Lib.hid hd
 have Hl := Lib.hid hl
 have hf : ∀ p, p < 3 → -198 ≤ min (d p * lo p) (d p * hi p) ∧ min (d p * lo p) (d p * hi p) ≤ 198 := fun p hp => by
  have h1 := mul_in (hd p hp) (hl p hp).1
  have h2 := mul_in (hd p hp) (hl p hp).2
  omega
 have Hs := Lib.hid (triTo_small hf)
 have He := Lib.hid (triTo_3 fun p => min (d p * lo p) (d p * hi p))
 have Hu := Lib.hid (fun k => (show triTo (fun p => min (d p * lo p) (d p * hi p)) (k + 1) = triTo (fun p => min (d p * lo p) (d p * hi p)) k + min (d k * lo k) (d k * hi k) from rfl))
 have Hq := Lib.hid (show lessD d lo hi = tri (fun p => min (d p * lo p) (d p * hi p)) from rfl)
 have h0 : triTo (fun p => min (d p * lo p) (d p * hi p)) 0 = 0 := rfl
 clear hd hl hf
 go_enter Tryz.func129, Tryz.ntmps129
 go_wp2
 obtain ⟨w0, hw0⟩ : ∃ W, W = (w.alloc (.cells #[.int .i64 (d 0), .int .i64 (d 1), .int .i64 (d 2)] 22)).alloc (.cells (ampC lo hi) 25) := ⟨_, rfl⟩
 have HE0 := Lib.hid (show Ext w w0 by rw [hw0]; exact ((Ext.refl w).alloc _).alloc _)
 have HD := Lib.hid (show DirBox w0 w.heap.size d by rw [hw0]; exact (DirBox.new w d).ext ((Ext.refl _).alloc _))
 rw [← hw0]
 clear hw0
 go_loopg [5, 6, 9] 3 (fun g v a i wr => ∃ k : Nat, k + g = 3 ∧ i = .int .i64 k ∧ Ext w0 wr ∧ v = .int .i64 (triTo (fun p => min (d p * lo p) (d p * hi p)) k))
 case atStart => exact ⟨0, by omega, rfl, Ext.refl _, by rw [h0]⟩
 case round =>
  obtain ⟨k, hk, rfl, hE, rfl⟩ := hrel
  have HE := Lib.hid hE
  clear hE h0
  by_cases hk3 : k < 3
  ·have hkI : (k : Int) < 3 := by omega
   have e1 := HD.out.ext HE.out |>.c k hk3
   have hdk := Hd.out k hk3
   have hlk := Hl.out k hk3
   have hsm := Hs.out k (by omega)
   have Huk := Lib.hid (Hu.out k)
   generalize hV : triTo (fun p => min (d p * lo p) (d p * hi p)) k = V at *
   clear hV
   have hix := index25 lo hi hk3
   generalize lo k = A at *
   generalize hi k = B at *
   generalize d k = D at *
   have m1 := mul_in hdk hlk.1
   have m2 := mul_in hdk hlk.2
   obtain ⟨X, hX⟩ : ∃ X, D * (A : Int) = X := ⟨_, rfl⟩
   obtain ⟨Y, hY⟩ : ∃ Y, D * (B : Int) = Y := ⟨_, rfl⟩
   rw [hX] at m1
   rw [hY] at m2
   rw [hX, hY] at Huk
   have q1 : IntKind.i64.wrap X = X := by rw [IntWalk.i64_in _ (by omega)]
   have q2 : IntKind.i64.wrap Y = Y := by rw [IntWalk.i64_in _ (by omega)]
   have q3 : IntKind.i64.wrap (V + X) = V + X := by rw [IntWalk.i64_in _ (by omega)]
   have q4 : IntKind.i64.wrap (V + Y) = V + Y := by rw [IntWalk.i64_in _ (by omega)]
   clear m1 m2 hdk hlk hsm
   go_wp2
   obtain ⟨w5, hw5⟩ : ∃ W, W = wr.alloc (.cells #[.int .i64 A, .int .i64 B] 24) := ⟨_, rfl⟩
   have hE5 : Ext wr w5 := by rw [hw5]; exact (Ext.refl wr).alloc _
   have e2 : w5.cell? ⟨wr.heap.size, 0, none⟩ = some (.int .i64 A) := by rw [hw5]; go_simp
   have e3 : w5.cell? ⟨wr.heap.size, 1, none⟩ = some (.int .i64 B) := by rw [hw5]; go_simp
   have e4 := cell_ext hE5 e1
   rw [← hw5]
   have HE5 := Lib.hid (HE.out.trans hE5)
   clear hw5 hE5 e1 hix
   refine wp_region_plan (.take 0 <| .take 1 <| .take 2 <| .take 3 <| .take 4 <| .take 5 <| .take 6 <| .take 7 <| .take 8 <| .take 9 <| .take 10 <| .take 11 <| .take 12 <| .take 13 <| .take 14 <| .take 15 <| .done) (fun W => Ext w5 W) mixed (by kernel_rfl) (by kernel_rfl) rfl (fun _ _ d _ _ h => by cases d <;> exact h) ((Ext.refl w5).drew) ?_
   repeat ((first | (refine plan_take (v := ?_) rfl rfl (fun W hW => ?_) ?_; rotate_left; (focus (have d0 := cell_ext hW e2; have d1 := cell_ext hW e3; have d2 := cell_ext hW e4; go_simp; first | exact rfl | (split <;> first | exact rfl | (exfalso; omega)) | done))) | refine plan_skip rfl rfl ?_); simp only [puts])
   refine plan_done ?_
   clear e2 e3 e4
   go_wp2
   all_goals
    go_roundg (gk - 1)
    case measure => omega
    case rel => exact ⟨k + 1, by omega, by go_num, HE5.out.drew, by rw [Huk.out]; congr 1; omega⟩
  ·obtain rfl : k = 3 := by omega
   have hV := He.out.trans Hq.out.symm
   rw [hV]
   have HV := Lib.hid hV
   clear hV
   go_wp2
   go_ret
   exact ⟨rfl, HE0.out.trans HE.out⟩

/-- The other way. -/
def negD (d : Nat → Int) (p : Nat) : Int := -d p
def negTo (d : Nat → Int) (k p : Nat) : Int := if p < k then -d p else 0
/-- A box with a direction that is one's own to write. -/
structure OwnDir (W : World) (b : Nat) (d : Nat → Int) : Prop where
 c0 : W.cell? ⟨b, 0, none⟩ = some (.int .i64 (d 0))
 c1 : W.cell? ⟨b, 1, none⟩ = some (.int .i64 (d 1))
 c2 : W.cell? ⟨b, 2, none⟩ = some (.int .i64 (d 2))
 f0 : W.frozen? ⟨b, 0, none⟩ = false
 f1 : W.frozen? ⟨b, 1, none⟩ = false
 f2 : W.frozen? ⟨b, 2, none⟩ = false
theorem OwnDir.new (W : World) (x y z : Int) (d : Nat → Int) (h0 : d 0 = x) (h1 : d 1 = y) (h2 : d 2 = z) : OwnDir (W.alloc (.cells #[.int .i64 x, .int .i64 y, .int .i64 z] 22)) W.heap.size d := by
 subst h0 h1 h2
 exact ⟨by go_simp, by go_simp, by go_simp, by go_simp, by go_simp, by go_simp⟩
theorem OwnDir.ext {W W' : World} {b : Nat} {d : Nat → Int} (h : OwnDir W b d) (hE : Ext W W') : OwnDir W' b d :=
 have hp := World.block_lt_of_cell? _ _ h.c0
 ⟨cell_ext hE h.c0, cell_ext hE h.c1, cell_ext hE h.c2, (hE.frozen (by exact hp)).trans h.f0, (hE.frozen (by exact hp)).trans h.f1, (hE.frozen (by exact hp)).trans h.f2⟩
theorem OwnDir.set {W : World} {b k : Nat} {d : Nat → Int} (h : OwnDir W b (negTo d k)) (hk : k < 3) : OwnDir (W.setCell ⟨b, k, none⟩ (.int .i64 (-d k))) b (negTo d (k + 1)) := by
 obtain ⟨h0, h1, h2, g0, g1, g2⟩ := h
 match k, hk with
 | 0, _ => simp [negTo] at h0 h1 h2; exact ⟨by go_simp; simp [negTo], by go_simp; simp [negTo], by go_simp; simp [negTo], by go_simp, by go_simp, by go_simp⟩
 | 1, _ => simp [negTo] at h0 h1 h2; exact ⟨by go_simp; simp [negTo], by go_simp; simp [negTo], by go_simp; simp [negTo], by go_simp, by go_simp, by go_simp⟩
 | 2, _ => simp [negTo] at h0 h1 h2; exact ⟨by go_simp; simp [negTo], by go_simp; simp [negTo], by go_simp; simp [negTo], by go_simp, by go_simp, by go_simp⟩
theorem OwnDir.cell {W : World} {b k : Nat} {d : Nat → Int} (h : OwnDir W b d) (hk : k < 3) : W.cell? ⟨b, k, none⟩ = some (.int .i64 (d k)) ∧ W.frozen? ⟨b, k, none⟩ = false := by
 match k, hk with
 | 0, _ => exact ⟨h.c0, h.f0⟩
 | 1, _ => exact ⟨h.c1, h.f1⟩
 | 2, _ => exact ⟨h.c2, h.f2⟩
theorem OwnDir.other {W : World} {b q o : Nat} {d : Nat → Int} {v : Value} (h : OwnDir W b d) (hne : b ≠ q) : OwnDir (W.setCell ⟨q, o, none⟩ v) b d := by
 have hT := (Turned.refl q W).set o v
 have hl := World.block_lt_of_cell? _ _ h.c0
 exact ⟨Turned.cell hT hne h.c0, Turned.cell hT hne h.c1, Turned.cell hT hne h.c2, (Turned.frozen (p := ⟨b, 0, none⟩) hT hne hl).trans h.f0, (Turned.frozen (p := ⟨b, 1, none⟩) hT hne hl).trans h.f1, (Turned.frozen (p := ⟨b, 2, none⟩) hT hne hl).trans h.f2⟩

theorem opposite_any (d : Nat → Int) (hd : ∀ p, p < 3 → -2 ≤ d p ∧ d p ≤ 2) (w : World) :
  Calls Tryz.prog 131 #[dirV d] w fun e w' => e = .returned (dirV (negD d)) ∧ Ext w w' := by
 have Hd := Lib.hid hd
 clear hd
 go_enter Tryz.func131, Tryz.ntmps131
 go_wp2
 obtain ⟨w0, hw0⟩ : ∃ W, W = ((w.alloc (.cells #[.int .i64 (d 0), .int .i64 (d 1), .int .i64 (d 2)] 22)).alloc (.cells #[.int .i64 0, .int .i64 0, .int .i64 0] 22)).alloc (.cells #[.int .i64 0, .int .i64 0, .int .i64 0] 22) := ⟨_, rfl⟩
 have HE0 := Lib.hid (show Ext w w0 by rw [hw0]; exact (((Ext.refl w).alloc _).alloc _).alloc _)
 have hs0 : w0.heap.size = w.heap.size + 3 := by rw [hw0]; simp
 have HR := Lib.hid (show OwnDir w0 (w.heap.size + 1) (negTo d 0) by
  rw [hw0]
  have := (OwnDir.new (w.alloc (.cells #[.int .i64 (d 0), .int .i64 (d 1), .int .i64 (d 2)] 22)) 0 0 0 (negTo d 0) rfl rfl rfl).ext ((Ext.refl _).alloc (.cells #[.int .i64 0, .int .i64 0, .int .i64 0] 22))
  simpa only [World.size_alloc] using this)
 have HO := Lib.hid (show OwnDir w0 (w.heap.size + 1 + 1) (negTo d 0) by
  rw [hw0]
  have := OwnDir.new ((w.alloc (.cells #[.int .i64 (d 0), .int .i64 (d 1), .int .i64 (d 2)] 22)).alloc (.cells #[.int .i64 0, .int .i64 0, .int .i64 0] 22)) 0 0 0 (negTo d 0) rfl rfl rfl
  simpa only [World.size_alloc] using this)
 rw [← hw0]
 have hs1 : w.heap.size + 2 < w0.heap.size := by omega
 clear hw0 hs0
 go_loopg [4, 5, 7] 3 (fun g a b i wr => ∃ k : Nat, k + g = 3 ∧ i = .int .i64 k ∧ Ext w wr ∧ OwnDir wr (w.heap.size + 1) (negTo d 0) ∧ OwnDir wr (w.heap.size + 1 + 1) (negTo d k))
 case atStart => exact ⟨0, by omega, rfl, HE0.out, HR.out, HO.out⟩
 case round =>
  obtain ⟨k, hk, rfl, hE, hR, hO⟩ := hrel
  have HE := Lib.hid hE
  have HR' := Lib.hid hR
  have HO' := Lib.hid hO
  clear hE hR
  by_cases hk3 : k < 3
  ·have hkI : (k : Int) < 3 := by omega
   have hix := index22 d hk3
   have hdk := Hd.out k hk3
   have q1 : IntKind.i64.wrap (-d k) = -d k := by rw [IntWalk.i64_in _ (by omega)]
   have ck := (hO.cell hk3).1
   have fk := (hO.cell hk3).2
   clear hO
   go_wp2
   go_roundg (gk - 1)
   case measure => omega
   case rel => exact ⟨k + 1, by omega, by go_num, ext_set HE.out (by omega), HR'.out.other (by omega), HO'.out.set hk3⟩
  ·obtain rfl : k = 3 := by omega
   obtain ⟨o0, o1, o2, _, _, _⟩ := hO
   obtain ⟨r0, r1, r2, s0, s1, s2⟩ := HR'.out
   have e0 : negTo d 3 0 = negD d 0 := rfl
   have e1 : negTo d 3 1 = negD d 1 := rfl
   have e2 : negTo d 3 2 = negD d 2 := rfl
   rw [e0] at o0
   rw [e1] at o1
   rw [e2] at o2
   clear e0 e1 e2
   go_wp2
   refine bodyPost_ret (v := dirV (negD d)) (results_cells (n := 3) rfl (by kernel_rfl) (by kernel_rfl) _ (w.heap.size + 1) [.int .i64 (negD d 0), .int .i64 (negD d 1), .int .i64 (negD d 2)] rfl (by simp) (fun j v hv => ?_)) (by simp) ⟨rfl, ext_set (ext_set (ext_set HE.out (by omega)) (by omega)) (by omega)⟩
   match j, hv with
   | 0, hv => cases hv; go_simp
   | 1, hv => cases hv; go_simp
   | 2, hv => cases hv; go_simp

end Go.Proofs.YtjpekonfjihcoaaGreatDoor
/- Contract: parts. No condition beyond sheets as defined. -/
namespace Go.Proofs.YtjpekonfjihcoaaGreatDoor
open Go.RowKit Go.My Go.TintM

theorem less_neg (d : Nat → Int) (lo hi : Nat → Nat) : lessD (negD d) lo hi = -moreD d lo hi := by
 have h : ∀ p, min (negD d p * (lo p : Int)) (negD d p * (hi p : Int)) = -max (d p * (lo p : Int)) (d p * (hi p : Int)) := fun p => by
  simp only [negD, Int.neg_mul]; omega
 simp only [lessD, moreD, tri, h]; omega
theorem more_small {d : Nat → Int} {lo hi : Nat → Nat} (hd : ∀ p, p < 3 → -2 ≤ d p ∧ d p ≤ 2) (hl : ∀ p, p < 3 → lo p ≤ 99 ∧ hi p ≤ 99) : -594 ≤ moreD d lo hi ∧ moreD d lo hi ≤ 594 := by
 have h : ∀ p, p < 3 → -198 ≤ max (d p * (lo p : Int)) (d p * (hi p : Int)) ∧ max (d p * (lo p : Int)) (d p * (hi p : Int)) ≤ 198 := fun p hp => by
  have h1 := mul_in (hd p hp) (hl p hp).1
  have h2 := mul_in (hd p hp) (hl p hp).2
  omega
 have h0 := h 0 (by omega)
 have h1 := h 1 (by omega)
 have h2 := h 2 (by omega)
 simp only [moreD, tri]; omega
theorem less_small {d : Nat → Int} {lo hi : Nat → Nat} (hd : ∀ p, p < 3 → -2 ≤ d p ∧ d p ≤ 2) (hl : ∀ p, p < 3 → lo p ≤ 99 ∧ hi p ≤ 99) : -594 ≤ lessD d lo hi ∧ lessD d lo hi ≤ 594 := by
 have h : ∀ p, p < 3 → -198 ≤ min (d p * (lo p : Int)) (d p * (hi p : Int)) ∧ min (d p * (lo p : Int)) (d p * (hi p : Int)) ≤ 198 := fun p hp => by
  have h1 := mul_in (hd p hp) (hl p hp).1
  have h2 := mul_in (hd p hp) (hl p hp).2
  omega
 have h0 := h 0 (by omega)
 have h1 := h 1 (by omega)
 have h2 := h 2 (by omega)
 simp only [lessD, tri]; omega
theorem neg_dir {d : Nat → Int} (hd : ∀ p, p < 3 → -2 ≤ d p ∧ d p ≤ 2) : ∀ p, p < 3 → -2 ≤ negD d p ∧ negD d p ≤ 2 := fun p hp => by have := hd p hp; simp only [negD]; omega

/-- The boxes that the comparison of a tin sees. -/
structure PBx (bd bs bz bl : Nat) (d : Nat → Int) (off : Nat) (size least : Int) (W : World) : Prop where
 d0 : W.cell? ⟨bd, 0, none⟩ = some (.int .i64 (d 0))
 d1 : W.cell? ⟨bd, 1, none⟩ = some (.int .i64 (d 1))
 d2 : W.cell? ⟨bd, 2, none⟩ = some (.int .i64 (d 2))
 off : W.cell? ⟨bs, 11, none⟩ = some (.int .i64 off)
 size : W.cell? ⟨bz, 0, none⟩ = some (.int .i64 size)
 least : W.cell? ⟨bl, 0, none⟩ = some (.int .i64 least)
theorem PBx.ext {bd bs bz bl : Nat} {d : Nat → Int} {off : Nat} {size least : Int} {W W' : World} (h : PBx bd bs bz bl d off size least W) (hE : Ext W W') : PBx bd bs bz bl d off size least W' :=
 ⟨cell_ext hE h.d0, cell_ext hE h.d1, cell_ext hE h.d2, cell_ext hE h.off, cell_ext hE h.size, cell_ext hE h.least⟩
/-- A tin lies far enough before. -/
def farB (d : Nat → Int) (off : Nat) (size least : Int) (lo hi : Nat → Nat) : Bool := decide (moreD d lo hi + off * size < least)

theorem part1_any (d : Nat → Int) (lo hi : Nat → Nat) (hd : ∀ p, p < 3 → -2 ≤ d p ∧ d p ≤ 2) (hl : ∀ p, p < 3 → lo p ≤ 99 ∧ hi p ≤ 99) (bd bs bz bl off : Nat) (size least : Int) (ho : off ≤ 20) (hz : 0 ≤ size ∧ size ≤ 6) (w : World) (h : PBx bd bs bz bl d off size least w) :
  Calls Tryz.prog 130 #[ampV lo hi, .pointer (some ⟨bd, 0, none⟩), .pointer (some ⟨bs, 0, none⟩), .pointer (some ⟨bz, 0, none⟩), .pointer (some ⟨bl, 0, none⟩)] w fun e w' => e = .returned (.bool (!farB d off size least lo hi)) ∧ Ext w w' := by
 have R131 := Lib.hid (fun W => opposite_any d hd W)
 have R129 := Lib.hid (fun W => along_any (negD d) lo hi (neg_dir hd) hl W)
 rw [less_neg] at R129
 have hm := more_small hd hl
 have H := Lib.hid h
 have Hf := Lib.hid (show farB d off size least lo hi = decide (moreD d lo hi + off * size < least) from rfl)
 have hos : 0 ≤ (off : Int) * size ∧ (off : Int) * size ≤ 120 := by
  have h1 : (off : Int) * size ≤ 20 * 6 := Int.mul_le_mul (by omega) hz.2 hz.1 (by omega)
  have h2 : 0 ≤ (off : Int) * size := Int.mul_nonneg (by omega) hz.1
  omega
 clear hd hl h
 generalize moreD d lo hi = M at *
 obtain ⟨X, hX⟩ : ∃ X, (off : Int) * size = X := ⟨_, rfl⟩
 rw [hX] at hos Hf
 have q1 : IntKind.i64.wrap X = X := by rw [IntWalk.i64_in _ (by omega)]
 have q2 : IntKind.i64.wrap (- -M) = M := by rw [IntWalk.i64_in _ (by omega)]; omega
 have q3 : IntKind.i64.wrap (M + X) = M + X := by rw [IntWalk.i64_in _ (by omega)]
 have q4 : IntKind.i64.wrap M = M := by rw [IntWalk.i64_in _ (by omega)]
 clear hm hos
 go_enter Tryz.func130, Tryz.ntmps130
 go_wp2
 obtain ⟨w0, hw0⟩ : ∃ W, W = w.alloc (.cells (ampC lo hi) 82) := ⟨_, rfl⟩
 have hE0 : Ext w w0 := by rw [hw0]; exact (Ext.refl w).alloc _
 have e0 : w0.cell? ⟨w.heap.size, 0, none⟩ = some (.int .i64 (lo 0 : Nat)) := by rw [hw0]; go_simp
 have e1 : w0.cell? ⟨w.heap.size, 1, none⟩ = some (.int .i64 (hi 0 : Nat)) := by rw [hw0]; go_simp
 have e2 : w0.cell? ⟨w.heap.size, 2, none⟩ = some (.int .i64 (lo 1 : Nat)) := by rw [hw0]; go_simp
 have e3 : w0.cell? ⟨w.heap.size, 3, none⟩ = some (.int .i64 (hi 1 : Nat)) := by rw [hw0]; go_simp
 have e4 : w0.cell? ⟨w.heap.size, 4, none⟩ = some (.int .i64 (lo 2 : Nat)) := by rw [hw0]; go_simp
 have e5 : w0.cell? ⟨w.heap.size, 5, none⟩ = some (.int .i64 (hi 2 : Nat)) := by rw [hw0]; go_simp
 have H0 := Lib.hid (H.out.ext hE0)
 have HE0 := Lib.hid hE0
 rw [← hw0]
 clear hw0 hE0
 refine wp_region_plan (.take 0 <| .take 2 <| .take 3 <| .take 6 <| .take 7 <| .take 8 <| .take 9 <| .take 11 <| .only 1 <| .only 4 <| .take 5 <| .take 10 <| .take 12 <| .take 13 <| .done) (fun W => Ext w0 W) mixed (by kernel_rfl) (by kernel_rfl) rfl (fun _ _ d _ _ h => by cases d <;> exact h) ((Ext.refl w0).drew) ?_
 repeat ((first | (refine plan_take (v := ?_) rfl rfl (fun W hW => ?_) ?_; rotate_left; (focus (have d0 := cell_ext hW H0.out.d0; have d1 := cell_ext hW H0.out.d1; have d2 := cell_ext hW H0.out.d2; have d3 := cell_ext hW H0.out.off; have d4 := cell_ext hW H0.out.size; have d5 := cell_ext hW H0.out.least; have d6 := cell_ext hW e0; have d7 := cell_ext hW e1; have d8 := cell_ext hW e2; have d9 := cell_ext hW e3; have da := cell_ext hW e4; have db := cell_ext hW e5; go_simp; first | exact rfl | (split <;> first | exact rfl | (exfalso; omega)) | done))) | refine plan_skip rfl rfl ?_); simp only [puts])
 refine plan_walk rfl ?_; intro K hK
 clear e0 e1 e2 e3 e4 e5
 go_wp2_with (first | (go_at_call 131; refine (R131.out _).mono ?_; rintro e w1 ⟨rfl, hE1⟩))
 have hX1 := (Ext.refl w0).drew.trans hE1
 refine hK _ _ hX1 ?_
 refine plan_walk rfl ?_; intro K hK
 go_wp2_with (first | (go_at_call 129; refine (R129.out _).mono ?_; rintro e w2 ⟨rfl, hE2⟩))
 have hX2 := hX1.trans hE2
 refine hK _ _ hX2 ?_
 repeat ((first | (refine plan_take (v := ?_) rfl rfl (fun W hW => ?_) ?_; rotate_left; (focus (skip; go_simp; first | exact rfl | (split <;> first | exact rfl | (exfalso; omega)) | done))) | refine plan_skip rfl rfl ?_); simp only [puts])
 refine plan_done ?_
 have HX2 := Lib.hid (HE0.out.trans hX2)
 clear hX1 hX2 hE1 hE2
 by_cases hlt : M + X < least
 ·have Hq := Lib.hid hlt
  go_wp2
  go_ret
  exact ⟨by rw [Hf.out, decide_eq_true (show M + X < least by have := Hq.out; omega)]; first | rfl | (simp; omega), HX2.out⟩
 ·have Hq := Lib.hid hlt
  go_wp2
  go_ret
  exact ⟨by rw [Hf.out, decide_eq_false (show ¬ M + X < least by have := Hq.out; omega)]; first | rfl | (simp; omega), HX2.out⟩

theorem amp_tin {t : List Nat} {x0 x1 x2 x3 x4 x5 : Int} (h6 : t.length = 6) (ht : upL t = [x0, x1, x2, x3, x4, x5]) : ampV (tlo t) (thi t) = .agg #[.int .i64 x0, .int .i64 x1, .int .i64 x2, .int .i64 x3, .int .i64 x4, .int .i64 x5] := by
 match t, h6 with
 | [t0, t1, t2, t3, t4, t5], _ =>
  simp only [upL, List.map_cons, List.map_nil, List.cons.injEq, and_true] at ht
  obtain ⟨r0, r1, r2, r3, r4, r5⟩ := ht
  simp [ampV, tlo, thi, r0, r1, r2, r3, r4, r5]
/-- As the search for a tin asks. -/
def farI (d : Nat → Int) (off : Nat) (size least : Int) (t : List Int) : Bool := farB d off size least (fun p => (t.getD (2 * p) 0).toNat) (fun p => (t.getD (2 * p + 1) 0).toNat)
theorem farI_up (d : Nat → Int) (off : Nat) (size least : Int) (t : List Nat) : farI d off size least (upL t) = farB d off size least (tlo t) (thi t) := by
 have e : ∀ j, ((upL t).getD j 0).toNat = t.getD j 0 := fun j => by
  simp only [upL, List.getD_eq_getElem?_getD, List.getElem?_map]
  cases t[j]? <;> simp
 simp only [farI, e]
 rfl

theorem indexPart_any (s : Sh) (g : Fine s) (d : Nat → Int) (hd : ∀ p, p < 3 → -2 ≤ d p ∧ d p ≤ 2) (bd bs bz bl off : Nat) (size least : Int) (ho : off ≤ 20) (hz : 0 ≤ size ∧ size ≤ 6) (ot : Option Addr) (cap : Nat) (w : World) (h : TinsAt w ot (ofSh s).tins) (hb : PBx bd bs bz bl d off size least w) :
  Calls Tryz.prog 140 #[.slice ot (ofSh s).tins.length cap, .func (.func 130) #[] #[.pointer (some ⟨bd, 0, none⟩), .pointer (some ⟨bs, 0, none⟩), .pointer (some ⟨bz, 0, none⟩), .pointer (some ⟨bl, 0, none⟩)]] w fun e w' => e = .returned (.int .i64 (badIx (farI d off size least) (ofSh s).tins)) ∧ Ext w w' := by
 have hl : (ofSh s).tins.length ≤ 9223372036854775807 := by rw [tins_len]; have := g.len2; omega
 have H := Lib.hid h
 have RK := Lib.hid (fun (t : List Nat) (ht : t ∈ s.tins) W (hW : Ext w W) => part1_any d (tlo t) (thi t) hd (fun p hp => ⟨Nat.le_trans (g.tin t ht p hp).1 (g.tin t ht p hp).2, (g.tin t ht p hp).2⟩) bd bs bz bl off size least ho hz W (hb.ext hW))
 have hts : ∀ k (hk : k < (ofSh s).tins.length), ∃ t ∈ s.tins, (ofSh s).tins[k] = upL t ∧ t.length = 6 := fun k hk => by
  have hk' : k < s.tins.length := by rwa [tins_len] at hk
  exact ⟨s.tins[k], List.getElem_mem _, by simp [ofSh], g.six _ (List.getElem_mem _)⟩
 have Hts := Lib.hid hts
 clear h hb hts g
 generalize hT : (ofSh s).tins = ts at *
 clear hT
 go_enter Tryz.func140, Tryz.ntmps140
 go_wp2
 go_loopg [5, 8] ts.length (fun g j i wr => ∃ k : Nat, k + g = ts.length ∧ Ext w wr ∧ i = .int .i64 k ∧ (ts.take k).all (farI d off size least) = true)
 case atStart => exact ⟨0, by simp, Ext.refl w, rfl, by simp⟩
 case round =>
  obtain ⟨k, hk, hE, rfl, hx⟩ := hrel
  have Hx := Lib.hid hx; clear hx
  by_cases hlt : k < ts.length
  ·obtain ⟨b, off', x0, x1, x2, x3, x4, x5, hot, hb, ht, k0, k1, k2, k3, k4, k5⟩ := (H.out.ext hE).at hlt
   obtain ⟨t, htm, htu, h6⟩ := Hts.out k hlt
   subst hot
   have hR := RK.out t htm wr hE
   rw [← farI_up, ← htu] at hR
   have hv := amp_tin h6 (htu.symm.trans ht)
   rw [hv] at hR
   have HE := Lib.hid hE
   clear ht htu h6 hv hE
   cases hs : farI d off size least ts[k]
   ·rw [hs] at hR
    have R := Lib.hid hR
    clear hR
    have Hs := Lib.hid hs
    clear hs
    go_wp2_with (first | (go_at_call 130; refine R.out.mono ?_; rintro e w' ⟨rfl, hE'⟩; have HE' := Lib.hid hE'; clear hE'))
    go_ret
    exact ⟨ret_int (badIx_yes hlt Hx.out Hs.out).symm, HE.out.trans HE'.out⟩
   ·rw [hs] at hR
    have R := Lib.hid hR
    clear hR
    have Hs := Lib.hid hs
    clear hs
    go_wp2_with (first | (go_at_call 130; refine R.out.mono ?_; rintro e w' ⟨rfl, hE'⟩; have HE' := Lib.hid hE'; clear hE'))
    go_roundg (gk - 1)
    case measure => omega
    case rel => exact ⟨k + 1, by omega, HE.out.trans HE'.out, by go_num, all_take_succ hlt Hx.out Hs.out⟩
  ·go_wp2
   go_ret
   exact ⟨ret_int (badIx_no (by omega) Hx.out).symm, hE⟩
theorem containsPart_any (s : Sh) (g : Fine s) (d : Nat → Int) (hd : ∀ p, p < 3 → -2 ≤ d p ∧ d p ≤ 2) (bd bs bz bl off : Nat) (size least : Int) (ho : off ≤ 20) (hz : 0 ≤ size ∧ size ≤ 6) (ot : Option Addr) (cap : Nat) (w : World) (h : TinsAt w ot (ofSh s).tins) (hb : PBx bd bs bz bl d off size least w) :
  Calls Tryz.prog 114 #[.slice ot (ofSh s).tins.length cap, .func (.func 130) #[] #[.pointer (some ⟨bd, 0, none⟩), .pointer (some ⟨bs, 0, none⟩), .pointer (some ⟨bz, 0, none⟩), .pointer (some ⟨bl, 0, none⟩)]] w fun e w' => e = .returned (.bool (!(s.tins.all fun t => farB d off size least (tlo t) (thi t)))) ∧ Ext w w' := by
 have R := Lib.hid (indexPart_any s g d hd bd bs bz bl off size least ho hz ot cap w h hb)
 have hi := badIx_lt (farI d off size least) (ofSh s).tins
 have ha : (ofSh s).tins.all (farI d off size least) = s.tins.all fun t => farB d off size least (tlo t) (thi t) := by
  simp only [ofSh, List.all_map]
  congr 1
  funext t
  exact farI_up _ _ _ _ t
 have Hi := Lib.hid (badIx_ge (farI d off size least) (ofSh s).tins)
 rw [ha] at Hi
 clear h hb g ha
 generalize (ofSh s).tins = ts at *
 go_enter Tryz.func114, Tryz.ntmps114
 go_wp2_with (go_at_call 140; refine R.out.mono ?_; rintro e w' ⟨rfl, hE⟩)
 go_ret
 exact ⟨ret_bool Hi.out, hE⟩

end Go.Proofs.YtjpekonfjihcoaaGreatDoor
