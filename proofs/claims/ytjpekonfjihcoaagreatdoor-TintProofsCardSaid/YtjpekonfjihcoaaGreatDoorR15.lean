/- Contract of the reference: Proof. No condition beyond sheets as defined. -/
import Derived.ArgAppend
import Derived.Below
import Derived.BigQuiet
import Derived.Deep.DeepCutAuto
import Derived.Deep.DeepFit
import Derived.Deep.LoopGhost
import Derived.Deep.QuietTactic
import Derived.Deep.RegionHeld
import Derived.Deep.RegionHeld3
import Derived.Deep.RegionWith
import Derived.Deep.Upon
import Derived.Defers
import Derived.Laws.BytesArg
import Derived.Laws.EntriesVeiled
import Derived.Laws.OwnMore
import Derived.Lib.Hide
import Derived.Lib.IndexBytes
import Derived.Lib.ItoaNum
import Derived.Lib.SplitLaws
import Derived.LoopIn
import Derived.LoopNIn
import Derived.Maps.AppendAt
import Derived.Maps.Keyed
import Derived.Maps.OwnIn
import Derived.OrdersHeld
import Derived.OwnWalkIn
import Derived.RangeFuncBound
import Derived.RangeFuncCalls
import Derived.RangeFuncLeaves
import Derived.RangeFuncNested
import Derived.Recover
import Derived.RegionIn
import Derived.Shelf.Abstract
import Derived.Shelf.Strconv.Itoa3
import Derived.Shelf.Strings.Split
import Derived.TacticsIn
import Derived.TacticsInMore
import Derived.Test.YtjpekonfjihcoaaGreatDoorProg
import Derived.WalkKit
import Derived.WalkLawsBesides
import Derived.WalkSpells
import Derived.Test.YtjpekonfjihcoaaGreatDoorM3
import Derived.Test.YtjpekonfjihcoaaGreatDoorM2
import Derived.Test.YtjpekonfjihcoaaGreatDoorM24
import Derived.Test.YtjpekonfjihcoaaGreatDoorR13
import Derived.Test.YtjpekonfjihcoaaGreatDoorM14
import Derived.Test.YtjpekonfjihcoaaGreatDoorR14
import Derived.Test.YtjpekonfjihcoaaGreatDoorM1
import Derived.Test.YtjpekonfjihcoaaGreatDoorM17
namespace Go.TintM
end Go.TintM
set_option linter.unusedVariables false
set_option linter.unusedSimpArgs false
namespace Go.Proofs.YtjpekonfjihcoaaGreatDoor
open Go.RowKit Go.My Go.TintM

def rproofV (s : Sh) : Value := match proofN s with
  | some n => .tuple #[dirV (dirOf n), .bool true]
  | none => .tuple #[.agg #[.int .i64 0, .int .i64 0, .int .i64 0], .bool false]
theorem rproof_hit {s : Sh} {k : Nat} (hk : k < 125) (h : ∀ j, j < k → partsB s (dirOf j) = false) (h2 : partsB s (dirOf k) = true) : rproofV s = .tuple #[dirV (dirOf k), .bool true] := by
  have : proofN s = some k := by
    have h3 := find_hit (P := fun n => partsB s (dirOf n)) (L := List.range 125) (k := k) (by simpa using hk) (fun x hx => by
      rw [List.take_range] at hx
      exact h x (by have := List.mem_range.1 hx; omega)) (by simpa using h2)
    simpa [proofN] using h3
  simp only [rproofV, this]
theorem rproof_no {s : Sh} (h : ∀ j, j < 125 → partsB s (dirOf j) = false) : rproofV s = .tuple #[.agg #[.int .i64 0, .int .i64 0, .int .i64 0], .bool false] := by
  have : proofN s = none := find_no fun x hx => h x (List.mem_range.1 hx)
  simp only [rproofV, this]
theorem dir_abc {a b c : Nat} (hb : b < 5) (hc : c < 5) : dirV (dirOf (25 * a + 5 * b + c)) = .agg #[.int .i64 ((a : Int) - 2), .int .i64 ((b : Int) - 2), .int .i64 ((c : Int) - 2)] := by
  have h1 : (25 * a + 5 * b + c) / 5 / 5 = a := by omega
  have h2 : (25 * a + 5 * b + c) / 5 % 5 = b := by omega
  have h3 : (25 * a + 5 * b + c) % 5 = c := by omega
  simp only [dirV, dirOf, h1, h2, h3]

set_option maxRecDepth 100000 in
set_option maxHeartbeats 8000000 in
theorem rProof_any (s : Sh) (g : Fine s) (ot : Option Addr) (cap : Nat) (w : World) (h : TinsAt w ot (ofSh s).tins) :
    Calls Tryz.prog 56 #[sheetV (ofSh s) ot cap] w fun e w' => e = .returned (rproofV s) ∧ Ext w w' := by
  have R57 := Lib.hid (fun n (hn : n < 125) W => rSide_any (dirOf n) (dirOf_in hn) W)
  have R58 := Lib.hid (fun n (hn : n < 125) W (hW : Ext w W) => rParted_any s g (dirOf n) (dirOf_in hn) ot cap W (h.ext hW))
  have Hp := Lib.hid (fun n => (show partsB s (dirOf n) = (decide (sizeD (dirOf n) ≠ 0) && parted s (dirOf n)) from rfl))
  have Hhit := Lib.hid (fun k (hk : k < 125) h h2 => rproof_hit (s := s) (k := k) hk h h2)
  have Hno := Lib.hid (fun h => rproof_no (s := s) h)
  clear h g
  obtain ⟨pv, hpv⟩ : ∃ v, v = rproofV s := ⟨_, rfl⟩
  rw [← hpv] at Hhit Hno ⊢
  clear hpv
  go_enter Tryz.func56, Tryz.ntmps56
  go_wp2
  obtain ⟨w0, hw0⟩ : ∃ W, W = (w.alloc (.cells (sheetC (ofSh s) ot cap) 28)).alloc (.cells #[.int .i64 0, .int .i64 0, .int .i64 0] 22) := ⟨_, rfl⟩
  have HE0 := Lib.hid (show Ext w w0 by rw [hw0]; exact ((Ext.refl w).alloc _).alloc _)
  have HP := Lib.hid (show SheetBox w0 w.heap.size (ofSh s) ot cap by rw [hw0]; exact (SheetBox.new w (ofSh s) ot cap).ext ((Ext.refl _).alloc _))
  have HZ := Lib.hid (show OwnDir w0 (w.heap.size + 1) (fun _ => 0) by
    have := OwnDir.new (w.alloc (.cells (sheetC (ofSh s) ot cap) 28)) 0 0 0 (fun _ => 0) rfl rfl rfl
    rw [World.size_alloc] at this
    rw [hw0]; exact this)
  rw [← hw0]
  clear hw0
  go_loopg [4, 5, 6, 7] 5 (fun g x y z q wr => ∃ a : Nat, a + g = 5 ∧ x = .int .i64 ((a : Int) - 2) ∧ Ext w0 wr ∧ ∀ j, j < 25 * a → partsB s (dirOf j) = false)
  case atStart => exact ⟨0, by omega, rfl, Ext.refl _, fun j hj => by omega⟩
  case round =>
    obtain ⟨a, ha, rfl, hE, hall⟩ := hrel
    have HE := Lib.hid hE
    have Hall := Lib.hid hall
    clear hE hall
    obtain ⟨g0, rfl⟩ : ∃ g0 : Nat, g0 = gk := ⟨_, rfl⟩
    by_cases ha5 : a < 5
    · have haI : (a : Int) - 2 ≤ 2 := by omega
      go_wp2
      go_loopg [5, 6, 7] 5 (fun g y z q wr => ∃ b : Nat, b + g = 5 ∧ y = .int .i64 ((b : Int) - 2) ∧ Ext w0 wr ∧ ∀ j, j < 25 * a + 5 * b → partsB s (dirOf j) = false)
      case atStart => exact ⟨0, by omega, rfl, HE.out, fun j hj => Hall.out j (by omega)⟩
      case round =>
        clear HE Hall
        obtain ⟨b, hb, rfl, hE, hall⟩ := hrel
        have HE := Lib.hid hE
        have Hall := Lib.hid hall
        clear hE hall
        obtain ⟨g1, rfl⟩ : ∃ g1 : Nat, g1 = gk := ⟨_, rfl⟩
        by_cases hb5 : b < 5
        · have hbI : (b : Int) - 2 ≤ 2 := by omega
          go_wp2
          go_loopg [6, 7] 5 (fun g z q wr => ∃ c : Nat, c + g = 5 ∧ z = .int .i64 ((c : Int) - 2) ∧ Ext w0 wr ∧ ∀ j, j < 25 * a + 5 * b + c → partsB s (dirOf j) = false)
          case atStart => exact ⟨0, by omega, rfl, HE.out, fun j hj => Hall.out j (by omega)⟩
          case round =>
            clear HE Hall
            obtain ⟨c, hc, rfl, hE, hall⟩ := hrel
            have HE := Lib.hid hE
            have Hall := Lib.hid hall
            have HPr := Lib.hid (HP.out.ext hE)
            have HZr := Lib.hid (HZ.out.ext hE)
            clear hE hall
            by_cases hc5 : c < 5
            · have hcI : (c : Int) - 2 ≤ 2 := by omega
              have hn := dir_abc (a := a) hb5 hc5
              have A := Lib.hid (R57.out (25 * a + 5 * b + c) (by omega))
              have B := Lib.hid (R58.out (25 * a + 5 * b + c) (by omega))
              have D := Lib.hid (Hp.out (25 * a + 5 * b + c))
              have Hh := Lib.hid (Hhit.out (25 * a + 5 * b + c) (by omega) Hall.out)
              rw [hn] at A B Hh
              clear hn
              have D2 := Lib.hid (Hp.out (25 * a + 5 * b + c))
              cases hS : decide (sizeD (dirOf (25 * a + 5 * b + c)) ≠ 0) with
              | false =>
                rw [hS] at A
                have Hnot := Lib.hid (show partsB s (dirOf (25 * a + 5 * b + c)) = false by rw [D2.out, hS, Bool.false_and])
                clear hS
                go_wp2_with (first | (go_at_call 57; refine (A.out _).mono ?_; rintro e w5 ⟨rfl, hE5⟩; have X := Lib.hid (((Ext.refl wr).alloc (.cells #[.int .i64 ((a : Int) - 2), .int .i64 ((b : Int) - 2), .int .i64 ((c : Int) - 2)] 22)).trans hE5); clear A; have t0 := cell_ext (p := ⟨wr.heap.size, 0, none⟩) (v := .int .i64 ((a : Int) - 2)) hE5 (by go_simp); have t1 := cell_ext (p := ⟨wr.heap.size, 1, none⟩) (v := .int .i64 ((b : Int) - 2)) hE5 (by go_simp); have t2 := cell_ext (p := ⟨wr.heap.size, 2, none⟩) (v := .int .i64 ((c : Int) - 2)) hE5 (by go_simp); clear hE5; have c0 : World.cell? w5 ⟨w.heap.size, 0, none⟩ = some (.int .i64 (ofSh s).o0) := (HPr.out.ext X.out) 0 _ rfl; have c1 : World.cell? w5 ⟨w.heap.size, 1, none⟩ = some (.int .i64 (ofSh s).o1) := (HPr.out.ext X.out) 1 _ rfl; have c2 : World.cell? w5 ⟨w.heap.size, 2, none⟩ = some (.int .i64 (ofSh s).o2) := (HPr.out.ext X.out) 2 _ rfl; have c3 : World.cell? w5 ⟨w.heap.size, 3, none⟩ = some (.int .i64 (ofSh s).a0) := (HPr.out.ext X.out) 3 _ rfl; have c4 : World.cell? w5 ⟨w.heap.size, 4, none⟩ = some (.int .i64 (ofSh s).b0) := (HPr.out.ext X.out) 4 _ rfl; have c5 : World.cell? w5 ⟨w.heap.size, 5, none⟩ = some (.int .i64 (ofSh s).a1) := (HPr.out.ext X.out) 5 _ rfl; have c6 : World.cell? w5 ⟨w.heap.size, 6, none⟩ = some (.int .i64 (ofSh s).b1) := (HPr.out.ext X.out) 6 _ rfl; have c7 : World.cell? w5 ⟨w.heap.size, 7, none⟩ = some (.int .i64 (ofSh s).a2) := (HPr.out.ext X.out) 7 _ rfl; have c8 : World.cell? w5 ⟨w.heap.size, 8, none⟩ = some (.int .i64 (ofSh s).b2) := (HPr.out.ext X.out) 8 _ rfl; have c9 : World.cell? w5 ⟨w.heap.size, 9, none⟩ = some (.int .i64 (ofSh s).ylo) := (HPr.out.ext X.out) 9 _ rfl; have c10 : World.cell? w5 ⟨w.heap.size, 10, none⟩ = some (.int .i64 (ofSh s).yhi) := (HPr.out.ext X.out) 10 _ rfl; have c11 : World.cell? w5 ⟨w.heap.size, 11, none⟩ = some (.int .i64 (ofSh s).off) := (HPr.out.ext X.out) 11 _ rfl; have c12 : World.cell? w5 ⟨w.heap.size, 12, none⟩ = some (.slice ot (ofSh s).tins.length cap) := (HPr.out.ext X.out) 12 _ rfl))
                go_roundg (gk - 1)
                case measure => omega
                case rel => exact ⟨c + 1, by omega, by go_num, HE.out.trans X.out, fun j hj => by
                  rcases Nat.lt_succ_iff_lt_or_eq.1 (show j < (25 * a + 5 * b + c) + 1 by omega) with hj | rfl
                  · exact Hall.out j hj
                  · exact Hnot.out⟩
              | true =>
                rw [hS] at A
                cases hPt : parted s (dirOf (25 * a + 5 * b + c)) with
                | false =>
                  rw [hPt] at B
                  have Hnot := Lib.hid (show partsB s (dirOf (25 * a + 5 * b + c)) = false by rw [D2.out, hPt, Bool.and_false])
                  clear hS hPt
                  go_wp2_with (first | (go_at_call 57; refine (A.out _).mono ?_; rintro e w5 ⟨rfl, hE5⟩; have X := Lib.hid (((Ext.refl wr).alloc (.cells #[.int .i64 ((a : Int) - 2), .int .i64 ((b : Int) - 2), .int .i64 ((c : Int) - 2)] 22)).trans hE5); clear A; have t0 := cell_ext (p := ⟨wr.heap.size, 0, none⟩) (v := .int .i64 ((a : Int) - 2)) hE5 (by go_simp); have t1 := cell_ext (p := ⟨wr.heap.size, 1, none⟩) (v := .int .i64 ((b : Int) - 2)) hE5 (by go_simp); have t2 := cell_ext (p := ⟨wr.heap.size, 2, none⟩) (v := .int .i64 ((c : Int) - 2)) hE5 (by go_simp); clear hE5; have c0 : World.cell? w5 ⟨w.heap.size, 0, none⟩ = some (.int .i64 (ofSh s).o0) := (HPr.out.ext X.out) 0 _ rfl; have c1 : World.cell? w5 ⟨w.heap.size, 1, none⟩ = some (.int .i64 (ofSh s).o1) := (HPr.out.ext X.out) 1 _ rfl; have c2 : World.cell? w5 ⟨w.heap.size, 2, none⟩ = some (.int .i64 (ofSh s).o2) := (HPr.out.ext X.out) 2 _ rfl; have c3 : World.cell? w5 ⟨w.heap.size, 3, none⟩ = some (.int .i64 (ofSh s).a0) := (HPr.out.ext X.out) 3 _ rfl; have c4 : World.cell? w5 ⟨w.heap.size, 4, none⟩ = some (.int .i64 (ofSh s).b0) := (HPr.out.ext X.out) 4 _ rfl; have c5 : World.cell? w5 ⟨w.heap.size, 5, none⟩ = some (.int .i64 (ofSh s).a1) := (HPr.out.ext X.out) 5 _ rfl; have c6 : World.cell? w5 ⟨w.heap.size, 6, none⟩ = some (.int .i64 (ofSh s).b1) := (HPr.out.ext X.out) 6 _ rfl; have c7 : World.cell? w5 ⟨w.heap.size, 7, none⟩ = some (.int .i64 (ofSh s).a2) := (HPr.out.ext X.out) 7 _ rfl; have c8 : World.cell? w5 ⟨w.heap.size, 8, none⟩ = some (.int .i64 (ofSh s).b2) := (HPr.out.ext X.out) 8 _ rfl; have c9 : World.cell? w5 ⟨w.heap.size, 9, none⟩ = some (.int .i64 (ofSh s).ylo) := (HPr.out.ext X.out) 9 _ rfl; have c10 : World.cell? w5 ⟨w.heap.size, 10, none⟩ = some (.int .i64 (ofSh s).yhi) := (HPr.out.ext X.out) 10 _ rfl; have c11 : World.cell? w5 ⟨w.heap.size, 11, none⟩ = some (.int .i64 (ofSh s).off) := (HPr.out.ext X.out) 11 _ rfl; have c12 : World.cell? w5 ⟨w.heap.size, 12, none⟩ = some (.slice ot (ofSh s).tins.length cap) := (HPr.out.ext X.out) 12 _ rfl) | (go_at_call 58; refine (B.out _ (HE0.out.trans (HE.out.trans X.out))).mono ?_; rintro e w6 ⟨rfl, hE6⟩; have X6 := Lib.hid (X.out.trans hE6); clear B; have u0 := cell_ext hE6 t0; have u1 := cell_ext hE6 t1; have u2 := cell_ext hE6 t2; have HZ6 := Lib.hid (HZr.out.ext X6.out); have r0 := HZ6.out.c0; have r1 := HZ6.out.c1; have r2 := HZ6.out.c2; have q0 := HZ6.out.f0; have q1 := HZ6.out.f1; have q2 := HZ6.out.f2; clear hE6 t0 t1 t2 c0 c1 c2 c3 c4 c5 c6 c7 c8 c9 c10 c11 c12))
                  go_roundg (gk - 1)
                  case measure => omega
                  case rel => exact ⟨c + 1, by omega, by go_num, HE.out.trans X6.out, fun j hj => by
                    rcases Nat.lt_succ_iff_lt_or_eq.1 (show j < (25 * a + 5 * b + c) + 1 by omega) with hj | rfl
                    · exact Hall.out j hj
                    · exact Hnot.out⟩
                | true =>
                  rw [hPt] at B
                  obtain rfl := Hh.out (by rw [D.out, hS, hPt]; rfl)
                  clear hS hPt
                  go_wp2_with (first | (go_at_call 57; refine (A.out _).mono ?_; rintro e w5 ⟨rfl, hE5⟩; have X := Lib.hid (((Ext.refl wr).alloc (.cells #[.int .i64 ((a : Int) - 2), .int .i64 ((b : Int) - 2), .int .i64 ((c : Int) - 2)] 22)).trans hE5); clear A; have t0 := cell_ext (p := ⟨wr.heap.size, 0, none⟩) (v := .int .i64 ((a : Int) - 2)) hE5 (by go_simp); have t1 := cell_ext (p := ⟨wr.heap.size, 1, none⟩) (v := .int .i64 ((b : Int) - 2)) hE5 (by go_simp); have t2 := cell_ext (p := ⟨wr.heap.size, 2, none⟩) (v := .int .i64 ((c : Int) - 2)) hE5 (by go_simp); clear hE5; have c0 : World.cell? w5 ⟨w.heap.size, 0, none⟩ = some (.int .i64 (ofSh s).o0) := (HPr.out.ext X.out) 0 _ rfl; have c1 : World.cell? w5 ⟨w.heap.size, 1, none⟩ = some (.int .i64 (ofSh s).o1) := (HPr.out.ext X.out) 1 _ rfl; have c2 : World.cell? w5 ⟨w.heap.size, 2, none⟩ = some (.int .i64 (ofSh s).o2) := (HPr.out.ext X.out) 2 _ rfl; have c3 : World.cell? w5 ⟨w.heap.size, 3, none⟩ = some (.int .i64 (ofSh s).a0) := (HPr.out.ext X.out) 3 _ rfl; have c4 : World.cell? w5 ⟨w.heap.size, 4, none⟩ = some (.int .i64 (ofSh s).b0) := (HPr.out.ext X.out) 4 _ rfl; have c5 : World.cell? w5 ⟨w.heap.size, 5, none⟩ = some (.int .i64 (ofSh s).a1) := (HPr.out.ext X.out) 5 _ rfl; have c6 : World.cell? w5 ⟨w.heap.size, 6, none⟩ = some (.int .i64 (ofSh s).b1) := (HPr.out.ext X.out) 6 _ rfl; have c7 : World.cell? w5 ⟨w.heap.size, 7, none⟩ = some (.int .i64 (ofSh s).a2) := (HPr.out.ext X.out) 7 _ rfl; have c8 : World.cell? w5 ⟨w.heap.size, 8, none⟩ = some (.int .i64 (ofSh s).b2) := (HPr.out.ext X.out) 8 _ rfl; have c9 : World.cell? w5 ⟨w.heap.size, 9, none⟩ = some (.int .i64 (ofSh s).ylo) := (HPr.out.ext X.out) 9 _ rfl; have c10 : World.cell? w5 ⟨w.heap.size, 10, none⟩ = some (.int .i64 (ofSh s).yhi) := (HPr.out.ext X.out) 10 _ rfl; have c11 : World.cell? w5 ⟨w.heap.size, 11, none⟩ = some (.int .i64 (ofSh s).off) := (HPr.out.ext X.out) 11 _ rfl; have c12 : World.cell? w5 ⟨w.heap.size, 12, none⟩ = some (.slice ot (ofSh s).tins.length cap) := (HPr.out.ext X.out) 12 _ rfl) | (go_at_call 58; refine (B.out _ (HE0.out.trans (HE.out.trans X.out))).mono ?_; rintro e w6 ⟨rfl, hE6⟩; have X6 := Lib.hid (X.out.trans hE6); clear B; have u0 := cell_ext hE6 t0; have u1 := cell_ext hE6 t1; have u2 := cell_ext hE6 t2; have HZ6 := Lib.hid (HZr.out.ext X6.out); have r0 := HZ6.out.c0; have r1 := HZ6.out.c1; have r2 := HZ6.out.c2; have q0 := HZ6.out.f0; have q1 := HZ6.out.f1; have q2 := HZ6.out.f2; clear hE6 t0 t1 t2 c0 c1 c2 c3 c4 c5 c6 c7 c8 c9 c10 c11 c12))
                  refine bodyPost_ret (v := .tuple #[.agg #[.int .i64 ((a : Int) - 2), .int .i64 ((b : Int) - 2), .int .i64 ((c : Int) - 2)], .bool true]) (results_cellst (n := 3) rfl (by kernel_rfl) (by kernel_rfl) _ (w.heap.size + 1) [.int .i64 ((a : Int) - 2), .int .i64 ((b : Int) - 2), .int .i64 ((c : Int) - 2)] _ rfl (by simp) (by simp) (fun j v hv => ?_)) (by simp) ⟨rfl, ext_set (ext_set (ext_set (HE0.out.trans (HE.out.trans X6.out)) (by omega)) (by omega)) (by omega)⟩
                  match j, hv with
                  | 0, hv => cases hv; go_simp
                  | 1, hv => cases hv; go_simp
                  | 2, hv => cases hv; go_simp
            · obtain rfl : c = 5 := by omega
              have hcI : ¬ ((5 : Nat) : Int) - 2 ≤ 2 := by omega
              go_wp2
              go_roundg (g1 - 1)
              case measure => omega
              case rel => exact ⟨b + 1, by omega, by go_num, HE.out, fun j hj => Hall.out j (by omega)⟩
        · obtain rfl : b = 5 := by omega
          go_wp2
          go_roundg (g0 - 1)
          case measure => omega
          case rel => exact ⟨a + 1, by omega, by go_num, HE.out, fun j hj => Hall.out j (by omega)⟩
    · obtain rfl : a = 5 := by omega
      obtain rfl := Hno.out (fun j hj => Hall.out j (by omega))
      have HZr := Lib.hid (HZ.out.ext HE.out)
      have r0 := HZr.out.c0
      have r1 := HZr.out.c1
      have r2 := HZr.out.c2
      have q0 := HZr.out.f0
      have q1 := HZr.out.f1
      have q2 := HZr.out.f2
      go_wp2
      refine bodyPost_ret (v := .tuple #[.agg #[.int .i64 0, .int .i64 0, .int .i64 0], .bool false]) (results_cellst (n := 3) rfl (by kernel_rfl) (by kernel_rfl) _ (w.heap.size + 1) [.int .i64 0, .int .i64 0, .int .i64 0] _ rfl (by simp) (by simp) (fun j v hv => ?_)) (by simp) ⟨rfl, ext_set (ext_set (ext_set (HE0.out.trans HE.out) (by omega)) (by omega)) (by omega)⟩
      match j, hv with
      | 0, hv => cases hv; go_simp
      | 1, hv => cases hv; go_simp
      | 2, hv => cases hv; go_simp

end Go.Proofs.YtjpekonfjihcoaaGreatDoor
