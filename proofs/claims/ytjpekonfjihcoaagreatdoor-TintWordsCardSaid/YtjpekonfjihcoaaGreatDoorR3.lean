/- Contract: the reference's Years. No condition beyond sheets and mixtures as defined. -/
import Derived.ArgAppend
import Derived.Below
import Derived.BigQuiet
import Derived.Deep.DeepCutAuto
import Derived.Deep.DeepFit
import Derived.Deep.LoopGhost
import Derived.Deep.QuietTactic
import Derived.Deep.RegionHeld
import Derived.Deep.RegionHeld3
import Derived.Deep.RegionWith
import Derived.Defers
import Derived.Laws.EntriesVeiled
import Derived.Laws.OwnMore
import Derived.Lib.Hide
import Derived.Lib.IndexBytes
import Derived.Lib.ItoaNum
import Derived.Lib.SplitLaws
import Derived.LoopIn
import Derived.LoopNIn
import Derived.Maps.AppendAt
import Derived.Maps.Keyed
import Derived.Maps.OwnIn
import Derived.OrdersHeld
import Derived.OwnWalkIn
import Derived.RangeFuncBound
import Derived.RangeFuncCalls
import Derived.RangeFuncLeaves
import Derived.RangeFuncNested
import Derived.Recover
import Derived.RegionIn
import Derived.Shelf.Abstract
import Derived.TacticsIn
import Derived.TacticsInMore
import Derived.Test.YtjpekonfjihcoaaGreatDoorProg
import Derived.WalkKit
import Derived.WalkLawsBesides
import Derived.WalkSpells
import Derived.Test.YtjpekonfjihcoaaGreatDoorM2
import Derived.Test.YtjpekonfjihcoaaGreatDoorM16
import Derived.Test.YtjpekonfjihcoaaGreatDoorM3
import Derived.Test.YtjpekonfjihcoaaGreatDoorM1
import Derived.Test.YtjpekonfjihcoaaGreatDoorR2
import Derived.Test.YtjpekonfjihcoaaGreatDoorM17
namespace Go.TintM
end Go.TintM
set_option linter.unusedVariables false
set_option linter.unusedSimpArgs false
namespace Go.Proofs.YtjpekonfjihcoaaGreatDoor
open Go.RowKit Go.My Go.TintM

/-- The boxes of Years. -/
structure YB (s : Sh) (ot : Option Addr) (cap : Nat) (w W : World) (a b : Int) : Prop where
  ext : Ext w W
  box : SheetBox W w.heap.size (ofSh s) ot cap
  c0 : W.cell? ⟨w.heap.size + 1 + 1, 0, none⟩ = some (.int .i64 a)
  c1 : W.cell? ⟨w.heap.size + 1 + 1, 1, none⟩ = some (.int .i64 b)
  f0 : W.frozen? ⟨w.heap.size + 1 + 1, 0, none⟩ = false
  f1 : W.frozen? ⟨w.heap.size + 1 + 1, 1, none⟩ = false
  r0 : W.cell? ⟨w.heap.size + 1, 0, none⟩ = some (.int .i64 0)
  r1 : W.cell? ⟨w.heap.size + 1, 1, none⟩ = some (.int .i64 0)
  q0 : W.frozen? ⟨w.heap.size + 1, 0, none⟩ = false
  q1 : W.frozen? ⟨w.heap.size + 1, 1, none⟩ = false
section
variable {s : Sh} {ot : Option Addr} {cap : Nat} {w W W' : World} {a b : Int}
theorem YB.next (h : YB s ot cap w W a b) (hE : Ext W W') : YB s ot cap w W' a b :=
  have k := World.block_lt_of_cell? _ _ h.c0
  have k1 := World.block_lt_of_cell? _ _ h.r0
  ⟨h.ext.trans hE, h.box.ext hE, cell_ext hE h.c0, cell_ext hE h.c1, (hE.frozen (by exact k)).trans h.f0, (hE.frozen (by exact k)).trans h.f1, cell_ext hE h.r0, cell_ext hE h.r1, (hE.frozen (by exact k1)).trans h.q0, (hE.frozen (by exact k1)).trans h.q1⟩
theorem YB.set (h : YB s ot cap w W a b) {i : Nat} {x : Int} (hi : i < 2) : YB s ot cap w (W.setCell ⟨w.heap.size + 1 + 1, i, none⟩ (.int .i64 x)) (if i = 0 then x else a) (if i = 0 then b else x) := by
  have hT : Turned (w.heap.size + 1 + 1) W (W.setCell ⟨w.heap.size + 1 + 1, i, none⟩ (.int .i64 x)) := (Turned.refl _ _).set i _
  obtain ⟨h1, h2, h3, h4, h5, h6, h7, h8, h9, h10⟩ := h
  refine ⟨ext_own h1 hT (by omega), h2.turned hT (by omega), ?_, ?_, by rw [World.frozen?_setCell]; exact h5, by rw [World.frozen?_setCell]; exact h6, Turned.cell hT (by simp) h7, Turned.cell hT (by simp) h8, by rw [World.frozen?_setCell]; exact h9, by rw [World.frozen?_setCell]; exact h10⟩
  · match i, hi with
    | 0, _ => go_simp
    | 1, _ => go_simp
  · match i, hi with
    | 0, _ => go_simp
    | 1, _ => go_simp
end
theorem yearsTo_all {s : Sh} {m : List Nat} {k : Nat} (h0 : may s m 0 (s.ylo + k) = true) (h1 : may s m 1 (s.ylo + k) = true) (h2 : may s m 2 (s.ylo + k) = true) : yearsTo s m (k + 1) = yearsTo s m k ++ [s.ylo + k] :=
  yearsTo_yes fun p hp => by
    match p, hp with
    | 0, _ => exact h0
    | 1, _ => exact h1
    | 2, _ => exact h2
def fstY (l : List Nat) : Nat := l.headD 0
def anyY (l : List Nat) : Bool := !l.isEmpty
theorem any_more (l : List Nat) (x : Nat) : anyY (l ++ [x]) = true := by simp [anyY]
theorem any_iff {l : List Nat} : anyY l = true ↔ l ≠ [] := by cases l <;> simp [anyY]
def lstY (l : List Nat) : Nat := l.getLastD 0
theorem fst_more {l : List Nat} (h : l ≠ []) (x : Nat) : fstY (l ++ [x]) = fstY l := by cases l with
  | nil => exact absurd rfl h
  | cons a l => rfl
theorem fst_one (x : Nat) : fstY ([] ++ [x]) = x := rfl
theorem lst_more (l : List Nat) (x : Nat) : lstY (l ++ [x]) = x := by simp [lstY, List.getLastD_eq_getLast?]

set_option maxRecDepth 100000 in
set_option maxHeartbeats 8000000 in
theorem rYears_any (s : Sh) (g : Fine s) (m : List Nat) (hm : IsMix s m) (ot : Option Addr) (cap : Nat) (om : Option Addr) (cm : Nat) (w : World) (h : TinsAt w ot (ofSh s).tins) (hi : IntsAt w om (upL m)) :
    Calls Tryz.prog 30 #[sheetV (ofSh s) ot cap, .slice om m.length cm] w fun e w' => e = .returned (.tuple #[spanV (fstY (yearsOf s m) : Nat) (lstY (yearsOf s m) : Nat), .bool (anyY (yearsOf s m))]) ∧ Ext w w' := by
  have R := Lib.hid (fun p (hp : p < 3) y (hy : y ≤ 20) W (hW : Ext w W) => can_any s g m hm ot cap om cm p y hp hy W (h.ext hW) (hi.ext hW))
  have hy1 := g.ylo
  have hy2 := g.yhi
  have Hend := Lib.hid (yearsTo_end s m)
  clear h hi hm g
  go_enter Tryz.func30, Tryz.ntmps30
  go_wp2
  obtain ⟨w0, hw0⟩ : ∃ W, W = ((w.alloc (.cells (sheetC (ofSh s) ot cap) 28)).alloc (.cells #[.int .i64 0, .int .i64 0] 24)).alloc (.cells #[.int .i64 0, .int .i64 0] 24) := ⟨_, rfl⟩
  have hB0 : YB s ot cap w w0 0 0 := by
    rw [hw0]
    refine ⟨(((Ext.refl w).alloc _).alloc _).alloc _, (SheetBox.new w (ofSh s) ot cap).ext (((Ext.refl _).alloc _).alloc _), by go_simp, by go_simp, by go_simp, by go_simp, by go_simp, by go_simp, by go_simp, by go_simp⟩
  have B0 := Lib.hid hB0
  rw [← hw0]
  clear hw0 hB0
  go_loopg [7, 8] (s.yhi + 1 - s.ylo) (fun g f y wr => ∃ i Y : Nat, Y = s.ylo + i ∧ i + g = s.yhi + 1 - s.ylo ∧ y = .int .i64 (Y : Nat) ∧ f = .bool (anyY (yearsTo s m i)) ∧ YB s ot cap w wr (fstY (yearsTo s m i)) (lstY (yearsTo s m i)))
  case atStart => exact ⟨0, s.ylo, by omega, by omega, rfl, rfl, B0.out⟩
  case round =>
    clear B0
    obtain ⟨i, Y, hY, hi, rfl, rfl, hB⟩ := hrel
    have B := Lib.hid hB
    clear hB
    have c0 := B.out.box 0 _ rfl; have c1 := B.out.box 1 _ rfl; have c2 := B.out.box 2 _ rfl; have c3 := B.out.box 3 _ rfl; have c4 := B.out.box 4 _ rfl; have c5 := B.out.box 5 _ rfl; have c6 := B.out.box 6 _ rfl; have c7 := B.out.box 7 _ rfl; have c8 := B.out.box 8 _ rfl; have c9 := B.out.box 9 _ rfl; have c10 := B.out.box 10 _ rfl; have c11 := B.out.box 11 _ rfl; have c12 := B.out.box 12 _ rfl; have d0 := B.out.c0; have d1 := B.out.c1
    by_cases hlt : i < s.yhi + 1 - s.ylo
    · have hYy : Y ≤ s.yhi := by omega
      have hle : (Y : Int) ≤ (ofSh s).yhi := by show (Y : Int) ≤ (s.yhi : Int); omega
      have HY := Lib.hid hY
      clear hY
      have q0 : IntKind.i64.wrap ((Y : Int) + 1) = (Y : Int) + 1 := by rw [IntWalk.i64_in _ (by omega)]
      cases hm0 : may s m 0 Y with
      | false =>
        have C0 := Lib.hid (show ∀ W, Ext w W → Calls Tryz.prog 84 #[sheetV (ofSh s) ot cap, .slice om m.length cm, .int .i64 0, .int .i64 (Y : Nat)] W fun e w' => e = .returned (.bool false) ∧ Ext W w' from fun W hW => by have := R.out 0 (by omega) Y (by omega) W hW; rw [hm0] at this; exact this)

        have Hn := Lib.hid (yearsTo_no (s := s) (m := m) (k := i) (p := 0) (by omega) (by rw [← HY.out]; exact hm0))
        go_wp2_with (first | (go_at_call 84; refine (C0.out _ B.out.ext).mono ?_; rintro e w5 ⟨rfl, hE5⟩; replace B := Lib.hid (B.out.next hE5); clear hE5 d0 d1 C0 c0 c1 c2 c3 c4 c5 c6 c7 c8 c9 c10 c11 c12; have c0 := B.out.box 0 _ rfl; have c1 := B.out.box 1 _ rfl; have c2 := B.out.box 2 _ rfl; have c3 := B.out.box 3 _ rfl; have c4 := B.out.box 4 _ rfl; have c5 := B.out.box 5 _ rfl; have c6 := B.out.box 6 _ rfl; have c7 := B.out.box 7 _ rfl; have c8 := B.out.box 8 _ rfl; have c9 := B.out.box 9 _ rfl; have c10 := B.out.box 10 _ rfl; have c11 := B.out.box 11 _ rfl; have c12 := B.out.box 12 _ rfl; have d0 := B.out.c0; have d1 := B.out.c1))
        clear d0 d1 c0 c1 c2 c3 c4 c5 c6 c7 c8 c9 c10 c11 c12
        go_roundg (gk - 1)
        case measure => omega
        case rel => exact ⟨i + 1, Y + 1, by rw [HY.out]; omega, by omega, by go_num, by rw [Hn.out], by rw [Hn.out]; exact B.out⟩
      | true =>
        have C0 := Lib.hid (show ∀ W, Ext w W → Calls Tryz.prog 84 #[sheetV (ofSh s) ot cap, .slice om m.length cm, .int .i64 0, .int .i64 (Y : Nat)] W fun e w' => e = .returned (.bool true) ∧ Ext W w' from fun W hW => by have := R.out 0 (by omega) Y (by omega) W hW; rw [hm0] at this; exact this)

        cases hm1 : may s m 1 Y with
        | false =>
          have C1 := Lib.hid (show ∀ W, Ext w W → Calls Tryz.prog 84 #[sheetV (ofSh s) ot cap, .slice om m.length cm, .int .i64 1, .int .i64 (Y : Nat)] W fun e w' => e = .returned (.bool false) ∧ Ext W w' from fun W hW => by have := R.out 1 (by omega) Y (by omega) W hW; rw [hm1] at this; exact this)

          have Hn := Lib.hid (yearsTo_no (s := s) (m := m) (k := i) (p := 1) (by omega) (by rw [← HY.out]; exact hm1))
          go_wp2_with (first | (go_at_call 84; refine (C0.out _ B.out.ext).mono ?_; rintro e w5 ⟨rfl, hE5⟩; replace B := Lib.hid (B.out.next hE5); clear hE5 d0 d1 C0 c0 c1 c2 c3 c4 c5 c6 c7 c8 c9 c10 c11 c12; have c0 := B.out.box 0 _ rfl; have c1 := B.out.box 1 _ rfl; have c2 := B.out.box 2 _ rfl; have c3 := B.out.box 3 _ rfl; have c4 := B.out.box 4 _ rfl; have c5 := B.out.box 5 _ rfl; have c6 := B.out.box 6 _ rfl; have c7 := B.out.box 7 _ rfl; have c8 := B.out.box 8 _ rfl; have c9 := B.out.box 9 _ rfl; have c10 := B.out.box 10 _ rfl; have c11 := B.out.box 11 _ rfl; have c12 := B.out.box 12 _ rfl; have d0 := B.out.c0; have d1 := B.out.c1) | (go_at_call 84; refine (C1.out _ B.out.ext).mono ?_; rintro e w5 ⟨rfl, hE5⟩; replace B := Lib.hid (B.out.next hE5); clear hE5 d0 d1 C1 c0 c1 c2 c3 c4 c5 c6 c7 c8 c9 c10 c11 c12; have c0 := B.out.box 0 _ rfl; have c1 := B.out.box 1 _ rfl; have c2 := B.out.box 2 _ rfl; have c3 := B.out.box 3 _ rfl; have c4 := B.out.box 4 _ rfl; have c5 := B.out.box 5 _ rfl; have c6 := B.out.box 6 _ rfl; have c7 := B.out.box 7 _ rfl; have c8 := B.out.box 8 _ rfl; have c9 := B.out.box 9 _ rfl; have c10 := B.out.box 10 _ rfl; have c11 := B.out.box 11 _ rfl; have c12 := B.out.box 12 _ rfl; have d0 := B.out.c0; have d1 := B.out.c1))
          clear d0 d1 c0 c1 c2 c3 c4 c5 c6 c7 c8 c9 c10 c11 c12
          go_roundg (gk - 1)
          case measure => omega
          case rel => exact ⟨i + 1, Y + 1, by rw [HY.out]; omega, by omega, by go_num, by rw [Hn.out], by rw [Hn.out]; exact B.out⟩
        | true =>
          have C1 := Lib.hid (show ∀ W, Ext w W → Calls Tryz.prog 84 #[sheetV (ofSh s) ot cap, .slice om m.length cm, .int .i64 1, .int .i64 (Y : Nat)] W fun e w' => e = .returned (.bool true) ∧ Ext W w' from fun W hW => by have := R.out 1 (by omega) Y (by omega) W hW; rw [hm1] at this; exact this)

          cases hm2 : may s m 2 Y with
          | false =>
            have C2 := Lib.hid (show ∀ W, Ext w W → Calls Tryz.prog 84 #[sheetV (ofSh s) ot cap, .slice om m.length cm, .int .i64 2, .int .i64 (Y : Nat)] W fun e w' => e = .returned (.bool false) ∧ Ext W w' from fun W hW => by have := R.out 2 (by omega) Y (by omega) W hW; rw [hm2] at this; exact this)

            have Hn := Lib.hid (yearsTo_no (s := s) (m := m) (k := i) (p := 2) (by omega) (by rw [← HY.out]; exact hm2))
            go_wp2_with (first | (go_at_call 84; refine (C0.out _ B.out.ext).mono ?_; rintro e w5 ⟨rfl, hE5⟩; replace B := Lib.hid (B.out.next hE5); clear hE5 d0 d1 C0 c0 c1 c2 c3 c4 c5 c6 c7 c8 c9 c10 c11 c12; have c0 := B.out.box 0 _ rfl; have c1 := B.out.box 1 _ rfl; have c2 := B.out.box 2 _ rfl; have c3 := B.out.box 3 _ rfl; have c4 := B.out.box 4 _ rfl; have c5 := B.out.box 5 _ rfl; have c6 := B.out.box 6 _ rfl; have c7 := B.out.box 7 _ rfl; have c8 := B.out.box 8 _ rfl; have c9 := B.out.box 9 _ rfl; have c10 := B.out.box 10 _ rfl; have c11 := B.out.box 11 _ rfl; have c12 := B.out.box 12 _ rfl; have d0 := B.out.c0; have d1 := B.out.c1) | (go_at_call 84; refine (C1.out _ B.out.ext).mono ?_; rintro e w5 ⟨rfl, hE5⟩; replace B := Lib.hid (B.out.next hE5); clear hE5 d0 d1 C1 c0 c1 c2 c3 c4 c5 c6 c7 c8 c9 c10 c11 c12; have c0 := B.out.box 0 _ rfl; have c1 := B.out.box 1 _ rfl; have c2 := B.out.box 2 _ rfl; have c3 := B.out.box 3 _ rfl; have c4 := B.out.box 4 _ rfl; have c5 := B.out.box 5 _ rfl; have c6 := B.out.box 6 _ rfl; have c7 := B.out.box 7 _ rfl; have c8 := B.out.box 8 _ rfl; have c9 := B.out.box 9 _ rfl; have c10 := B.out.box 10 _ rfl; have c11 := B.out.box 11 _ rfl; have c12 := B.out.box 12 _ rfl; have d0 := B.out.c0; have d1 := B.out.c1) | (go_at_call 84; refine (C2.out _ B.out.ext).mono ?_; rintro e w5 ⟨rfl, hE5⟩; replace B := Lib.hid (B.out.next hE5); clear hE5 d0 d1 C2 c0 c1 c2 c3 c4 c5 c6 c7 c8 c9 c10 c11 c12; have c0 := B.out.box 0 _ rfl; have c1 := B.out.box 1 _ rfl; have c2 := B.out.box 2 _ rfl; have c3 := B.out.box 3 _ rfl; have c4 := B.out.box 4 _ rfl; have c5 := B.out.box 5 _ rfl; have c6 := B.out.box 6 _ rfl; have c7 := B.out.box 7 _ rfl; have c8 := B.out.box 8 _ rfl; have c9 := B.out.box 9 _ rfl; have c10 := B.out.box 10 _ rfl; have c11 := B.out.box 11 _ rfl; have c12 := B.out.box 12 _ rfl; have d0 := B.out.c0; have d1 := B.out.c1))
            clear d0 d1 c0 c1 c2 c3 c4 c5 c6 c7 c8 c9 c10 c11 c12
            go_roundg (gk - 1)
            case measure => omega
            case rel => exact ⟨i + 1, Y + 1, by rw [HY.out]; omega, by omega, by go_num, by rw [Hn.out], by rw [Hn.out]; exact B.out⟩
          | true =>
            have C2 := Lib.hid (show ∀ W, Ext w W → Calls Tryz.prog 84 #[sheetV (ofSh s) ot cap, .slice om m.length cm, .int .i64 2, .int .i64 (Y : Nat)] W fun e w' => e = .returned (.bool true) ∧ Ext W w' from fun W hW => by have := R.out 2 (by omega) Y (by omega) W hW; rw [hm2] at this; exact this)

            have Hn := Lib.hid (yearsTo_all (s := s) (m := m) (k := i) (by rw [← HY.out]; exact hm0) (by rw [← HY.out]; exact hm1) (by rw [← HY.out]; exact hm2))
            by_cases hnil : yearsTo s m i = []
            · have hdn : anyY (yearsTo s m i) = false := by rw [hnil]; rfl
              go_wp2_with (first | (go_at_call 84; refine (C0.out _ B.out.ext).mono ?_; rintro e w5 ⟨rfl, hE5⟩; replace B := Lib.hid (B.out.next hE5); clear hE5 d0 d1 C0 c0 c1 c2 c3 c4 c5 c6 c7 c8 c9 c10 c11 c12; have c0 := B.out.box 0 _ rfl; have c1 := B.out.box 1 _ rfl; have c2 := B.out.box 2 _ rfl; have c3 := B.out.box 3 _ rfl; have c4 := B.out.box 4 _ rfl; have c5 := B.out.box 5 _ rfl; have c6 := B.out.box 6 _ rfl; have c7 := B.out.box 7 _ rfl; have c8 := B.out.box 8 _ rfl; have c9 := B.out.box 9 _ rfl; have c10 := B.out.box 10 _ rfl; have c11 := B.out.box 11 _ rfl; have c12 := B.out.box 12 _ rfl; have d0 := B.out.c0; have d1 := B.out.c1) | (go_at_call 84; refine (C1.out _ B.out.ext).mono ?_; rintro e w5 ⟨rfl, hE5⟩; replace B := Lib.hid (B.out.next hE5); clear hE5 d0 d1 C1 c0 c1 c2 c3 c4 c5 c6 c7 c8 c9 c10 c11 c12; have c0 := B.out.box 0 _ rfl; have c1 := B.out.box 1 _ rfl; have c2 := B.out.box 2 _ rfl; have c3 := B.out.box 3 _ rfl; have c4 := B.out.box 4 _ rfl; have c5 := B.out.box 5 _ rfl; have c6 := B.out.box 6 _ rfl; have c7 := B.out.box 7 _ rfl; have c8 := B.out.box 8 _ rfl; have c9 := B.out.box 9 _ rfl; have c10 := B.out.box 10 _ rfl; have c11 := B.out.box 11 _ rfl; have c12 := B.out.box 12 _ rfl; have d0 := B.out.c0; have d1 := B.out.c1) | (go_at_call 84; refine (C2.out _ B.out.ext).mono ?_; rintro e w5 ⟨rfl, hE5⟩; replace B := Lib.hid (B.out.next hE5); clear hE5 d0 d1 C2 c0 c1 c2 c3 c4 c5 c6 c7 c8 c9 c10 c11 c12; have c0 := B.out.box 0 _ rfl; have c1 := B.out.box 1 _ rfl; have c2 := B.out.box 2 _ rfl; have c3 := B.out.box 3 _ rfl; have c4 := B.out.box 4 _ rfl; have c5 := B.out.box 5 _ rfl; have c6 := B.out.box 6 _ rfl; have c7 := B.out.box 7 _ rfl; have c8 := B.out.box 8 _ rfl; have c9 := B.out.box 9 _ rfl; have c10 := B.out.box 10 _ rfl; have c11 := B.out.box 11 _ rfl; have c12 := B.out.box 12 _ rfl; have d0 := B.out.c0; have d1 := B.out.c1; have ff0 := B.out.f0; have ff1 := B.out.f1))
              clear d0 d1 c0 c1 c2 c3 c4 c5 c6 c7 c8 c9 c10 c11 c12 ff0 ff1
              go_roundg (gk - 1)
              case measure => omega
              case rel => exact ⟨i + 1, Y + 1, by rw [HY.out]; omega, by omega, by go_num, by rw [Hn.out, any_more], by rw [Hn.out, lst_more, hnil, fst_one, ← HY.out]; exact (B.out.set (i := 0) (x := Y) (by omega)).set (i := 1) (x := Y) (by omega)⟩
            · have hdn : anyY (yearsTo s m i) = true := any_iff.2 hnil
              go_wp2_with (first | (go_at_call 84; refine (C0.out _ B.out.ext).mono ?_; rintro e w5 ⟨rfl, hE5⟩; replace B := Lib.hid (B.out.next hE5); clear hE5 d0 d1 C0 c0 c1 c2 c3 c4 c5 c6 c7 c8 c9 c10 c11 c12; have c0 := B.out.box 0 _ rfl; have c1 := B.out.box 1 _ rfl; have c2 := B.out.box 2 _ rfl; have c3 := B.out.box 3 _ rfl; have c4 := B.out.box 4 _ rfl; have c5 := B.out.box 5 _ rfl; have c6 := B.out.box 6 _ rfl; have c7 := B.out.box 7 _ rfl; have c8 := B.out.box 8 _ rfl; have c9 := B.out.box 9 _ rfl; have c10 := B.out.box 10 _ rfl; have c11 := B.out.box 11 _ rfl; have c12 := B.out.box 12 _ rfl; have d0 := B.out.c0; have d1 := B.out.c1) | (go_at_call 84; refine (C1.out _ B.out.ext).mono ?_; rintro e w5 ⟨rfl, hE5⟩; replace B := Lib.hid (B.out.next hE5); clear hE5 d0 d1 C1 c0 c1 c2 c3 c4 c5 c6 c7 c8 c9 c10 c11 c12; have c0 := B.out.box 0 _ rfl; have c1 := B.out.box 1 _ rfl; have c2 := B.out.box 2 _ rfl; have c3 := B.out.box 3 _ rfl; have c4 := B.out.box 4 _ rfl; have c5 := B.out.box 5 _ rfl; have c6 := B.out.box 6 _ rfl; have c7 := B.out.box 7 _ rfl; have c8 := B.out.box 8 _ rfl; have c9 := B.out.box 9 _ rfl; have c10 := B.out.box 10 _ rfl; have c11 := B.out.box 11 _ rfl; have c12 := B.out.box 12 _ rfl; have d0 := B.out.c0; have d1 := B.out.c1) | (go_at_call 84; refine (C2.out _ B.out.ext).mono ?_; rintro e w5 ⟨rfl, hE5⟩; replace B := Lib.hid (B.out.next hE5); clear hE5 d0 d1 C2 c0 c1 c2 c3 c4 c5 c6 c7 c8 c9 c10 c11 c12; have c0 := B.out.box 0 _ rfl; have c1 := B.out.box 1 _ rfl; have c2 := B.out.box 2 _ rfl; have c3 := B.out.box 3 _ rfl; have c4 := B.out.box 4 _ rfl; have c5 := B.out.box 5 _ rfl; have c6 := B.out.box 6 _ rfl; have c7 := B.out.box 7 _ rfl; have c8 := B.out.box 8 _ rfl; have c9 := B.out.box 9 _ rfl; have c10 := B.out.box 10 _ rfl; have c11 := B.out.box 11 _ rfl; have c12 := B.out.box 12 _ rfl; have d0 := B.out.c0; have d1 := B.out.c1; have ff0 := B.out.f0; have ff1 := B.out.f1))
              clear d0 d1 c0 c1 c2 c3 c4 c5 c6 c7 c8 c9 c10 c11 c12 ff0 ff1
              go_roundg (gk - 1)
              case measure => omega
              case rel => exact ⟨i + 1, Y + 1, by rw [HY.out]; omega, by omega, by go_num, by rw [Hn.out, any_more], by rw [Hn.out, lst_more, fst_more hnil, ← HY.out]; exact B.out.set (i := 1) (x := Y) (by omega)⟩
    · have hle : ¬ (Y : Int) ≤ (ofSh s).yhi := by show ¬ (Y : Int) ≤ (s.yhi : Int); omega
      clear hY
      have hii : i = s.yhi + 1 - s.ylo := by omega
      clear hlt hi
      have hys : yearsTo s m i = yearsOf s m := by rw [hii]; exact Hend.out
      clear hii
      rw [hys] at B ⊢
      have d0 := B.out.c0
      have d1 := B.out.c1
      have r0 := B.out.r0
      have r1 := B.out.r1
      have g0 := B.out.q0
      have g1 := B.out.q1
      go_wp2
      refine bodyPost_ret (v := .tuple #[spanV (fstY (yearsOf s m) : Nat) (lstY (yearsOf s m) : Nat), .bool (anyY (yearsOf s m))]) (results_cellst (n := 2) rfl (by kernel_rfl) (by kernel_rfl) _ (w.heap.size + 1) [.int .i64 (fstY (yearsOf s m) : Nat), .int .i64 (lstY (yearsOf s m) : Nat)] _ rfl (by simp) (by simp) (fun j v hv => ?_)) (by simp) ⟨rfl, ?_⟩
      · match j, hv with
        | 0, hv => cases hv; go_simp
        | 1, hv => cases hv; go_simp
      · exact ext_set (ext_set B.out.ext (by omega)) (by omega)

end Go.Proofs.YtjpekonfjihcoaaGreatDoor
