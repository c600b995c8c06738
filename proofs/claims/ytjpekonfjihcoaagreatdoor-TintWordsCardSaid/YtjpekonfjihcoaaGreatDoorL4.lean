/- The walk of TintWords: it answers true. No condition. -/
import Derived.ArgAppend
import Derived.Below
import Derived.BigQuiet
import Derived.Deep.DeepCutAuto
import Derived.Deep.DeepFit
import Derived.Deep.LoopGhost
import Derived.Deep.QuietTactic
import Derived.Deep.RegionHeld
import Derived.Deep.RegionHeld3
import Derived.Deep.RegionWith
import Derived.Deep.Upon
import Derived.Defers
import Derived.Laws.BytesArg
import Derived.Laws.EntriesVeiled
import Derived.Laws.OwnMore
import Derived.Lib.Hide
import Derived.Lib.IndexBytes
import Derived.Lib.ItoaNum
import Derived.Lib.SplitLaws
import Derived.LoopIn
import Derived.LoopNIn
import Derived.Maps.AppendAt
import Derived.Maps.Keyed
import Derived.Maps.OwnIn
import Derived.OrdersHeld
import Derived.OwnWalkIn
import Derived.RangeFuncBound
import Derived.RangeFuncCalls
import Derived.RangeFuncLeaves
import Derived.RangeFuncNested
import Derived.Recover
import Derived.RegionIn
import Derived.Shelf.Abstract
import Derived.Shelf.Strconv.Itoa3
import Derived.Shelf.Strings.Split
import Derived.TacticsIn
import Derived.TacticsInMore
import Derived.Test.YtjpekonfjihcoaaGreatDoorProg
import Derived.WalkKit
import Derived.WalkLawsBesides
import Derived.WalkSpells
import Derived.Test.YtjpekonfjihcoaaGreatDoorM2
import Derived.Test.YtjpekonfjihcoaaGreatDoorM19
import Derived.Test.YtjpekonfjihcoaaGreatDoorM5
import Derived.Test.YtjpekonfjihcoaaGreatDoorM4
import Derived.Test.YtjpekonfjihcoaaGreatDoorR5
import Derived.Test.YtjpekonfjihcoaaGreatDoorM3
import Derived.Test.YtjpekonfjihcoaaGreatDoorM27
import Derived.Test.YtjpekonfjihcoaaGreatDoorM1
import Derived.Test.YtjpekonfjihcoaaGreatDoorM17
import Derived.Test.YtjpekonfjihcoaaGreatDoorR3
import Derived.Test.YtjpekonfjihcoaaGreatDoorM33
namespace Go.TintM
end Go.TintM
set_option linter.unusedVariables false
set_option linter.unusedSimpArgs false
namespace Go.Proofs.YtjpekonfjihcoaaGreatDoor
open Go.RowKit Go.My Go.TintM

attribute [local go_sem] eq24
theorem years_ends {Y : List Nat} (h : Y ≠ []) : fstY Y = Y.getD 0 0 ∧ lstY Y = Y.getD (Y.length - 1) 0 ∧ ¬ Y.length = 0 := by
  cases Y with
  | nil => exact absurd rfl h
  | cons a l =>
    refine ⟨rfl, ?_, by simp⟩
    simp [lstY, List.getLastD_eq_getLast?, List.getLast?_eq_getElem?, List.getD_eq_getElem?_getD]

set_option maxRecDepth 100000 in
set_option maxHeartbeats 4000000 in
theorem law4g {s : Sh} (g : Fine s) {m : List Nat} (hm : IsMix s m) {ot ol : Option Addr} {cap cl : Nat} {w : World} (h : TinsAt w ot (ofSh s).tins) (hi : IntsAt w ol (upL m)) (k : Int) (hk : w.cell? ⟨1, 0, none⟩ = some (.int .i64 k)) :
    Calls Tryz.prog 4 #[sheetV (ofSh s) ot cap, .slice ol m.length cl] w fun e w' => e = .returned (.bool true) ∧ Ext w w' := by
  have B := Lib.hid (LB.start (cap := cap) h)
  have R21 := Lib.hid (fun W => short_any (ofSh s) ot cap W (by rw [tins_len]; have := g.len2; omega))
  rw [decide_eq_true (show (ofSh s).tins.length ≤ 6 by rw [tins_len]; have := g.len2; omega)] at R21
  have R28 := Lib.hid (fun W (hW : LB (ofSh s) ot cap w W) => sWord_ok s g m hm ot cap ol cl W hW.tins (hi.ext hW.ext))
  have R29 := Lib.hid (fun W (hW : LB (ofSh s) ot cap w W) => sYears_ok s g m hm ot cap ol cl W hW.tins (hi.ext hW.ext))
  have R30 := Lib.hid (fun W (hW : LB (ofSh s) ot cap w W) => rYears_any s g m hm ot cap ol cl W hW.tins (hi.ext hW.ext))
  have R31 := Lib.hid (fun W (hW : LB (ofSh s) ot cap w W) => rWord_any s g m hm ot cap ol cl W hW.tins (hi.ext hW.ext))
  have R24 := Lib.hid (fun W (hW : LB (ofSh s) ot cap w W) => rSheet_any (ofSh s) ot cap W hW.tins (by rw [tins_len]; have := g.len2; omega))
  have R25 := Lib.hid (fun W (hW : LB (ofSh s) ot cap w W) => rMix_any (ofSh s) ot cap (upL m) ol cl W (hi.ext hW.ext) (by rw [upL_length]; have := hm.len; have := g.len2; omega))
  rw [upL_length] at R25
  have Rk := Lib.hid (fun (W : World) (hW : LB (ofSh s) ot cap w W) => known_any W k (cell_ext hW.ext hk))
  simp only [sheet_of g, mix_of hm] at R24 R25
  have hml : ¬ (6 : Int) < (m.length : Int) := by have := hm.len; have := g.len2; omega
  clear g hm h hi hk
  generalize wordOf s m = q at *
  generalize yearsOf s m = Y at *
  by_cases hY : Y = []
  · subst hY
    rw [yearsV_none rfl] at R29
    have R30 := Lib.hid (fun W (hW : LB (ofSh s) ot cap w W) => (show Calls Tryz.prog 30 #[sheetV (ofSh s) ot cap, .slice ol m.length cl] W fun e w' => e = .returned (.tuple #[spanV 0 0, .bool false]) ∧ Ext W w' from R30.out W hW))
    go_enter Tryz.func4, Tryz.ntmps4
    go_wp2_with (first | (go_at_call 21; refine (R21.out _).mono ?_; rintro e w9 ⟨rfl, hE9⟩; replace B := Lib.hid (B.out.next hE9); (try clear c0 c1 c2 c3 c4 c5 c6 c7 c8 c9 c10 c11 c12); have c0 := B.out.box 0 _ rfl; have c1 := B.out.box 1 _ rfl; have c2 := B.out.box 2 _ rfl; have c3 := B.out.box 3 _ rfl; have c4 := B.out.box 4 _ rfl; have c5 := B.out.box 5 _ rfl; have c6 := B.out.box 6 _ rfl; have c7 := B.out.box 7 _ rfl; have c8 := B.out.box 8 _ rfl; have c9 := B.out.box 9 _ rfl; have c10 := B.out.box 10 _ rfl; have c11 := B.out.box 11 _ rfl; have c12 := B.out.box 12 _ rfl; clear hE9) | (go_at_call 28; refine (R28.out _ B.out).mono ?_; rintro e w9 ⟨rfl, hE9⟩; replace B := Lib.hid (B.out.next hE9); (try clear c0 c1 c2 c3 c4 c5 c6 c7 c8 c9 c10 c11 c12); have c0 := B.out.box 0 _ rfl; have c1 := B.out.box 1 _ rfl; have c2 := B.out.box 2 _ rfl; have c3 := B.out.box 3 _ rfl; have c4 := B.out.box 4 _ rfl; have c5 := B.out.box 5 _ rfl; have c6 := B.out.box 6 _ rfl; have c7 := B.out.box 7 _ rfl; have c8 := B.out.box 8 _ rfl; have c9 := B.out.box 9 _ rfl; have c10 := B.out.box 10 _ rfl; have c11 := B.out.box 11 _ rfl; have c12 := B.out.box 12 _ rfl; clear hE9) | (go_at_call 29; refine (R29.out _ B.out).mono ?_; rintro e w9 ⟨rfl, hE9⟩; replace B := Lib.hid (B.out.next hE9); (try clear c0 c1 c2 c3 c4 c5 c6 c7 c8 c9 c10 c11 c12); have c0 := B.out.box 0 _ rfl; have c1 := B.out.box 1 _ rfl; have c2 := B.out.box 2 _ rfl; have c3 := B.out.box 3 _ rfl; have c4 := B.out.box 4 _ rfl; have c5 := B.out.box 5 _ rfl; have c6 := B.out.box 6 _ rfl; have c7 := B.out.box 7 _ rfl; have c8 := B.out.box 8 _ rfl; have c9 := B.out.box 9 _ rfl; have c10 := B.out.box 10 _ rfl; have c11 := B.out.box 11 _ rfl; have c12 := B.out.box 12 _ rfl; have hltA := World.block_lt_of_cell? _ _ c0; have hneA := Nat.ne_of_lt hltA; simp only at hltA hneA; replace B := Lib.hid (B.out.alloc (.cells #[.int .i64 0, .int .i64 0] 24)); have Y := Lib.hid (VB.new w9 [.int .i64 0, .int .i64 0] 24); clear hE9) | (go_at_call 24; refine (R24.out _ B.out).mono ?_; rintro e w9 ⟨rfl, hE9⟩; replace B := Lib.hid (B.out.next hE9); (try clear c0 c1 c2 c3 c4 c5 c6 c7 c8 c9 c10 c11 c12); have c0 := B.out.box 0 _ rfl; have c1 := B.out.box 1 _ rfl; have c2 := B.out.box 2 _ rfl; have c3 := B.out.box 3 _ rfl; have c4 := B.out.box 4 _ rfl; have c5 := B.out.box 5 _ rfl; have c6 := B.out.box 6 _ rfl; have c7 := B.out.box 7 _ rfl; have c8 := B.out.box 8 _ rfl; have c9 := B.out.box 9 _ rfl; have c10 := B.out.box 10 _ rfl; have c11 := B.out.box 11 _ rfl; have c12 := B.out.box 12 _ rfl; replace Y := Lib.hid (Y.out.ext hE9); (try clear y0 y1); have y0 := Y.out 0 _ rfl; have y1 := Y.out 1 _ rfl; (try dsimp only at y0 y1); clear hE9) | (go_at_call 25; refine (R25.out _ B.out).mono ?_; rintro e w9 ⟨rfl, hE9⟩; replace B := Lib.hid (B.out.next hE9); (try clear c0 c1 c2 c3 c4 c5 c6 c7 c8 c9 c10 c11 c12); have c0 := B.out.box 0 _ rfl; have c1 := B.out.box 1 _ rfl; have c2 := B.out.box 2 _ rfl; have c3 := B.out.box 3 _ rfl; have c4 := B.out.box 4 _ rfl; have c5 := B.out.box 5 _ rfl; have c6 := B.out.box 6 _ rfl; have c7 := B.out.box 7 _ rfl; have c8 := B.out.box 8 _ rfl; have c9 := B.out.box 9 _ rfl; have c10 := B.out.box 10 _ rfl; have c11 := B.out.box 11 _ rfl; have c12 := B.out.box 12 _ rfl; replace Y := Lib.hid (Y.out.ext hE9); (try clear y0 y1); have y0 := Y.out 0 _ rfl; have y1 := Y.out 1 _ rfl; (try dsimp only at y0 y1); clear hE9) | (go_at_call 30; refine (R30.out _ B.out).mono ?_; rintro e w9 ⟨rfl, hE9⟩; replace B := Lib.hid (B.out.next hE9); (try clear c0 c1 c2 c3 c4 c5 c6 c7 c8 c9 c10 c11 c12); have c0 := B.out.box 0 _ rfl; have c1 := B.out.box 1 _ rfl; have c2 := B.out.box 2 _ rfl; have c3 := B.out.box 3 _ rfl; have c4 := B.out.box 4 _ rfl; have c5 := B.out.box 5 _ rfl; have c6 := B.out.box 6 _ rfl; have c7 := B.out.box 7 _ rfl; have c8 := B.out.box 8 _ rfl; have c9 := B.out.box 9 _ rfl; have c10 := B.out.box 10 _ rfl; have c11 := B.out.box 11 _ rfl; have c12 := B.out.box 12 _ rfl; replace Y := Lib.hid (Y.out.ext hE9); (try clear y0 y1); have y0 := Y.out 0 _ rfl; have y1 := Y.out 1 _ rfl; (try dsimp only at y0 y1); have hltA := World.block_lt_of_cell? _ _ c0; have hneA := Nat.ne_of_lt hltA; simp only at hltA hneA; replace B := Lib.hid (B.out.alloc (.cells #[.int .i64 0, .int .i64 0] 24)); have hlt := World.block_lt_of_cell? _ _ y0; have hne := Nat.ne_of_lt hlt; simp only at hlt hne; clear hE9) | (go_at_call 31; refine (R31.out _ B.out).mono ?_; rintro e w9 ⟨rfl, hE9⟩; replace B := Lib.hid (B.out.next hE9); (try clear c0 c1 c2 c3 c4 c5 c6 c7 c8 c9 c10 c11 c12); have c0 := B.out.box 0 _ rfl; have c1 := B.out.box 1 _ rfl; have c2 := B.out.box 2 _ rfl; have c3 := B.out.box 3 _ rfl; have c4 := B.out.box 4 _ rfl; have c5 := B.out.box 5 _ rfl; have c6 := B.out.box 6 _ rfl; have c7 := B.out.box 7 _ rfl; have c8 := B.out.box 8 _ rfl; have c9 := B.out.box 9 _ rfl; have c10 := B.out.box 10 _ rfl; have c11 := B.out.box 11 _ rfl; have c12 := B.out.box 12 _ rfl; clear hE9) | (go_at_call 22; refine (Rk.out _ B.out).mono ?_; rintro e w9 ⟨rfl, hE9⟩; replace B := Lib.hid (B.out.next hE9); (try clear c0 c1 c2 c3 c4 c5 c6 c7 c8 c9 c10 c11 c12); have c0 := B.out.box 0 _ rfl; have c1 := B.out.box 1 _ rfl; have c2 := B.out.box 2 _ rfl; have c3 := B.out.box 3 _ rfl; have c4 := B.out.box 4 _ rfl; have c5 := B.out.box 5 _ rfl; have c6 := B.out.box 6 _ rfl; have c7 := B.out.box 7 _ rfl; have c8 := B.out.box 8 _ rfl; have c9 := B.out.box 9 _ rfl; have c10 := B.out.box 10 _ rfl; have c11 := B.out.box 11 _ rfl; have c12 := B.out.box 12 _ rfl; clear hE9))
    go_ret
    exact ⟨rfl, B.out.ext⟩
  · obtain ⟨h1, h2, h3⟩ := years_ends hY
    rw [yearsV_some h3, ← h1, ← h2] at R29
    simp only [any_iff.2 hY] at R30
    clear h1 h2 h3 hY
    generalize fstY Y = a at *
    generalize lstY Y = b at *
    go_enter Tryz.func4, Tryz.ntmps4
    go_wp2_with (first | (go_at_call 21; refine (R21.out _).mono ?_; rintro e w9 ⟨rfl, hE9⟩; replace B := Lib.hid (B.out.next hE9); (try clear c0 c1 c2 c3 c4 c5 c6 c7 c8 c9 c10 c11 c12); have c0 := B.out.box 0 _ rfl; have c1 := B.out.box 1 _ rfl; have c2 := B.out.box 2 _ rfl; have c3 := B.out.box 3 _ rfl; have c4 := B.out.box 4 _ rfl; have c5 := B.out.box 5 _ rfl; have c6 := B.out.box 6 _ rfl; have c7 := B.out.box 7 _ rfl; have c8 := B.out.box 8 _ rfl; have c9 := B.out.box 9 _ rfl; have c10 := B.out.box 10 _ rfl; have c11 := B.out.box 11 _ rfl; have c12 := B.out.box 12 _ rfl; clear hE9) | (go_at_call 28; refine (R28.out _ B.out).mono ?_; rintro e w9 ⟨rfl, hE9⟩; replace B := Lib.hid (B.out.next hE9); (try clear c0 c1 c2 c3 c4 c5 c6 c7 c8 c9 c10 c11 c12); have c0 := B.out.box 0 _ rfl; have c1 := B.out.box 1 _ rfl; have c2 := B.out.box 2 _ rfl; have c3 := B.out.box 3 _ rfl; have c4 := B.out.box 4 _ rfl; have c5 := B.out.box 5 _ rfl; have c6 := B.out.box 6 _ rfl; have c7 := B.out.box 7 _ rfl; have c8 := B.out.box 8 _ rfl; have c9 := B.out.box 9 _ rfl; have c10 := B.out.box 10 _ rfl; have c11 := B.out.box 11 _ rfl; have c12 := B.out.box 12 _ rfl; clear hE9) | (go_at_call 29; refine (R29.out _ B.out).mono ?_; rintro e w9 ⟨rfl, hE9⟩; replace B := Lib.hid (B.out.next hE9); (try clear c0 c1 c2 c3 c4 c5 c6 c7 c8 c9 c10 c11 c12); have c0 := B.out.box 0 _ rfl; have c1 := B.out.box 1 _ rfl; have c2 := B.out.box 2 _ rfl; have c3 := B.out.box 3 _ rfl; have c4 := B.out.box 4 _ rfl; have c5 := B.out.box 5 _ rfl; have c6 := B.out.box 6 _ rfl; have c7 := B.out.box 7 _ rfl; have c8 := B.out.box 8 _ rfl; have c9 := B.out.box 9 _ rfl; have c10 := B.out.box 10 _ rfl; have c11 := B.out.box 11 _ rfl; have c12 := B.out.box 12 _ rfl; have hltA := World.block_lt_of_cell? _ _ c0; have hneA := Nat.ne_of_lt hltA; simp only at hltA hneA; replace B := Lib.hid (B.out.alloc (.cells #[.int .i64 (a : Nat), .int .i64 (b : Nat)] 24)); have Y := Lib.hid (VB.new w9 [.int .i64 (a : Nat), .int .i64 (b : Nat)] 24); clear hE9) | (go_at_call 24; refine (R24.out _ B.out).mono ?_; rintro e w9 ⟨rfl, hE9⟩; replace B := Lib.hid (B.out.next hE9); (try clear c0 c1 c2 c3 c4 c5 c6 c7 c8 c9 c10 c11 c12); have c0 := B.out.box 0 _ rfl; have c1 := B.out.box 1 _ rfl; have c2 := B.out.box 2 _ rfl; have c3 := B.out.box 3 _ rfl; have c4 := B.out.box 4 _ rfl; have c5 := B.out.box 5 _ rfl; have c6 := B.out.box 6 _ rfl; have c7 := B.out.box 7 _ rfl; have c8 := B.out.box 8 _ rfl; have c9 := B.out.box 9 _ rfl; have c10 := B.out.box 10 _ rfl; have c11 := B.out.box 11 _ rfl; have c12 := B.out.box 12 _ rfl; replace Y := Lib.hid (Y.out.ext hE9); (try clear y0 y1); have y0 := Y.out 0 _ rfl; have y1 := Y.out 1 _ rfl; (try dsimp only at y0 y1); clear hE9) | (go_at_call 25; refine (R25.out _ B.out).mono ?_; rintro e w9 ⟨rfl, hE9⟩; replace B := Lib.hid (B.out.next hE9); (try clear c0 c1 c2 c3 c4 c5 c6 c7 c8 c9 c10 c11 c12); have c0 := B.out.box 0 _ rfl; have c1 := B.out.box 1 _ rfl; have c2 := B.out.box 2 _ rfl; have c3 := B.out.box 3 _ rfl; have c4 := B.out.box 4 _ rfl; have c5 := B.out.box 5 _ rfl; have c6 := B.out.box 6 _ rfl; have c7 := B.out.box 7 _ rfl; have c8 := B.out.box 8 _ rfl; have c9 := B.out.box 9 _ rfl; have c10 := B.out.box 10 _ rfl; have c11 := B.out.box 11 _ rfl; have c12 := B.out.box 12 _ rfl; replace Y := Lib.hid (Y.out.ext hE9); (try clear y0 y1); have y0 := Y.out 0 _ rfl; have y1 := Y.out 1 _ rfl; (try dsimp only at y0 y1); clear hE9) | (go_at_call 30; refine (R30.out _ B.out).mono ?_; rintro e w9 ⟨rfl, hE9⟩; replace B := Lib.hid (B.out.next hE9); (try clear c0 c1 c2 c3 c4 c5 c6 c7 c8 c9 c10 c11 c12); have c0 := B.out.box 0 _ rfl; have c1 := B.out.box 1 _ rfl; have c2 := B.out.box 2 _ rfl; have c3 := B.out.box 3 _ rfl; have c4 := B.out.box 4 _ rfl; have c5 := B.out.box 5 _ rfl; have c6 := B.out.box 6 _ rfl; have c7 := B.out.box 7 _ rfl; have c8 := B.out.box 8 _ rfl; have c9 := B.out.box 9 _ rfl; have c10 := B.out.box 10 _ rfl; have c11 := B.out.box 11 _ rfl; have c12 := B.out.box 12 _ rfl; replace Y := Lib.hid (Y.out.ext hE9); (try clear y0 y1); have y0 := Y.out 0 _ rfl; have y1 := Y.out 1 _ rfl; (try dsimp only at y0 y1); have hltA := World.block_lt_of_cell? _ _ c0; have hneA := Nat.ne_of_lt hltA; simp only at hltA hneA; replace B := Lib.hid (B.out.alloc (.cells #[.int .i64 (a : Nat), .int .i64 (b : Nat)] 24)); have hlt := World.block_lt_of_cell? _ _ y0; have hne := Nat.ne_of_lt hlt; simp only at hlt hne; clear hE9) | (go_at_call 31; refine (R31.out _ B.out).mono ?_; rintro e w9 ⟨rfl, hE9⟩; replace B := Lib.hid (B.out.next hE9); (try clear c0 c1 c2 c3 c4 c5 c6 c7 c8 c9 c10 c11 c12); have c0 := B.out.box 0 _ rfl; have c1 := B.out.box 1 _ rfl; have c2 := B.out.box 2 _ rfl; have c3 := B.out.box 3 _ rfl; have c4 := B.out.box 4 _ rfl; have c5 := B.out.box 5 _ rfl; have c6 := B.out.box 6 _ rfl; have c7 := B.out.box 7 _ rfl; have c8 := B.out.box 8 _ rfl; have c9 := B.out.box 9 _ rfl; have c10 := B.out.box 10 _ rfl; have c11 := B.out.box 11 _ rfl; have c12 := B.out.box 12 _ rfl; clear hE9) | (go_at_call 22; refine (Rk.out _ B.out).mono ?_; rintro e w9 ⟨rfl, hE9⟩; replace B := Lib.hid (B.out.next hE9); (try clear c0 c1 c2 c3 c4 c5 c6 c7 c8 c9 c10 c11 c12); have c0 := B.out.box 0 _ rfl; have c1 := B.out.box 1 _ rfl; have c2 := B.out.box 2 _ rfl; have c3 := B.out.box 3 _ rfl; have c4 := B.out.box 4 _ rfl; have c5 := B.out.box 5 _ rfl; have c6 := B.out.box 6 _ rfl; have c7 := B.out.box 7 _ rfl; have c8 := B.out.box 8 _ rfl; have c9 := B.out.box 9 _ rfl; have c10 := B.out.box 10 _ rfl; have c11 := B.out.box 11 _ rfl; have c12 := B.out.box 12 _ rfl; clear hE9))
    go_ret
    exact ⟨rfl, B.out.ext⟩

set_option maxRecDepth 100000 in
set_option maxHeartbeats 4000000 in
theorem law4 {S : SI} {l : List Int} {ot ol : Option Addr} {cap cl : Nat} {w : World} (h : SArg w S ot cap) (hl : LArg w l ol cl) (k : Int) (hk : w.cell? ⟨1, 0, none⟩ = some (.int .i64 k)) :
    Calls Tryz.prog 4 #[sheetV S ot cap, .slice ol l.length cl] w fun e w' => e = .returned (.bool true) ∧ Ext w w' := by
  have B := Lib.hid (LB.start (cap := cap) h.tins)
  have R21 := Lib.hid (fun W => short_any S ot cap W h.small)
  have R24 := Lib.hid (fun W (hW : LB S ot cap w W) => rSheet_any S ot cap W hW.tins h.small)
  have Rk := Lib.hid (fun (W : World) (hW : LB S ot cap w W) => known_any W k (cell_ext hW.ext hk))
  by_cases h6 : S.tins.length ≤ 6
  · rw [decide_eq_true h6] at R21
    by_cases hl6 : l.length ≤ 6
    · have hl6I : ¬ (6 : Int) < (l.length : Int) := by omega
      have R25 := Lib.hid (fun W (hW : LB S ot cap w W) => rMix_any S ot cap l ol cl W (hl.ints.ext hW.ext) (by omega))
      cases hb : sheetB S && mixB S l
      · have R28 := Lib.hid (fun W (hW : LB S ot cap w W) => sWord_bad S ot cap l ol cl W hW.tins h.small (hl.ints.ext hW.ext) (by omega) hb)
        have R29 := Lib.hid (fun W (hW : LB S ot cap w W) => sYears_bad S ot cap l ol cl W hW.tins h.small (hl.ints.ext hW.ext) (by omega) hb)
        cases hs : sheetB S
        · rw [hs] at R24
          clear h hl hk hb hs h6 hl6
          go_enter Tryz.func4, Tryz.ntmps4
          go_wp2_with (first | (go_at_call 21; refine (R21.out _).mono ?_; rintro e w9 ⟨rfl, hE9⟩; replace B := Lib.hid (B.out.next hE9); (try clear c0 c1 c2 c3 c4 c5 c6 c7 c8 c9 c10 c11 c12); have c0 := B.out.box 0 _ rfl; have c1 := B.out.box 1 _ rfl; have c2 := B.out.box 2 _ rfl; have c3 := B.out.box 3 _ rfl; have c4 := B.out.box 4 _ rfl; have c5 := B.out.box 5 _ rfl; have c6 := B.out.box 6 _ rfl; have c7 := B.out.box 7 _ rfl; have c8 := B.out.box 8 _ rfl; have c9 := B.out.box 9 _ rfl; have c10 := B.out.box 10 _ rfl; have c11 := B.out.box 11 _ rfl; have c12 := B.out.box 12 _ rfl; clear hE9) | (go_at_call 28; refine (R28.out _ B.out).mono ?_; rintro e w9 ⟨rfl, hE9⟩; replace B := Lib.hid (B.out.next hE9); (try clear c0 c1 c2 c3 c4 c5 c6 c7 c8 c9 c10 c11 c12); have c0 := B.out.box 0 _ rfl; have c1 := B.out.box 1 _ rfl; have c2 := B.out.box 2 _ rfl; have c3 := B.out.box 3 _ rfl; have c4 := B.out.box 4 _ rfl; have c5 := B.out.box 5 _ rfl; have c6 := B.out.box 6 _ rfl; have c7 := B.out.box 7 _ rfl; have c8 := B.out.box 8 _ rfl; have c9 := B.out.box 9 _ rfl; have c10 := B.out.box 10 _ rfl; have c11 := B.out.box 11 _ rfl; have c12 := B.out.box 12 _ rfl; clear hE9) | (go_at_call 29; refine (R29.out _ B.out).mono ?_; rintro e w9 ⟨rfl, hE9⟩; replace B := Lib.hid (B.out.next hE9); (try clear c0 c1 c2 c3 c4 c5 c6 c7 c8 c9 c10 c11 c12); have c0 := B.out.box 0 _ rfl; have c1 := B.out.box 1 _ rfl; have c2 := B.out.box 2 _ rfl; have c3 := B.out.box 3 _ rfl; have c4 := B.out.box 4 _ rfl; have c5 := B.out.box 5 _ rfl; have c6 := B.out.box 6 _ rfl; have c7 := B.out.box 7 _ rfl; have c8 := B.out.box 8 _ rfl; have c9 := B.out.box 9 _ rfl; have c10 := B.out.box 10 _ rfl; have c11 := B.out.box 11 _ rfl; have c12 := B.out.box 12 _ rfl; have hltA := World.block_lt_of_cell? _ _ c0; have hneA := Nat.ne_of_lt hltA; simp only at hltA hneA; replace B := Lib.hid (B.out.alloc (.cells #[.int .i64 0, .int .i64 0] 24)); have Y := Lib.hid (VB.new w9 [.int .i64 0, .int .i64 0] 24); clear hE9) | (go_at_call 24; refine (R24.out _ B.out).mono ?_; rintro e w9 ⟨rfl, hE9⟩; replace B := Lib.hid (B.out.next hE9); (try clear c0 c1 c2 c3 c4 c5 c6 c7 c8 c9 c10 c11 c12); have c0 := B.out.box 0 _ rfl; have c1 := B.out.box 1 _ rfl; have c2 := B.out.box 2 _ rfl; have c3 := B.out.box 3 _ rfl; have c4 := B.out.box 4 _ rfl; have c5 := B.out.box 5 _ rfl; have c6 := B.out.box 6 _ rfl; have c7 := B.out.box 7 _ rfl; have c8 := B.out.box 8 _ rfl; have c9 := B.out.box 9 _ rfl; have c10 := B.out.box 10 _ rfl; have c11 := B.out.box 11 _ rfl; have c12 := B.out.box 12 _ rfl; replace Y := Lib.hid (Y.out.ext hE9); (try clear y0 y1); have y0 := Y.out 0 _ rfl; have y1 := Y.out 1 _ rfl; (try dsimp only at y0 y1); clear hE9) | (go_at_call 22; refine (Rk.out _ B.out).mono ?_; rintro e w9 ⟨rfl, hE9⟩; replace B := Lib.hid (B.out.next hE9); (try clear c0 c1 c2 c3 c4 c5 c6 c7 c8 c9 c10 c11 c12); have c0 := B.out.box 0 _ rfl; have c1 := B.out.box 1 _ rfl; have c2 := B.out.box 2 _ rfl; have c3 := B.out.box 3 _ rfl; have c4 := B.out.box 4 _ rfl; have c5 := B.out.box 5 _ rfl; have c6 := B.out.box 6 _ rfl; have c7 := B.out.box 7 _ rfl; have c8 := B.out.box 8 _ rfl; have c9 := B.out.box 9 _ rfl; have c10 := B.out.box 10 _ rfl; have c11 := B.out.box 11 _ rfl; have c12 := B.out.box 12 _ rfl; clear hE9))
          go_ret
          exact ⟨rfl, B.out.ext⟩
        · rw [hs] at R24 hb
          rw [Bool.true_and] at hb
          rw [hb] at R25
          clear h hl hk hb hs h6 hl6
          go_enter Tryz.func4, Tryz.ntmps4
          go_wp2_with (first | (go_at_call 21; refine (R21.out _).mono ?_; rintro e w9 ⟨rfl, hE9⟩; replace B := Lib.hid (B.out.next hE9); (try clear c0 c1 c2 c3 c4 c5 c6 c7 c8 c9 c10 c11 c12); have c0 := B.out.box 0 _ rfl; have c1 := B.out.box 1 _ rfl; have c2 := B.out.box 2 _ rfl; have c3 := B.out.box 3 _ rfl; have c4 := B.out.box 4 _ rfl; have c5 := B.out.box 5 _ rfl; have c6 := B.out.box 6 _ rfl; have c7 := B.out.box 7 _ rfl; have c8 := B.out.box 8 _ rfl; have c9 := B.out.box 9 _ rfl; have c10 := B.out.box 10 _ rfl; have c11 := B.out.box 11 _ rfl; have c12 := B.out.box 12 _ rfl; clear hE9) | (go_at_call 28; refine (R28.out _ B.out).mono ?_; rintro e w9 ⟨rfl, hE9⟩; replace B := Lib.hid (B.out.next hE9); (try clear c0 c1 c2 c3 c4 c5 c6 c7 c8 c9 c10 c11 c12); have c0 := B.out.box 0 _ rfl; have c1 := B.out.box 1 _ rfl; have c2 := B.out.box 2 _ rfl; have c3 := B.out.box 3 _ rfl; have c4 := B.out.box 4 _ rfl; have c5 := B.out.box 5 _ rfl; have c6 := B.out.box 6 _ rfl; have c7 := B.out.box 7 _ rfl; have c8 := B.out.box 8 _ rfl; have c9 := B.out.box 9 _ rfl; have c10 := B.out.box 10 _ rfl; have c11 := B.out.box 11 _ rfl; have c12 := B.out.box 12 _ rfl; clear hE9) | (go_at_call 29; refine (R29.out _ B.out).mono ?_; rintro e w9 ⟨rfl, hE9⟩; replace B := Lib.hid (B.out.next hE9); (try clear c0 c1 c2 c3 c4 c5 c6 c7 c8 c9 c10 c11 c12); have c0 := B.out.box 0 _ rfl; have c1 := B.out.box 1 _ rfl; have c2 := B.out.box 2 _ rfl; have c3 := B.out.box 3 _ rfl; have c4 := B.out.box 4 _ rfl; have c5 := B.out.box 5 _ rfl; have c6 := B.out.box 6 _ rfl; have c7 := B.out.box 7 _ rfl; have c8 := B.out.box 8 _ rfl; have c9 := B.out.box 9 _ rfl; have c10 := B.out.box 10 _ rfl; have c11 := B.out.box 11 _ rfl; have c12 := B.out.box 12 _ rfl; have hltA := World.block_lt_of_cell? _ _ c0; have hneA := Nat.ne_of_lt hltA; simp only at hltA hneA; replace B := Lib.hid (B.out.alloc (.cells #[.int .i64 0, .int .i64 0] 24)); have Y := Lib.hid (VB.new w9 [.int .i64 0, .int .i64 0] 24); clear hE9) | (go_at_call 24; refine (R24.out _ B.out).mono ?_; rintro e w9 ⟨rfl, hE9⟩; replace B := Lib.hid (B.out.next hE9); (try clear c0 c1 c2 c3 c4 c5 c6 c7 c8 c9 c10 c11 c12); have c0 := B.out.box 0 _ rfl; have c1 := B.out.box 1 _ rfl; have c2 := B.out.box 2 _ rfl; have c3 := B.out.box 3 _ rfl; have c4 := B.out.box 4 _ rfl; have c5 := B.out.box 5 _ rfl; have c6 := B.out.box 6 _ rfl; have c7 := B.out.box 7 _ rfl; have c8 := B.out.box 8 _ rfl; have c9 := B.out.box 9 _ rfl; have c10 := B.out.box 10 _ rfl; have c11 := B.out.box 11 _ rfl; have c12 := B.out.box 12 _ rfl; replace Y := Lib.hid (Y.out.ext hE9); (try clear y0 y1); have y0 := Y.out 0 _ rfl; have y1 := Y.out 1 _ rfl; (try dsimp only at y0 y1); clear hE9) | (go_at_call 25; refine (R25.out _ B.out).mono ?_; rintro e w9 ⟨rfl, hE9⟩; replace B := Lib.hid (B.out.next hE9); (try clear c0 c1 c2 c3 c4 c5 c6 c7 c8 c9 c10 c11 c12); have c0 := B.out.box 0 _ rfl; have c1 := B.out.box 1 _ rfl; have c2 := B.out.box 2 _ rfl; have c3 := B.out.box 3 _ rfl; have c4 := B.out.box 4 _ rfl; have c5 := B.out.box 5 _ rfl; have c6 := B.out.box 6 _ rfl; have c7 := B.out.box 7 _ rfl; have c8 := B.out.box 8 _ rfl; have c9 := B.out.box 9 _ rfl; have c10 := B.out.box 10 _ rfl; have c11 := B.out.box 11 _ rfl; have c12 := B.out.box 12 _ rfl; replace Y := Lib.hid (Y.out.ext hE9); (try clear y0 y1); have y0 := Y.out 0 _ rfl; have y1 := Y.out 1 _ rfl; (try dsimp only at y0 y1); clear hE9) | (go_at_call 22; refine (Rk.out _ B.out).mono ?_; rintro e w9 ⟨rfl, hE9⟩; replace B := Lib.hid (B.out.next hE9); (try clear c0 c1 c2 c3 c4 c5 c6 c7 c8 c9 c10 c11 c12); have c0 := B.out.box 0 _ rfl; have c1 := B.out.box 1 _ rfl; have c2 := B.out.box 2 _ rfl; have c3 := B.out.box 3 _ rfl; have c4 := B.out.box 4 _ rfl; have c5 := B.out.box 5 _ rfl; have c6 := B.out.box 6 _ rfl; have c7 := B.out.box 7 _ rfl; have c8 := B.out.box 8 _ rfl; have c9 := B.out.box 9 _ rfl; have c10 := B.out.box 10 _ rfl; have c11 := B.out.box 11 _ rfl; have c12 := B.out.box 12 _ rfl; clear hE9))
          go_ret
          exact ⟨rfl, B.out.ext⟩
      · obtain ⟨hs, hx⟩ := Bool.and_eq_true_iff.1 hb
        obtain ⟨s, rfl, g⟩ := h.lift hs
        obtain ⟨m, rfl, hm⟩ := mix_lift hx
        rw [upL_length]
        exact law4g g hm h.tins hl.ints k hk
    · have hl6I : (6 : Int) < (l.length : Int) := by omega
      clear h hl hk h6 hl6
      go_enter Tryz.func4, Tryz.ntmps4
      go_wp2_with (first | (go_at_call 21; refine (R21.out _).mono ?_; rintro e w9 ⟨rfl, hE9⟩; replace B := Lib.hid (B.out.next hE9); (try clear c0 c1 c2 c3 c4 c5 c6 c7 c8 c9 c10 c11 c12); have c0 := B.out.box 0 _ rfl; have c1 := B.out.box 1 _ rfl; have c2 := B.out.box 2 _ rfl; have c3 := B.out.box 3 _ rfl; have c4 := B.out.box 4 _ rfl; have c5 := B.out.box 5 _ rfl; have c6 := B.out.box 6 _ rfl; have c7 := B.out.box 7 _ rfl; have c8 := B.out.box 8 _ rfl; have c9 := B.out.box 9 _ rfl; have c10 := B.out.box 10 _ rfl; have c11 := B.out.box 11 _ rfl; have c12 := B.out.box 12 _ rfl; clear hE9) | (go_at_call 22; refine (Rk.out _ B.out).mono ?_; rintro e w9 ⟨rfl, hE9⟩; replace B := Lib.hid (B.out.next hE9); (try clear c0 c1 c2 c3 c4 c5 c6 c7 c8 c9 c10 c11 c12); have c0 := B.out.box 0 _ rfl; have c1 := B.out.box 1 _ rfl; have c2 := B.out.box 2 _ rfl; have c3 := B.out.box 3 _ rfl; have c4 := B.out.box 4 _ rfl; have c5 := B.out.box 5 _ rfl; have c6 := B.out.box 6 _ rfl; have c7 := B.out.box 7 _ rfl; have c8 := B.out.box 8 _ rfl; have c9 := B.out.box 9 _ rfl; have c10 := B.out.box 10 _ rfl; have c11 := B.out.box 11 _ rfl; have c12 := B.out.box 12 _ rfl; clear hE9))
      go_ret
      exact ⟨rfl, B.out.ext⟩
  · rw [decide_eq_false h6] at R21
    clear h hl hk h6
    go_enter Tryz.func4, Tryz.ntmps4
    go_wp2_with (first | (go_at_call 21; refine (R21.out _).mono ?_; rintro e w9 ⟨rfl, hE9⟩; replace B := Lib.hid (B.out.next hE9); (try clear c0 c1 c2 c3 c4 c5 c6 c7 c8 c9 c10 c11 c12); have c0 := B.out.box 0 _ rfl; have c1 := B.out.box 1 _ rfl; have c2 := B.out.box 2 _ rfl; have c3 := B.out.box 3 _ rfl; have c4 := B.out.box 4 _ rfl; have c5 := B.out.box 5 _ rfl; have c6 := B.out.box 6 _ rfl; have c7 := B.out.box 7 _ rfl; have c8 := B.out.box 8 _ rfl; have c9 := B.out.box 9 _ rfl; have c10 := B.out.box 10 _ rfl; have c11 := B.out.box 11 _ rfl; have c12 := B.out.box 12 _ rfl; clear hE9) | (go_at_call 22; refine (Rk.out _ B.out).mono ?_; rintro e w9 ⟨rfl, hE9⟩; replace B := Lib.hid (B.out.next hE9); (try clear c0 c1 c2 c3 c4 c5 c6 c7 c8 c9 c10 c11 c12); have c0 := B.out.box 0 _ rfl; have c1 := B.out.box 1 _ rfl; have c2 := B.out.box 2 _ rfl; have c3 := B.out.box 3 _ rfl; have c4 := B.out.box 4 _ rfl; have c5 := B.out.box 5 _ rfl; have c6 := B.out.box 6 _ rfl; have c7 := B.out.box 7 _ rfl; have c8 := B.out.box 8 _ rfl; have c9 := B.out.box 9 _ rfl; have c10 := B.out.box 10 _ rfl; have c11 := B.out.box 11 _ rfl; have c12 := B.out.box 12 _ rfl; clear hE9))
    go_ret
    exact ⟨rfl, B.out.ext⟩

end Go.Proofs.YtjpekonfjihcoaaGreatDoor
