/- Contracts and mathematics, joined: Eqs2, Eqs3, Eqs4, Eqs, R19, R11, R18, Args. Conditions stand with each. -/
import Derived.ArgAppend
import Derived.Below
import Derived.BigQuiet
import Derived.Deep.DeepCutAuto
import Derived.Deep.DeepFit
import Derived.Deep.LoopGhost
import Derived.Deep.QuietTactic
import Derived.Deep.RegionHeld
import Derived.Deep.RegionHeld3
import Derived.Deep.RegionWith
import Derived.Deep.Upon
import Derived.Defers
import Derived.Laws.BytesArg
import Derived.Laws.EntriesVeiled
import Derived.Laws.OwnMore
import Derived.Lib.Hide
import Derived.Lib.IndexBytes
import Derived.Lib.ItoaNum
import Derived.Lib.SplitLaws
import Derived.LoopIn
import Derived.LoopNIn
import Derived.Maps.AppendAt
import Derived.Maps.Keyed
import Derived.Maps.OwnIn
import Derived.OrdersHeld
import Derived.OwnWalkIn
import Derived.RangeFuncBound
import Derived.RangeFuncCalls
import Derived.RangeFuncLeaves
import Derived.RangeFuncNested
import Derived.Recover
import Derived.RegionIn
import Derived.Shelf.Abstract
import Derived.Shelf.Strconv.Itoa3
import Derived.Shelf.Strings.Split
import Derived.TacticsIn
import Derived.TacticsInMore
import Derived.Test.YtjpekonfjihcoaaGreatDoorProg
import Derived.WalkKit
import Derived.WalkLawsBesides
import Derived.WalkSpells
import Derived.Test.YtjpekonfjihcoaaGreatDoorM2
import Derived.Test.YtjpekonfjihcoaaGreatDoorM1
import Derived.Test.YtjpekonfjihcoaaGreatDoorM17
import Derived.Test.YtjpekonfjihcoaaGreatDoorM4
import Derived.Test.YtjpekonfjihcoaaGreatDoorM3
import Derived.Test.YtjpekonfjihcoaaGreatDoorM8
import Derived.Test.YtjpekonfjihcoaaGreatDoorM34
import Derived.Test.YtjpekonfjihcoaaGreatDoorM18
import Derived.Test.YtjpekonfjihcoaaGreatDoorM6
import Derived.Test.YtjpekonfjihcoaaGreatDoorM7
import Derived.Test.YtjpekonfjihcoaaGreatDoorM5
import Derived.Test.YtjpekonfjihcoaaGreatDoorM16
namespace Go.TintM
end Go.TintM
set_option maxRecDepth 100000
set_option maxHeartbeats 64000000
set_option linter.unusedVariables false
set_option linter.unusedSimpArgs false
/- Tests for equality of a span. No condition. -/
namespace Go.Proofs.YtjpekonfjihcoaaGreatDoor
open Go.RowKit Go.My Go.TintM

theorem equal24 (d : Nat) (a b a' b' : Int) (w : World) : (Op.equalIn (d + 2) 24 (spanV a b) (spanV a' b')).run Tryz.prog w = .ok (a == a' && b == b') w := by
 have h1 : ∀ (a b : Int), (Op.equalIn (d + 1) 3 (.int .i64 a) (.int .i64 b)).run Tryz.prog w = .ok (a == b) w := fun a b => run_equalIn_int w d 3 .i64 .i64 a b Tryz.underlying3
 have p0 : ∀ (a b : Int), (part 3 #[.int .i64 a, .int .i64 b] 0).run Tryz.prog w = .ok (.int .i64 a) w := fun a b => by kernel_rfl
 have p1 : ∀ (a b : Int), (part 3 #[.int .i64 a, .int .i64 b] 1).run Tryz.prog w = .ok (.int .i64 b) w := fun a b => by kernel_rfl
 unfold Op.equalIn
 simp [run_underlying Tryz.underlying24, h1, p0, Result.andThen]
 by_cases hp : a = a'
 ·by_cases hy : b = b' <;> simp [hp, hy, h1, p1, Result.andThen]
 ·simp [hp]

end Go.Proofs.YtjpekonfjihcoaaGreatDoor
/- Tests for equality of three spans, of a tin. No condition. -/
namespace Go.Proofs.YtjpekonfjihcoaaGreatDoor
open Go.RowKit Go.My Go.TintM

theorem equal25 (d : Nat) (a b c e f g a' b' c' e' f' g' : Int) (w : World) : (Op.equalIn (d + 3) 25 (.agg #[.int .i64 a, .int .i64 b, .int .i64 c, .int .i64 e, .int .i64 f, .int .i64 g]) (.agg #[.int .i64 a', .int .i64 b', .int .i64 c', .int .i64 e', .int .i64 f', .int .i64 g'])).run Tryz.prog w = .ok ((a == a' && b == b') && ((c == c' && e == e') && (f == f' && g == g'))) w := by
 have h1 := fun a b a' b' => equal24 d a b a' b' w
 have hs : (sizeOf 24).run Tryz.prog w = .ok 2 w := by kernel_rfl
 have p0 : ∀ (a b c d e f : Int), (part 24 #[.int .i64 a, .int .i64 b, .int .i64 c, .int .i64 d, .int .i64 e, .int .i64 f] 0).run Tryz.prog w = .ok (spanV a b) w := fun a b c d e f => by kernel_rfl
 have p1 : ∀ (a b c d e f : Int), (part 24 #[.int .i64 a, .int .i64 b, .int .i64 c, .int .i64 d, .int .i64 e, .int .i64 f] 2).run Tryz.prog w = .ok (spanV c d) w := fun a b c d e f => by kernel_rfl
 have p2 : ∀ (a b c d e f : Int), (part 24 #[.int .i64 a, .int .i64 b, .int .i64 c, .int .i64 d, .int .i64 e, .int .i64 f] 4).run Tryz.prog w = .ok (spanV e f) w := fun a b c d e f => by kernel_rfl
 unfold Op.equalIn
 have hr : List.range' 0 3 1 = [0, 1, 2] := rfl
 simp [run_underlying Tryz.underlying25, Result.andThen, hs, Std.Legacy.Range.forIn_eq_forIn_range', Std.Legacy.Range.size, hr, p0, h1]
 by_cases ha : a = a'
 ·by_cases hb : b = b'
  ·by_cases hc : c = c'
   ·by_cases he : e = e'
    ·by_cases hf : f = f'
     ·by_cases hg : g = g' <;> simp [ha, hb, hc, he, hf, hg, h1, p1, p2, Result.andThen]
     ·simp [ha, hb, hc, he, hf, h1, p1, p2, Result.andThen]
    ·simp [ha, hb, hc, he, h1, p1, Result.andThen]
   ·simp [ha, hb, hc, h1, p1, Result.andThen]
  ·simp [ha, hb]
 ·simp [ha]

end Go.Proofs.YtjpekonfjihcoaaGreatDoor
/- Test for equality of a tin. No condition. -/
namespace Go.Proofs.YtjpekonfjihcoaaGreatDoor
open Go.RowKit Go.My Go.TintM

theorem equal82 (d : Nat) (a b c e f g a' b' c' e' f' g' : Int) (w : World) : (Op.equalIn (d + 4) 82 (.agg #[.int .i64 a, .int .i64 b, .int .i64 c, .int .i64 e, .int .i64 f, .int .i64 g]) (.agg #[.int .i64 a', .int .i64 b', .int .i64 c', .int .i64 e', .int .i64 f', .int .i64 g'])).run Tryz.prog w = .ok ((a == a' && b == b') && ((c == c' && e == e') && (f == f' && g == g'))) w := by
 have h1 := equal25 d a b c e f g a' b' c' e' f' g' w
 have p0 : ∀ (a b c d e f : Int), (part 25 #[.int .i64 a, .int .i64 b, .int .i64 c, .int .i64 d, .int .i64 e, .int .i64 f] 0).run Tryz.prog w = .ok (.agg #[.int .i64 a, .int .i64 b, .int .i64 c, .int .i64 d, .int .i64 e, .int .i64 f]) w := fun a b c d e f => by kernel_rfl
 unfold Op.equalIn
 generalize ((a == a' && b == b') && ((c == c' && e == e') && (f == f' && g == g'))) = r at *
 simp [run_underlying Tryz.underlying82, h1, p0, Result.andThen]
 cases r <;> simp

end Go.Proofs.YtjpekonfjihcoaaGreatDoor
/- Tests for equality of arrays of numbers. No condition. -/
namespace Go.Proofs.YtjpekonfjihcoaaGreatDoor
open Go.RowKit Go.My Go.TintM

theorem equal22 (a b c a' b' c' : Int) (w : World) : (Op.equalIn 10000 22 (.agg #[.int .i64 a, .int .i64 b, .int .i64 c]) (.agg #[.int .i64 a', .int .i64 b', .int .i64 c'])).run Tryz.prog w = .ok (a == a' && (b == b' && c == c')) w := by
 have h1 : ∀ (a b : Int), (Op.equalIn 9999 3 (.int .i64 a) (.int .i64 b)).run Tryz.prog w = .ok (a == b) w := fun a b => run_equalIn_int w 9998 3 .i64 .i64 a b Tryz.underlying3
 have hs : (sizeOf 3).run Tryz.prog w = .ok 1 w := by kernel_rfl
 have p0 : ∀ (a b c : Int), (part 3 #[.int .i64 a, .int .i64 b, .int .i64 c] 0).run Tryz.prog w = .ok (.int .i64 a) w := fun a b c => by kernel_rfl
 have p1 : ∀ (a b c : Int), (part 3 #[.int .i64 a, .int .i64 b, .int .i64 c] 1).run Tryz.prog w = .ok (.int .i64 b) w := fun a b c => by kernel_rfl
 have p2 : ∀ (a b c : Int), (part 3 #[.int .i64 a, .int .i64 b, .int .i64 c] 2).run Tryz.prog w = .ok (.int .i64 c) w := fun a b c => by kernel_rfl
 unfold Op.equalIn
 have hr : List.range' 0 3 1 = [0, 1, 2] := rfl
 simp [run_underlying Tryz.underlying22, Result.andThen, hs, Std.Legacy.Range.forIn_eq_forIn_range', Std.Legacy.Range.size, hr, p0, h1]
 by_cases ha : a = a'
 ·by_cases hb : b = b'
  ·by_cases hc : c = c' <;> simp [ha, hb, hc, h1, p1, p2, Result.andThen]
  ·simp [ha, hb, h1, p1, p2, Result.andThen]
 ·simp [ha]

end Go.Proofs.YtjpekonfjihcoaaGreatDoor
/- Contract of the reference: SameSheets, of equal sheets. No condition but on lengths. -/
namespace Go.Proofs.YtjpekonfjihcoaaGreatDoor
open Go.RowKit Go.My Go.TintM

theorem eq24 (a b a' b' : Int) (w : World) : (Op.equalIn 10000 24 (.agg #[.int .i64 a, .int .i64 b]) (.agg #[.int .i64 a', .int .i64 b'])).run Tryz.prog w = .ok (a == a' && b == b') w := equal24 9998 a b a' b' w
theorem eq25 (a b c d e f a' b' c' d' e' f' : Int) (w : World) : (Op.equalIn 10000 25 (.agg #[.int .i64 a, .int .i64 b, .int .i64 c, .int .i64 d, .int .i64 e, .int .i64 f]) (.agg #[.int .i64 a', .int .i64 b', .int .i64 c', .int .i64 d', .int .i64 e', .int .i64 f'])).run Tryz.prog w = .ok ((a == a' && b == b') && ((c == c' && d == d') && (e == e' && f == f'))) w := equal25 9997 a b c d e f a' b' c' d' e' f' w
theorem eq25b (a b c d e f a' b' c' d' e' f' : Int) (w : World) : (Op.equalIn 9999 25 (.agg #[.int .i64 a, .int .i64 b, .int .i64 c, .int .i64 d, .int .i64 e, .int .i64 f]) (.agg #[.int .i64 a', .int .i64 b', .int .i64 c', .int .i64 d', .int .i64 e', .int .i64 f'])).run Tryz.prog w = .ok ((a == a' && b == b') && ((c == c' && d == d') && (e == e' && f == f'))) w := equal25 9996 a b c d e f a' b' c' d' e' f' w
theorem eq82 (a b c d e f a' b' c' d' e' f' : Int) (w : World) : (Op.equalIn 10000 82 (.agg #[.int .i64 a, .int .i64 b, .int .i64 c, .int .i64 d, .int .i64 e, .int .i64 f]) (.agg #[.int .i64 a', .int .i64 b', .int .i64 c', .int .i64 d', .int .i64 e', .int .i64 f'])).run Tryz.prog w = .ok ((a == a' && b == b') && ((c == c' && d == d') && (e == e' && f == f'))) w := equal82 9996 a b c d e f a' b' c' d' e' f' w
attribute [local go_sem] equal22 eq24 eq25 eq25b

theorem rsame_any (S : SI) (oa ob : Option Addr) (ca cb : Nat) (w : World) (ha : TinsAt w oa S.tins) (hb : TinsAt w ob S.tins) (hl : S.tins.length ≤ 9223372036854775807) :
  Calls Tryz.prog 66 #[sheetV S oa ca, sheetV S ob cb] w fun e w' => e = .returned (.bool true) ∧ Ext w w' := by
 have HA := Lib.hid ha
 have HB := Lib.hid hb
 clear ha hb
 go_enter Tryz.func66, Tryz.ntmps66
 go_wp2
 obtain ⟨w0, hw0⟩ : ∃ W, W = (w.alloc (.cells (sheetC S oa ca) 28)).alloc (.cells (sheetC S ob cb) 28) := ⟨_, rfl⟩
 have HE0 := Lib.hid (show Ext w w0 by rw [hw0]; exact ((Ext.refl w).alloc _).alloc _)
 have HP := Lib.hid (show SheetBox w0 w.heap.size S oa ca by rw [hw0]; exact (SheetBox.new w S oa ca).ext ((Ext.refl _).alloc _))
 have HQ := Lib.hid (show SheetBox w0 (w.heap.size + 1) S ob cb by
  have := SheetBox.new (w.alloc (.cells (sheetC S oa ca) 28)) S ob cb
  rw [World.size_alloc] at this
  rw [hw0]; exact this)
 rw [← hw0]
 clear hw0
 go_loopg [5] S.tins.length (fun g i wr => ∃ k : Nat, k + g = S.tins.length ∧ i = .int .i64 k ∧ Ext w0 wr)
 case atStart => exact ⟨0, by omega, rfl, Ext.refl _⟩
 case round =>
  obtain ⟨k, hk, rfl, hE⟩ := hrel
  have HE := Lib.hid hE
  have c12 : wr.cell? ⟨w.heap.size, 12, none⟩ = some (.slice oa S.tins.length ca) := (HP.out.ext hE) 12 _ rfl
  have q12 : wr.cell? ⟨w.heap.size + 1, 12, none⟩ = some (.slice ob S.tins.length cb) := (HQ.out.ext hE) 12 _ rfl
  clear hE
  by_cases hlt : k < S.tins.length
  ·have hltI : (k : Int) < (S.tins.length : Int) := by omega
   obtain ⟨b, off, x0, x1, x2, x3, x4, x5, hot, hbl, hT, k0, k1, k2, k3, k4, k5⟩ := (HA.out.ext (HE0.out.trans HE.out)).at hlt
   obtain ⟨b', off', y0, y1, y2, y3, y4, y5, hot', hbl', hT', j0, j1, j2, j3, j4, j5⟩ := (HB.out.ext (HE0.out.trans HE.out)).at hlt
   rw [hT] at hT'
   simp only [List.cons.injEq, and_true] at hT'
   obtain ⟨rfl, rfl, rfl, rfl, rfl, rfl⟩ := hT'
   subst hot hot'
   clear hT
   go_wp2_with fail
   refine wp_region_plan (.take 0 <| .take 1 <| .take 2 <| .take 3 <| .take 4 <| .take 5 <| .take 6 <| .take 7 <| .take 8 <| .take 9 <| .take 10 <| .done) (fun W => Ext wr W) mixed (by kernel_rfl) (by kernel_rfl) rfl (fun _ _ d _ _ h => by cases d <;> exact h) ((Ext.refl wr).drew) ?_
   repeat ((first | (refine plan_take (v := ?_) rfl rfl (fun W hW => ?_) ?_; rotate_left; (focus (have d0 := cell_ext hW c12; have d1 := cell_ext hW q12; have d2 := cell_ext hW k0; have d3 := cell_ext hW k1; have d4 := cell_ext hW k2; have d5 := cell_ext hW k3; have d6 := cell_ext hW k4; have d7 := cell_ext hW k5; have g2 := cell_ext hW j0; have g3 := cell_ext hW j1; have g4 := cell_ext hW j2; have g5 := cell_ext hW j3; have g6 := cell_ext hW j4; have g7 := cell_ext hW j5; go_simp; first | exact rfl | (split <;> first | exact rfl | (exfalso; omega)) | done))) | refine plan_skip rfl rfl ?_); simp only [puts])
   refine plan_done ?_
   have X := Lib.hid (Ext.refl wr).drew
   clear k0 k1 k2 k3 k4 k5 j0 j1 j2 j3 j4 j5 c12 q12
   go_wp2
   go_roundg (gk - 1)
   case measure => omega
   case rel => exact ⟨k + 1, by omega, by go_num, HE.out.trans X.out⟩
  ·have hltI : ¬ (k : Int) < (S.tins.length : Int) := by omega
   go_wp2
   go_ret
   exact ⟨rfl, HE0.out.trans HE.out⟩

end Go.Proofs.YtjpekonfjihcoaaGreatDoor
/- Contracts of the reference: Used, ends, Sooner. No condition but on lengths. -/
namespace Go.Proofs.YtjpekonfjihcoaaGreatDoor
open Go.RowKit Go.My Go.TintM

theorem rUsed_any (m : List Nat) (om : Option Addr) (cm : Nat) (w : World) (h : IntsAt w om (upL m)) (hm : m.length ≤ 1000) :
  Calls Tryz.prog 100 #[.slice om m.length cm] w fun e w' => ∃ v, e = .returned v ∧ My.Own w' w.heap.size 3 v ((upL (used m)).map (Value.int .i64)) ∧ Ext w w' := by
 have H := Lib.hid h
 clear h
 go_enter Tryz.func100, Tryz.ntmps100
 go_wp2
 go_loopg [3, 4] m.length (fun g v i wr => ∃ k : Nat, k + g = m.length ∧ i = .int .i64 k ∧ Ext w wr ∧ My.Own wr w.heap.size 3 v ((upL (usedTo m k)).map (Value.int .i64)))
 case atStart => exact ⟨0, by simp, rfl, Ext.refl _, My.Own.nil _ _ _⟩
 case round =>
  obtain ⟨k, hk, rfl, hE, hown⟩ := hrel
  have HE := Lib.hid hE
  have Hown := Lib.hid hown
  have hsw := hE.size
  by_cases hlt : k < m.length
  ·obtain ⟨b, off, hob, _, hc⟩ := (H.out.ext hE).at (k := k) (by rw [upL_length]; exact hlt)
   subst hob
   have e1 : (upL m)[k]'(by rw [upL_length]; exact hlt) = ((m.getD k 0 : Nat) : Int) := by simp [upL, List.getD, hlt]
   rw [e1] at hc
   have hul := usedTo_len m k
   have hus := usedTo_succ m k
   clear e1 hE hown
   generalize m.getD k 0 = A at *
   by_cases h0 : 0 < A
   ·have h0i : (0 : Int) < (A : Int) := by omega
    rw [if_pos h0] at hus
    have Hus := Lib.hid hus
    clear hus
    go_wp2_with (first | (at_builtin; refine wpList_app1 _ rfl _ _ 29 rfl 3 Tryz.underlying29 (.int .i64 0) 8 i3 rfl (by decide) w.heap.size _ _ rfl (Hown.out.ext ((Ext.refl _).alloc _)) wr.heap.size (.int .i64 k) rfl (by go_simp) rfl ?_ ?_ ?_))
    ·rw [List.length_map, upL_length]; omega
    ·simp; omega
    ·intro v' w2 hown2 hBl _
     have Ho2 := Lib.hid hown2; clear hown2
     go_wp2
     go_roundg (gk - 1)
     case measure => omega
     case rel => exact ⟨k + 1, by omega, by go_num, (HE.out.alloc _).below hBl (Nat.le_refl _), by rw [Hus.out, upL_snoc, List.map_append]; exact Ho2.out⟩
   ·have h0i : ¬ (0 : Int) < (A : Int) := by omega
    rw [if_neg h0, List.append_nil] at hus
    have Hus := Lib.hid hus
    clear hus
    go_wp2
    go_roundg (gk - 1)
    case measure => omega
    case rel => exact ⟨k + 1, by omega, by go_num, HE.out, by rw [Hus.out]; exact Hown.out⟩
  ·obtain rfl : k = m.length := by omega
   go_wp2
   go_ret
   exact ⟨_, rfl, Hown.out, HE.out⟩


theorem rends_any (x0 x1 x2 x3 x4 x5 : Int) (w : World) : Calls Tryz.prog 107 #[sixV x0 x1 x2 x3 x4 x5] w fun e w' => ∃ v, e = .returned v ∧ My.Own w' w.heap.size 3 v ((sixL x0 x1 x2 x3 x4 x5).map (Value.int .i64)) ∧ Ext w w' := by
 go_enter Tryz.func107, Tryz.ntmps107
 go_wp2
 go_ret
 have hE : Ext w (w.alloc (.cells #[.int .i64 x0, .int .i64 x1, .int .i64 x2, .int .i64 x3, .int .i64 x4, .int .i64 x5] 25)) := (Ext.refl w).alloc _
 have hh := heap_alloc_new (w.alloc (.cells #[.int .i64 x0, .int .i64 x1, .int .i64 x2, .int .i64 x3, .int .i64 x4, .int .i64 x5] 25)) (.cells #[.int .i64 x0, .int .i64 x1, .int .i64 x2, .int .i64 x3, .int .i64 x4, .int .i64 x5] 3)
 rw [World.size_alloc] at hh
 exact ⟨_, rfl, ⟨rfl, .inr ⟨w.heap.size + 1, 6, #[.int .i64 x0, .int .i64 x1, .int .i64 x2, .int .i64 x3, .int .i64 x4, .int .i64 x5], rfl, by omega, hh, Nat.le_refl _, by simp [maxLen], rfl, rfl⟩⟩, hE.alloc _⟩

def soonB (a b : List Nat) : Bool := decide (a.sum < b.sum) || (decide (a.sum = b.sum) && lexB a b)
theorem soon_iff {a b : List Nat} : soonB a b = true ↔ sooner a b := by simp [soonB, sooner]

theorem rSooner_any (l m : List Nat) (oa ob : Option Addr) (ca cb : Nat) (w : World) (h1 : IntsAt w oa (upL l)) (h2 : IntsAt w ob (upL m)) (hl : l.length ≤ 1000) (hm : m.length ≤ 1000) (k1 : (upL l).all in8 = true) (k2 : (upL m).all in8 = true) :
  Calls Tryz.prog 46 #[.slice oa l.length ca, .slice ob m.length cb] w fun e w' => e = .returned (.bool (soonB l m)) ∧ Ext w w' := by
 have A := Lib.hid (fun (_ : Unit) => parts_any (upL l) oa ca w h1 (by rw [upL_length]; omega) k1)
 have B := Lib.hid (fun (_ : Unit) => parts_any (upL m) ob cb w h2 (by rw [upL_length]; omega) k2)
 have D := Lib.hid (tbefore_any l m oa ob ca cb w h1 h2 hl hm)
 rw [upL_length, sum_up] at A B
 have HS := Lib.hid (show soonB l m = (decide (l.sum < m.sum) || (decide (l.sum = m.sum) && lexB l m)) from rfl)
 clear h1 h2 k1 k2 hl hm
 generalize l.sum = X at *
 generalize m.sum = Y at *
 generalize lexB l m = q at *
 by_cases hlt : X < Y
 ·have e1 : (X : Int) < (Y : Int) := by omega
  have hr := Lib.hid (show soonB l m = true by rw [HS.out]; simp [hlt])
  go_enter Tryz.func46, Tryz.ntmps46
  go_wp2_with (first | (go_at_call 59; refine (A.out ()).mono ?_; rintro e w1 ⟨rfl, rfl⟩; clear A) | (go_at_call 59; refine (B.out ()).mono ?_; rintro e w1 ⟨rfl, rfl⟩; clear B))
  go_ret
  exact ⟨by rw [hr.out]; rfl, Ext.refl _⟩
 ·have e1 : ¬ (X : Int) < (Y : Int) := by omega
  have A2 := A
  have B2 := B
  by_cases heq : X = Y
  ·have e2 : ((X : Int) == (Y : Int)) = true := by rw [beq_iff_eq]; omega
   have hr := Lib.hid (show soonB l m = q by rw [HS.out]; simp [hlt, heq])
   clear heq
   cases q with
   | true =>
    go_enter Tryz.func46, Tryz.ntmps46
    go_wp2_with (first | (go_at_call 59; refine (A.out ()).mono ?_; rintro e w1 ⟨rfl, rfl⟩; clear A) | (go_at_call 59; refine (B.out ()).mono ?_; rintro e w1 ⟨rfl, rfl⟩; clear B) | (go_at_call 59; refine (A2.out ()).mono ?_; rintro e w1 ⟨rfl, rfl⟩; clear A2) | (go_at_call 59; refine (B2.out ()).mono ?_; rintro e w1 ⟨rfl, rfl⟩; clear B2) | (go_at_call 54; refine D.out.mono ?_; rintro e w1 ⟨rfl, hE1⟩))
    go_ret
    exact ⟨by rw [hr.out]; rfl, hE1⟩
   | false =>
    go_enter Tryz.func46, Tryz.ntmps46
    go_wp2_with (first | (go_at_call 59; refine (A.out ()).mono ?_; rintro e w1 ⟨rfl, rfl⟩; clear A) | (go_at_call 59; refine (B.out ()).mono ?_; rintro e w1 ⟨rfl, rfl⟩; clear B) | (go_at_call 59; refine (A2.out ()).mono ?_; rintro e w1 ⟨rfl, rfl⟩; clear A2) | (go_at_call 59; refine (B2.out ()).mono ?_; rintro e w1 ⟨rfl, rfl⟩; clear B2) | (go_at_call 54; refine D.out.mono ?_; rintro e w1 ⟨rfl, hE1⟩))
    go_ret
    exact ⟨by rw [hr.out]; rfl, hE1⟩
  ·have e2 : ((X : Int) == (Y : Int)) = false := by rw [beq_eq_false_iff_ne]; omega
   have hr := Lib.hid (show soonB l m = false by rw [HS.out]; simp [hlt, heq])
   clear heq
   go_enter Tryz.func46, Tryz.ntmps46
   go_wp2_with (first | (go_at_call 59; refine (A.out ()).mono ?_; rintro e w1 ⟨rfl, rfl⟩; clear A) | (go_at_call 59; refine (B.out ()).mono ?_; rintro e w1 ⟨rfl, rfl⟩; clear B) | (go_at_call 59; refine (A2.out ()).mono ?_; rintro e w1 ⟨rfl, rfl⟩; clear A2) | (go_at_call 59; refine (B2.out ()).mono ?_; rintro e w1 ⟨rfl, rfl⟩; clear B2))
   go_ret
   exact ⟨by rw [hr.out]; rfl, Ext.refl _⟩

end Go.Proofs.YtjpekonfjihcoaaGreatDoor
/- Contract of the reference: Print. No condition beyond small numbers. -/
namespace Go.Proofs.YtjpekonfjihcoaaGreatDoor
open Go.RowKit Go.My Go.TintM

theorem fresh_ints (w : World) (l : List Int) : IntsAt (w.alloc (.cells (l.map (Value.int .i64)).toArray 3)) (some ⟨w.heap.size, 0, none⟩) l := fun i x hx =>
 ⟨w.heap.size, 0, rfl, by simp, by rw [cell_of_row _ _ (0 + i) _ _ _ (heap_alloc_new w _)]; simpa using hx⟩
/-- The lines of the first k tins. -/
def linesTo (x : Tx) (k : Nat) : List (List UInt8) := rowB wBoard x.head :: rowB wFade x.fade :: (x.tins.take k).map (rowB wTin)
theorem linesTo_len (x : Tx) {k : Nat} (hk : k ≤ x.tins.length) : (linesTo x k).length = k + 2 := by simp [linesTo]; omega
theorem linesTo_succ (x : Tx) {k : Nat} (hk : k < x.tins.length) : linesTo x (k + 1) = linesTo x k ++ [rowB wTin x.tins[k]] := by
 rw [linesTo, List.take_succ_eq_append_getElem hk, List.map_append]; rfl
theorem linesTo_end (x : Tx) : linesTo x x.tins.length = linesB x := by simp [linesTo, linesB]
abbrev strs (L : List (List UInt8)) : List Value := L.map fun s => Value.string (bs s)
theorem strs_snoc (L : List (List UInt8)) (s : List UInt8) : strs (L ++ [s]) = strs L ++ [.string (bs s)] := by simp [strs]
theorem row_six (word : List UInt8) (hw : word.length ≤ 5) (n0 n1 n2 n3 n4 n5 : Nat) (hs : ∀ n ∈ [n0, n1, n2, n3, n4, n5], n < 100) (oa : Option Addr) (cap : Nat) (w : World) (h : IntsAt w oa (upL [n0, n1, n2, n3, n4, n5])) :
  Calls Tryz.prog 106 #[.string (bs word), .slice oa 6 cap] w fun e w' => e = .returned (.string (bs (rowB word [n0, n1, n2, n3, n4, n5]))) ∧ Ext w w' :=
 row_any word [n0, n1, n2, n3, n4, n5] oa cap w hw h (show (6 : Nat) ≤ 1000 by decide) hs
theorem ends_six (n0 n1 n2 n3 n4 n5 : Nat) (w : World) : Calls Tryz.prog 107 #[sixV n0 n1 n2 n3 n4 n5] w fun e w' => ∃ oa cap, e = .returned (.slice oa 6 cap) ∧ IntsAt w' oa (upL [n0, n1, n2, n3, n4, n5]) ∧ Ext w w' :=
 (rends_any n0 n1 n2 n3 n4 n5 w).mono fun e w' ⟨v, h1, h2, h3⟩ => by
  obtain ⟨oa, cap, hv, _, _, _, h4⟩ := h2.ints
  exact ⟨oa, cap, by rw [h1, hv]; rfl, h4, h3⟩
theorem two_strs (W : World) (a b : ByteArray) {B : Nat} (hB : B ≤ W.heap.size) : My.Own (W.alloc (.cells #[.string a, .string b] 9)) B 9 (.slice (some ⟨W.heap.size, 0, none⟩) 2 2) [.string a, .string b] :=
 ⟨rfl, .inr ⟨W.heap.size, 2, #[.string a, .string b], rfl, hB, heap_alloc_new W _, Nat.le_refl _, by decide, rfl, rfl⟩⟩
abbrev siN (n0 n1 n2 n3 n4 n5 m0 m1 m2 m3 m4 m5 : Nat) (ts : List (List Nat)) : SI := ⟨n0, n1, n2, m0, m1, m2, m3, m4, m5, n3, n4, n5, ts.map upL⟩

theorem rprint_n (n0 n1 n2 n3 n4 n5 m0 m1 m2 m3 m4 m5 : Nat) (ts : List (List Nat)) (hn : ∀ n ∈ [n0, n1, n2, n3, n4, n5], n < 100) (hm : ∀ n ∈ [m0, m1, m2, m3, m4, m5], n < 100) (ht : ∀ t ∈ ts, Six t) (hlen : ts.length ≤ 900) (ot : Option Addr) (cap : Nat) (w : World) (h : TinsAt w ot (ts.map upL)) :
  Calls Tryz.prog 65 #[sheetV (siN n0 n1 n2 n3 n4 n5 m0 m1 m2 m3 m4 m5 ts) ot cap] w fun e w' => e = .returned (.string (bs (textB ⟨[n0, n1, n2, n3, n4, n5], [m0, m1, m2, m3, m4, m5], ts⟩))) ∧ Ext w w' := by
 obtain ⟨x, hx⟩ : ∃ x : Tx, x = ⟨[n0, n1, n2, n3, n4, n5], [m0, m1, m2, m3, m4, m5], ts⟩ := ⟨_, rfl⟩
 have Hd0 := Lib.hid (show linesTo x 0 = [rowB wBoard [n0, n1, n2, n3, n4, n5], rowB wFade [m0, m1, m2, m3, m4, m5]] by rw [hx]; rfl)
 have hxt : x.tins = ts := by rw [hx]
 have hsm : Sm x := by rw [hx]; exact ⟨⟨rfl, hn⟩, ⟨rfl, hm⟩, ht⟩
 rw [← hx]
 clear hx
 have H := Lib.hid h
 have HE0 := Lib.hid (Ext.refl w)
 have Rb := Lib.hid (fun W oa c (hi : IntsAt W oa (upL [n0, n1, n2, n3, n4, n5])) => row_six wBoard (by decide) n0 n1 n2 n3 n4 n5 hn oa c W hi)
 have Rf := Lib.hid (fun W oa c (hi : IntsAt W oa (upL [m0, m1, m2, m3, m4, m5])) => row_six wFade (by decide) m0 m1 m2 m3 m4 m5 hm oa c W hi)
 have Hseal := Lib.hid (fun oa c W (hs : StrsAt W oa (linesB x)) => sealed_any (linesB x) oa c W hs (by rw [linesB_length, hxt]; omega) (Sm.lines hsm))
 have Hts := Lib.hid ht
 have HLn := Lib.hid (fun k (hk : k ≤ ts.length) => linesTo_len x (k := k) (by rw [hxt]; exact hk))
 have HLs := Lib.hid (fun k (hk : k < ts.length) => (show linesTo x (k + 1) = linesTo x k ++ [rowB wTin ts[k]] by
  have := linesTo_succ x (k := k) (by rw [hxt]; exact hk)
  rw [this]; congr 3; simp [hxt]))
 have HLe := Lib.hid (show linesTo x ts.length = linesB x by rw [← hxt]; exact linesTo_end x)
 have HLb := Lib.hid (show (linesB x).length = ts.length + 2 by rw [linesB_length, hxt])
 have Htx := Lib.hid (show textB x = sealB (linesB x) from rfl)
 have hmx : (ts.map upL).length = ts.length := by simp
 have Hmx := Lib.hid hmx
 clear h hn hm ht hsm hxt hmx
 go_enter Tryz.func65, Tryz.ntmps65
 go_wp2_with fail
 obtain ⟨w1, hw1⟩ : ∃ W, W = w.alloc (.cells (sheetC (siN n0 n1 n2 n3 n4 n5 m0 m1 m2 m3 m4 m5 ts) ot cap) 28) := ⟨_, rfl⟩
 have HP := Lib.hid (show SheetBox w1 w.heap.size (siN n0 n1 n2 n3 n4 n5 m0 m1 m2 m3 m4 m5 ts) ot cap by rw [hw1]; exact SheetBox.new w _ ot cap)
 have HE1 := Lib.hid (show Ext w w1 by rw [hw1]; exact (Ext.refl w).alloc _)
 rw [← hw1]
 clear hw1
 have c0 : World.cell? w1 ⟨w.heap.size, 0, none⟩ = some (.int .i64 (siN n0 n1 n2 n3 n4 n5 m0 m1 m2 m3 m4 m5 ts).o0) := HP.out 0 _ rfl; have c1 : World.cell? w1 ⟨w.heap.size, 1, none⟩ = some (.int .i64 (siN n0 n1 n2 n3 n4 n5 m0 m1 m2 m3 m4 m5 ts).o1) := HP.out 1 _ rfl; have c2 : World.cell? w1 ⟨w.heap.size, 2, none⟩ = some (.int .i64 (siN n0 n1 n2 n3 n4 n5 m0 m1 m2 m3 m4 m5 ts).o2) := HP.out 2 _ rfl; have c3 : World.cell? w1 ⟨w.heap.size, 3, none⟩ = some (.int .i64 (siN n0 n1 n2 n3 n4 n5 m0 m1 m2 m3 m4 m5 ts).a0) := HP.out 3 _ rfl; have c4 : World.cell? w1 ⟨w.heap.size, 4, none⟩ = some (.int .i64 (siN n0 n1 n2 n3 n4 n5 m0 m1 m2 m3 m4 m5 ts).b0) := HP.out 4 _ rfl; have c5 : World.cell? w1 ⟨w.heap.size, 5, none⟩ = some (.int .i64 (siN n0 n1 n2 n3 n4 n5 m0 m1 m2 m3 m4 m5 ts).a1) := HP.out 5 _ rfl; have c6 : World.cell? w1 ⟨w.heap.size, 6, none⟩ = some (.int .i64 (siN n0 n1 n2 n3 n4 n5 m0 m1 m2 m3 m4 m5 ts).b1) := HP.out 6 _ rfl; have c7 : World.cell? w1 ⟨w.heap.size, 7, none⟩ = some (.int .i64 (siN n0 n1 n2 n3 n4 n5 m0 m1 m2 m3 m4 m5 ts).a2) := HP.out 7 _ rfl; have c8 : World.cell? w1 ⟨w.heap.size, 8, none⟩ = some (.int .i64 (siN n0 n1 n2 n3 n4 n5 m0 m1 m2 m3 m4 m5 ts).b2) := HP.out 8 _ rfl; have c9 : World.cell? w1 ⟨w.heap.size, 9, none⟩ = some (.int .i64 (siN n0 n1 n2 n3 n4 n5 m0 m1 m2 m3 m4 m5 ts).ylo) := HP.out 9 _ rfl; have c10 : World.cell? w1 ⟨w.heap.size, 10, none⟩ = some (.int .i64 (siN n0 n1 n2 n3 n4 n5 m0 m1 m2 m3 m4 m5 ts).yhi) := HP.out 10 _ rfl; have c11 : World.cell? w1 ⟨w.heap.size, 11, none⟩ = some (.int .i64 (siN n0 n1 n2 n3 n4 n5 m0 m1 m2 m3 m4 m5 ts).off) := HP.out 11 _ rfl; have c12 : World.cell? w1 ⟨w.heap.size, 12, none⟩ = some (.slice ot (siN n0 n1 n2 n3 n4 n5 m0 m1 m2 m3 m4 m5 ts).tins.length cap) := HP.out 12 _ rfl
 refine wp_region_plan (.take 0 <| .take 1 <| .take 2 <| .take 3 <| .take 4 <| .take 5 <| .take 6 <| .take 7 <| .take 8 <| .take 9 <| .take 10 <| .take 11 <| .take 12 <| .take 13 <| .take 14 <| .take 15 <| .take 16 <| .take 19 <| .take 20 <| .only 17 <| .only 18 <| .only 21 <| .only 22 <| .only 23 <| .take 24 <| .done) (fun W => Ext w1 W) mixed (by kernel_rfl) (by kernel_rfl) rfl (fun _ _ d _ _ h => by cases d <;> exact h) ((Ext.refl w1).drew) ?_
 have hE1 : Ext w1 w1.drew := (Ext.refl w1).drew
 generalize w1.drew = wd at *
 repeat ((first | (refine plan_take (v := ?_) rfl rfl (fun W hW => ?_) ?_; rotate_left; (focus (have d0 := cell_ext hW c0; have d1 := cell_ext hW c1; have d2 := cell_ext hW c2; have d3 := cell_ext hW c3; have d4 := cell_ext hW c4; have d5 := cell_ext hW c5; have d6 := cell_ext hW c6; have d7 := cell_ext hW c7; have d8 := cell_ext hW c8; have d9 := cell_ext hW c9; have d10 := cell_ext hW c10; have d11 := cell_ext hW c11; go_simp; first | exact rfl | (split <;> first | exact rfl | (exfalso; omega)) | done))) | refine plan_skip rfl rfl ?_); simp only [puts])
 have X1 := Lib.hid hE1
 clear hE1
 clear c0 c1 c2 c3 c4 c5 c6 c7 c8 c9 c10 c11 c12
 refine plan_walk rfl ?_; intro K hK
 go_wp2
 refine hK _ _ (X1.out.alloc _) ?_
 have hi1 := Lib.hid (fresh_ints wd (upL [n0, n1, n2, n3, n4, n5]))
 repeat ((first | (refine plan_take (v := ?_) rfl rfl (fun W hW => ?_) ?_; rotate_left; (focus (skip; go_simp; first | exact rfl | (split <;> first | exact rfl | (exfalso; omega)) | done))) | refine plan_skip rfl rfl ?_); simp only [puts])
 refine plan_walk rfl ?_; intro K hK
 go_wp2_with (first | (go_at_call 106; refine (Rb.out _ _ _ hi1.out).mono ?_; rintro e w2 ⟨rfl, hE2⟩))
 have X2 := Lib.hid ((X1.out.alloc _).trans hE2)
 refine hK _ _ X2.out ?_
 clear hE2 hi1 hK Rb
 repeat ((first | (refine plan_take (v := ?_) rfl rfl (fun W hW => ?_) ?_; rotate_left; (focus (skip; go_simp; first | exact rfl | (split <;> first | exact rfl | (exfalso; omega)) | done))) | refine plan_skip rfl rfl ?_); simp only [puts])
 refine plan_walk rfl ?_; intro K hK
 go_wp2_with (first | (go_at_call 107; refine (ends_six m0 m1 m2 m3 m4 m5 _).mono ?_; rintro e w3 ⟨o3, c3, rfl, hi3, hE3⟩))
 have X3 := Lib.hid (X2.out.trans hE3)
 refine hK _ _ X3.out ?_
 have hi3 := Lib.hid hi3
 clear hE3 hK
 repeat ((first | (refine plan_take (v := ?_) rfl rfl (fun W hW => ?_) ?_; rotate_left; (focus (skip; go_simp; first | exact rfl | (split <;> first | exact rfl | (exfalso; omega)) | done))) | refine plan_skip rfl rfl ?_); simp only [puts])
 refine plan_walk rfl ?_; intro K hK
 go_wp2_with (first | (go_at_call 106; refine (Rf.out _ _ _ hi3.out).mono ?_; rintro e w4 ⟨rfl, hE4⟩))
 have X4 := Lib.hid (X3.out.trans hE4)
 refine hK _ _ X4.out ?_
 clear hE4 hi3 hK Rf
 repeat ((first | (refine plan_take (v := ?_) rfl rfl (fun W hW => ?_) ?_; rotate_left; (focus (skip; go_simp; first | exact rfl | (split <;> first | exact rfl | (exfalso; omega)) | done))) | refine plan_skip rfl rfl ?_); simp only [puts])
 refine plan_walk rfl ?_; intro K hK
 go_wp2
 have X5 := Lib.hid (X4.out.alloc (.cells #[.string (bs (rowB wBoard [n0, n1, n2, n3, n4, n5])), .string (bs (rowB wFade [m0, m1, m2, m3, m4, m5]))] 9))
 refine hK _ _ X5.out ?_
 have hsz4 := X4.out.size
 have Ho := Lib.hid (show My.Own (w4.alloc (.cells #[.string (bs (rowB wBoard [n0, n1, n2, n3, n4, n5])), .string (bs (rowB wFade [m0, m1, m2, m3, m4, m5]))] 9)) w1.heap.size 9 (.slice (some ⟨w4.heap.size, 0, none⟩) 2 2) (strs (linesTo x 0)) by
  rw [Hd0.out]; exact two_strs w4 _ _ hsz4)
 clear hK
 repeat ((first | (refine plan_take (v := ?_) rfl rfl (fun W hW => ?_) ?_; rotate_left; (focus (skip; go_simp; first | exact rfl | (split <;> first | exact rfl | (exfalso; omega)) | done))) | refine plan_skip rfl rfl ?_); simp only [puts])
 refine plan_done ?_
 obtain ⟨wq, hwq⟩ : ∃ W, W = w4.alloc (.cells #[.string (bs (rowB wBoard [n0, n1, n2, n3, n4, n5])), .string (bs (rowB wFade [m0, m1, m2, m3, m4, m5]))] 9) := ⟨_, rfl⟩
 rw [← hwq] at Ho X5 ⊢
 clear hwq
 have c0 : World.cell? wq ⟨w.heap.size, 0, none⟩ = some (.int .i64 (siN n0 n1 n2 n3 n4 n5 m0 m1 m2 m3 m4 m5 ts).o0) := HP.out.ext X5.out 0 _ rfl; have c1 : World.cell? wq ⟨w.heap.size, 1, none⟩ = some (.int .i64 (siN n0 n1 n2 n3 n4 n5 m0 m1 m2 m3 m4 m5 ts).o1) := HP.out.ext X5.out 1 _ rfl; have c2 : World.cell? wq ⟨w.heap.size, 2, none⟩ = some (.int .i64 (siN n0 n1 n2 n3 n4 n5 m0 m1 m2 m3 m4 m5 ts).o2) := HP.out.ext X5.out 2 _ rfl; have c3 : World.cell? wq ⟨w.heap.size, 3, none⟩ = some (.int .i64 (siN n0 n1 n2 n3 n4 n5 m0 m1 m2 m3 m4 m5 ts).a0) := HP.out.ext X5.out 3 _ rfl; have c4 : World.cell? wq ⟨w.heap.size, 4, none⟩ = some (.int .i64 (siN n0 n1 n2 n3 n4 n5 m0 m1 m2 m3 m4 m5 ts).b0) := HP.out.ext X5.out 4 _ rfl; have c5 : World.cell? wq ⟨w.heap.size, 5, none⟩ = some (.int .i64 (siN n0 n1 n2 n3 n4 n5 m0 m1 m2 m3 m4 m5 ts).a1) := HP.out.ext X5.out 5 _ rfl; have c6 : World.cell? wq ⟨w.heap.size, 6, none⟩ = some (.int .i64 (siN n0 n1 n2 n3 n4 n5 m0 m1 m2 m3 m4 m5 ts).b1) := HP.out.ext X5.out 6 _ rfl; have c7 : World.cell? wq ⟨w.heap.size, 7, none⟩ = some (.int .i64 (siN n0 n1 n2 n3 n4 n5 m0 m1 m2 m3 m4 m5 ts).a2) := HP.out.ext X5.out 7 _ rfl; have c8 : World.cell? wq ⟨w.heap.size, 8, none⟩ = some (.int .i64 (siN n0 n1 n2 n3 n4 n5 m0 m1 m2 m3 m4 m5 ts).b2) := HP.out.ext X5.out 8 _ rfl; have c9 : World.cell? wq ⟨w.heap.size, 9, none⟩ = some (.int .i64 (siN n0 n1 n2 n3 n4 n5 m0 m1 m2 m3 m4 m5 ts).ylo) := HP.out.ext X5.out 9 _ rfl; have c10 : World.cell? wq ⟨w.heap.size, 10, none⟩ = some (.int .i64 (siN n0 n1 n2 n3 n4 n5 m0 m1 m2 m3 m4 m5 ts).yhi) := HP.out.ext X5.out 10 _ rfl; have c11 : World.cell? wq ⟨w.heap.size, 11, none⟩ = some (.int .i64 (siN n0 n1 n2 n3 n4 n5 m0 m1 m2 m3 m4 m5 ts).off) := HP.out.ext X5.out 11 _ rfl; have c12 : World.cell? wq ⟨w.heap.size, 12, none⟩ = some (.slice ot (siN n0 n1 n2 n3 n4 n5 m0 m1 m2 m3 m4 m5 ts).tins.length cap) := HP.out.ext X5.out 12 _ rfl
 go_wp2
 clear c0 c1 c2 c3 c4 c5 c6 c7 c8 c9 c10 c11 c12
 go_loopg [3, 4] ts.length (fun g v i wr => ∃ k : Nat, k + g = ts.length ∧ i = .int .i64 k ∧ Ext w1 wr ∧ My.Own wr w1.heap.size 9 v (strs (linesTo x k)))
 case atStart => exact ⟨0, by omega, rfl, X5.out, Ho.out⟩
 case round =>
  obtain ⟨k, hk, rfl, hE, hown⟩ := hrel
  have Hown := Lib.hid hown
  have HE := Lib.hid hE
  have hsE := hE.size
  have HPr := Lib.hid (HP.out.ext hE)
  clear hown hE
  obtain ⟨wo, rfl⟩ : ∃ wo : World, wo = wr := ⟨_, rfl⟩
  have c12 : wo.cell? ⟨w.heap.size, 12, none⟩ = some (.slice ot (siN n0 n1 n2 n3 n4 n5 m0 m1 m2 m3 m4 m5 ts).tins.length cap) := HPr.out 12 _ rfl
  simp only [Hmx.out] at c12
  have hrl : (strs (linesTo x k)).length = k + 2 := by rw [List.length_map, HLn.out k (by omega)]
  by_cases hlt : k < ts.length
  ·have hkS : k < (ts.map upL).length := by rw [Hmx.out]; exact hlt
   obtain ⟨b, off, x0, x1, x2, x3, x4, x5, hot, hb, hT, k0, k1, k2, k3, k4, k5⟩ := (H.out.ext (HE1.out.trans HE.out)).at hkS
   subst hot
   have hsix : Six ts[k] := Hts.out _ (List.getElem_mem hlt)
   have hu : upL ts[k] = [x0, x1, x2, x3, x4, x5] := by rw [← hT]; simp
   have HLk := Lib.hid (HLs.out k hlt)
   generalize ts[k] = tk at *
   obtain ⟨t0, t1, t2, t3, t4, t5, rfl⟩ : ∃ t0 t1 t2 t3 t4 t5, tk = [t0, t1, t2, t3, t4, t5] := by
    match tk, hsix.1 with
    | [t0, t1, t2, t3, t4, t5], _ => exact ⟨t0, t1, t2, t3, t4, t5, rfl⟩
   simp only [upL, List.map_cons, List.map_nil, List.cons.injEq, and_true] at hu
   obtain ⟨rfl, rfl, rfl, rfl, rfl, rfl⟩ := hu
   have Rt := Lib.hid (fun W oa c (hi : IntsAt W oa (upL [t0, t1, t2, t3, t4, t5])) => row_six wTin (by decide) t0 t1 t2 t3 t4 t5 hsix.2 oa c W hi)
   have hkI : (k : Int) < (ts.length : Int) := by omega
   clear hT hsix
   go_wp2_with (first | (go_at_call 107; refine (ends_six t0 t1 t2 t3 t4 t5 _).mono ?_; rintro e w3 ⟨o3, c3, rfl, hi3, hE3⟩; have Hi3 := Lib.hid hi3; have HE3 := Lib.hid hE3; clear hi3 hE3 c12 k0 k1 k2 k3 k4 k5) | (go_at_call 106; refine (Rt.out _ _ _ Hi3.out).mono ?_; rintro e w4 ⟨rfl, hE4⟩; have HE4 := Lib.hid (HE3.out.trans hE4); clear hE4) | (at_builtin; refine wpList_app1 _ rfl _ _ 134 rfl 9 Tryz.underlying134 (.string ByteArray.empty) 16 i9 rfl (by decide) w1.heap.size _ _ rfl ((Hown.out.ext HE4.out).ext ((Ext.refl _).alloc _)) w4.heap.size (.string (bs (rowB wTin [t0, t1, t2, t3, t4, t5]))) rfl (by go_simp) rfl ?_ ?_ ?_))
   ·rw [hrl]; omega
   ·have := HE4.out.size; simp; omega
   ·intro v' w5 hown5 hBl _
    rw [← strs_snoc, ← HLk.out] at hown5
    have Ho5 := Lib.hid hown5
    have HE5 := Lib.hid (((HE.out.trans HE4.out).alloc _).below hBl (by omega))
    clear hown5
    go_wp2
    go_roundg (gk - 1)
    case measure => omega
    case rel => exact ⟨k + 1, by omega, by go_num, HE5.out, Ho5.out⟩
  ·have hkk : k = ts.length := by omega
   subst hkk
   have ho := Hown.out
   rw [HLe.out] at ho
   obtain ⟨oR, cR, hv, hst⟩ := own_strs ho
   subst hv
   rw [HLb.out]
   have Rs := Lib.hid (Hseal.out oR cR wo hst)
   rw [HLb.out] at Rs
   clear ho hst hrl
   go_wp2_with (first | (go_at_call 108; refine Rs.out.mono ?_; rintro e w6 ⟨rfl, hE6⟩))
   go_ret
   exact ⟨by rw [Htx.out]; rfl, HE1.out.trans (HE.out.trans hE6)⟩

theorem rprint_any (x : Tx) (hx : Sm x) (hlen : x.tins.length ≤ 900) (ot : Option Addr) (cap : Nat) (w : World) (h : TinsAt w ot (siOf x).tins) :
  Calls Tryz.prog 65 #[sheetV (siOf x) ot cap] w fun e w' => e = .returned (.string (bs (textB x))) ∧ Ext w w' := by
 obtain ⟨hd, fd, ts⟩ := x
 obtain ⟨h1, h2, h3⟩ := hx
 match hd, h1.1, fd, h2.1 with
 | [n0, n1, n2, n3, n4, n5], _, [m0, m1, m2, m3, m4, m5], _ =>
  exact rprint_n n0 n1 n2 n3 n4 n5 m0 m1 m2 m3 m4 m5 ts h1.2 h2.2 h3 hlen ot cap w h
theorem rprint_sh (s : Sh) (g : Fine s) (ot : Option Addr) (cap : Nat) (w : World) (h : TinsAt w ot (ofSh s).tins) :
  Calls Tryz.prog 65 #[sheetV (ofSh s) ot cap] w fun e w' => e = .returned (.string (bs (textB (txOf s)))) ∧ Ext w w' :=
 rprint_any (txOf s) (tx_small g) (by have := g.len2; simp only [txOf]; omega) ot cap w h

end Go.Proofs.YtjpekonfjihcoaaGreatDoor
/- The arguments of a law, and what its walk may ask of a sheet, in a box. No condition. -/
namespace Go.Proofs.YtjpekonfjihcoaaGreatDoor
open Go.RowKit Go.My Go.TintM

structure SArg (w : World) (S : SI) (ot : Option Addr) (cap : Nat) : Prop where
 tins : TinsAt w ot S.tins
 le : S.tins.length ≤ cap
 max : cap ≤ maxLen
 none : ot = none → cap = 0
structure LArg (w : World) (l : List Int) (oa : Option Addr) (cap : Nat) : Prop where
 ints : IntsAt w oa l
 le : l.length ≤ cap
 max : cap ≤ maxLen
 none : oa = none → cap = 0
structure UArg (w : World) (t : TI) (oa : Option Addr) (cap : Nat) : Prop where
 tris : TrisAt w oa t.tins
 le : t.tins.length ≤ cap
 max : cap ≤ maxLen
 none : oa = none → cap = 0
theorem SArg.small {w : World} {S : SI} {ot : Option Addr} {cap : Nat} (h : SArg w S ot cap) : S.tins.length ≤ 9223372036854775807 := by
 have := h.le; have := h.max; unfold maxLen at *; omega
theorem LArg.small {w : World} {l : List Int} {oa : Option Addr} {cap : Nat} (h : LArg w l oa cap) : l.length ≤ 9223372036854775807 := by
 have := h.le; have := h.max; unfold maxLen at *; omega
theorem UArg.small {w : World} {t : TI} {oa : Option Addr} {cap : Nat} (h : UArg w t oa cap) : t.tins.length ≤ 9223372036854775807 := by
 have := h.le; have := h.max; unfold maxLen at *; omega
theorem tins_six {w : World} {ot : Option Addr} {ts : List (List Int)} (h : TinsAt w ot ts) : ∀ t ∈ ts, t.length = 6 := fun t ht => by
 obtain ⟨i, hi⟩ := List.mem_iff_getElem?.1 ht
 obtain ⟨b, off, _, _, h3, _⟩ := h i t hi
 exact h3
theorem tris_three {w : World} {ot : Option Addr} {ts : List (List Int)} (h : TrisAt w ot ts) : ∀ t ∈ ts, t.length = 3 := fun t ht => by
 obtain ⟨i, hi⟩ := List.mem_iff_getElem?.1 ht
 obtain ⟨b, off, _, _, h3, _⟩ := h i t hi
 exact h3
theorem SArg.lift {w : World} {S : SI} {ot : Option Addr} {cap : Nat} (h : SArg w S ot cap) (hb : sheetB S = true) : ∃ s : Sh, S = ofSh s ∧ Fine s := sheet_lift (tins_six h.tins) hb

/-- The box of a law's sheet. -/
structure LB (S : SI) (ot : Option Addr) (cap : Nat) (w W : World) : Prop where
 ext : Ext w W
 tins : TinsAt W ot S.tins
 box : SheetBox W w.heap.size S ot cap
section
variable {S : SI} {ot : Option Addr} {cap : Nat} {w W W' : World}
theorem LB.start (h : TinsAt w ot S.tins) : LB S ot cap w (w.alloc (.cells (sheetC S ot cap) 28)) := ⟨(Ext.refl w).alloc _, h.ext ((Ext.refl w).alloc _), SheetBox.new w S ot cap⟩
theorem LB.next (h : LB S ot cap w W) (hE : Ext W W') : LB S ot cap w W' := ⟨h.ext.trans hE, h.tins.ext hE, h.box.ext hE⟩
theorem LB.alloc (h : LB S ot cap w W) (o : Obj) : LB S ot cap w (W.alloc o) := h.next ((Ext.refl W).alloc o)
end

/-- A box of some values. -/
def VB (W : World) (b : Nat) (vs : List Value) : Prop := ∀ (j : Nat) (v : Value), vs[j]? = some v → W.cell? ⟨b, j, none⟩ = some v
theorem VB.new (w : World) (vs : List Value) (t : TypeId) : VB (w.alloc (.cells vs.toArray t)) w.heap.size vs := fun j v hv => by
 rw [cell_of_row _ _ j _ _ _ (heap_alloc_new w _)]; simpa using hv
theorem VB.ext {W W' : World} {b : Nat} {vs : List Value} (h : VB W b vs) (hE : Ext W W') : VB W' b vs := fun j v hv => cell_ext hE (h j v hv)

theorem short_any (S : SI) (ot : Option Addr) (cap : Nat) (w : World) (hl : S.tins.length ≤ 9223372036854775807) : Calls Tryz.prog 21 #[sheetV S ot cap] w fun e w' => e = .returned (.bool (decide (S.tins.length ≤ 6))) ∧ Ext w w' := by
 by_cases h : S.tins.length ≤ 6
 ·have hI : (S.tins.length : Int) ≤ 6 := by omega
  rw [decide_eq_true h]
  clear h
  go_enter Tryz.func21, Tryz.ntmps21
  go_wp2
  go_ret
  exact ⟨rfl, (Ext.refl w).alloc _⟩
 ·have hI : ¬ (S.tins.length : Int) ≤ 6 := by omega
  rw [decide_eq_false h]
  clear h
  go_enter Tryz.func21, Tryz.ntmps21
  go_wp2
  go_ret
  exact ⟨rfl, (Ext.refl w).alloc _⟩

/-- Whether a sheet and a mixture are short, and as defined. -/
def rightB (S : SI) (l : List Int) : Bool := decide (S.tins.length ≤ 6) && (decide (l.length ≤ 6) && (sheetB S && mixB S l))

theorem right_any (S : SI) (ot : Option Addr) (cap : Nat) (l : List Int) (ol : Option Addr) (cl : Nat) (w : World) (h : TinsAt w ot S.tins) (hl : S.tins.length ≤ 9223372036854775807) (hi : IntsAt w ol l) (hll : l.length ≤ 9223372036854775807) :
  Calls Tryz.prog 32 #[sheetV S ot cap, .slice ol l.length cl] w fun e w' => e = .returned (.bool (rightB S l)) ∧ Ext w w' := by
 have B := Lib.hid (LB.start (cap := cap) h)
 have R21 := Lib.hid (fun W => short_any S ot cap W hl)
 have R24 := Lib.hid (fun W (hW : LB S ot cap w W) => rSheet_any S ot cap W hW.tins hl)
 clear h
 by_cases h6 : S.tins.length ≤ 6
 ·rw [decide_eq_true h6] at R21
  by_cases hl6 : l.length ≤ 6
  ·have hl6I : (l.length : Int) ≤ 6 := by omega
   have R25 := Lib.hid (fun W (hW : LB S ot cap w W) => rMix_any S ot cap l ol cl W (hi.ext hW.ext) (by omega))
   have hr : rightB S l = (sheetB S && mixB S l) := by simp [rightB, h6, hl6]
   rw [hr]
   clear hr hi hl h6 hl6 hll
   generalize mixB S l = q at *
   generalize sheetB S = p at *
   cases p
   ·go_enter Tryz.func32, Tryz.ntmps32
    go_wp2_with (first | (go_at_call 21; refine (R21.out _).mono ?_; rintro e w9 ⟨rfl, hE9⟩; replace B := Lib.hid (B.out.next hE9); (try clear c0 c1 c2 c3 c4 c5 c6 c7 c8 c9 c10 c11 c12); have c0 := B.out.box 0 _ rfl; have c1 := B.out.box 1 _ rfl; have c2 := B.out.box 2 _ rfl; have c3 := B.out.box 3 _ rfl; have c4 := B.out.box 4 _ rfl; have c5 := B.out.box 5 _ rfl; have c6 := B.out.box 6 _ rfl; have c7 := B.out.box 7 _ rfl; have c8 := B.out.box 8 _ rfl; have c9 := B.out.box 9 _ rfl; have c10 := B.out.box 10 _ rfl; have c11 := B.out.box 11 _ rfl; have c12 := B.out.box 12 _ rfl; clear hE9) | (go_at_call 24; refine (R24.out _ B.out).mono ?_; rintro e w9 ⟨rfl, hE9⟩; replace B := Lib.hid (B.out.next hE9); (try clear c0 c1 c2 c3 c4 c5 c6 c7 c8 c9 c10 c11 c12); have c0 := B.out.box 0 _ rfl; have c1 := B.out.box 1 _ rfl; have c2 := B.out.box 2 _ rfl; have c3 := B.out.box 3 _ rfl; have c4 := B.out.box 4 _ rfl; have c5 := B.out.box 5 _ rfl; have c6 := B.out.box 6 _ rfl; have c7 := B.out.box 7 _ rfl; have c8 := B.out.box 8 _ rfl; have c9 := B.out.box 9 _ rfl; have c10 := B.out.box 10 _ rfl; have c11 := B.out.box 11 _ rfl; have c12 := B.out.box 12 _ rfl; clear hE9) | (go_at_call 25; refine (R25.out _ B.out).mono ?_; rintro e w9 ⟨rfl, hE9⟩; replace B := Lib.hid (B.out.next hE9); (try clear c0 c1 c2 c3 c4 c5 c6 c7 c8 c9 c10 c11 c12); have c0 := B.out.box 0 _ rfl; have c1 := B.out.box 1 _ rfl; have c2 := B.out.box 2 _ rfl; have c3 := B.out.box 3 _ rfl; have c4 := B.out.box 4 _ rfl; have c5 := B.out.box 5 _ rfl; have c6 := B.out.box 6 _ rfl; have c7 := B.out.box 7 _ rfl; have c8 := B.out.box 8 _ rfl; have c9 := B.out.box 9 _ rfl; have c10 := B.out.box 10 _ rfl; have c11 := B.out.box 11 _ rfl; have c12 := B.out.box 12 _ rfl; clear hE9))
    go_ret
    exact ⟨rfl, B.out.ext⟩
   ·cases q
    ·go_enter Tryz.func32, Tryz.ntmps32
     go_wp2_with (first | (go_at_call 21; refine (R21.out _).mono ?_; rintro e w9 ⟨rfl, hE9⟩; replace B := Lib.hid (B.out.next hE9); (try clear c0 c1 c2 c3 c4 c5 c6 c7 c8 c9 c10 c11 c12); have c0 := B.out.box 0 _ rfl; have c1 := B.out.box 1 _ rfl; have c2 := B.out.box 2 _ rfl; have c3 := B.out.box 3 _ rfl; have c4 := B.out.box 4 _ rfl; have c5 := B.out.box 5 _ rfl; have c6 := B.out.box 6 _ rfl; have c7 := B.out.box 7 _ rfl; have c8 := B.out.box 8 _ rfl; have c9 := B.out.box 9 _ rfl; have c10 := B.out.box 10 _ rfl; have c11 := B.out.box 11 _ rfl; have c12 := B.out.box 12 _ rfl; clear hE9) | (go_at_call 24; refine (R24.out _ B.out).mono ?_; rintro e w9 ⟨rfl, hE9⟩; replace B := Lib.hid (B.out.next hE9); (try clear c0 c1 c2 c3 c4 c5 c6 c7 c8 c9 c10 c11 c12); have c0 := B.out.box 0 _ rfl; have c1 := B.out.box 1 _ rfl; have c2 := B.out.box 2 _ rfl; have c3 := B.out.box 3 _ rfl; have c4 := B.out.box 4 _ rfl; have c5 := B.out.box 5 _ rfl; have c6 := B.out.box 6 _ rfl; have c7 := B.out.box 7 _ rfl; have c8 := B.out.box 8 _ rfl; have c9 := B.out.box 9 _ rfl; have c10 := B.out.box 10 _ rfl; have c11 := B.out.box 11 _ rfl; have c12 := B.out.box 12 _ rfl; clear hE9) | (go_at_call 25; refine (R25.out _ B.out).mono ?_; rintro e w9 ⟨rfl, hE9⟩; replace B := Lib.hid (B.out.next hE9); (try clear c0 c1 c2 c3 c4 c5 c6 c7 c8 c9 c10 c11 c12); have c0 := B.out.box 0 _ rfl; have c1 := B.out.box 1 _ rfl; have c2 := B.out.box 2 _ rfl; have c3 := B.out.box 3 _ rfl; have c4 := B.out.box 4 _ rfl; have c5 := B.out.box 5 _ rfl; have c6 := B.out.box 6 _ rfl; have c7 := B.out.box 7 _ rfl; have c8 := B.out.box 8 _ rfl; have c9 := B.out.box 9 _ rfl; have c10 := B.out.box 10 _ rfl; have c11 := B.out.box 11 _ rfl; have c12 := B.out.box 12 _ rfl; clear hE9))
     go_ret
     exact ⟨rfl, B.out.ext⟩
    ·go_enter Tryz.func32, Tryz.ntmps32
     go_wp2_with (first | (go_at_call 21; refine (R21.out _).mono ?_; rintro e w9 ⟨rfl, hE9⟩; replace B := Lib.hid (B.out.next hE9); (try clear c0 c1 c2 c3 c4 c5 c6 c7 c8 c9 c10 c11 c12); have c0 := B.out.box 0 _ rfl; have c1 := B.out.box 1 _ rfl; have c2 := B.out.box 2 _ rfl; have c3 := B.out.box 3 _ rfl; have c4 := B.out.box 4 _ rfl; have c5 := B.out.box 5 _ rfl; have c6 := B.out.box 6 _ rfl; have c7 := B.out.box 7 _ rfl; have c8 := B.out.box 8 _ rfl; have c9 := B.out.box 9 _ rfl; have c10 := B.out.box 10 _ rfl; have c11 := B.out.box 11 _ rfl; have c12 := B.out.box 12 _ rfl; clear hE9) | (go_at_call 24; refine (R24.out _ B.out).mono ?_; rintro e w9 ⟨rfl, hE9⟩; replace B := Lib.hid (B.out.next hE9); (try clear c0 c1 c2 c3 c4 c5 c6 c7 c8 c9 c10 c11 c12); have c0 := B.out.box 0 _ rfl; have c1 := B.out.box 1 _ rfl; have c2 := B.out.box 2 _ rfl; have c3 := B.out.box 3 _ rfl; have c4 := B.out.box 4 _ rfl; have c5 := B.out.box 5 _ rfl; have c6 := B.out.box 6 _ rfl; have c7 := B.out.box 7 _ rfl; have c8 := B.out.box 8 _ rfl; have c9 := B.out.box 9 _ rfl; have c10 := B.out.box 10 _ rfl; have c11 := B.out.box 11 _ rfl; have c12 := B.out.box 12 _ rfl; clear hE9) | (go_at_call 25; refine (R25.out _ B.out).mono ?_; rintro e w9 ⟨rfl, hE9⟩; replace B := Lib.hid (B.out.next hE9); (try clear c0 c1 c2 c3 c4 c5 c6 c7 c8 c9 c10 c11 c12); have c0 := B.out.box 0 _ rfl; have c1 := B.out.box 1 _ rfl; have c2 := B.out.box 2 _ rfl; have c3 := B.out.box 3 _ rfl; have c4 := B.out.box 4 _ rfl; have c5 := B.out.box 5 _ rfl; have c6 := B.out.box 6 _ rfl; have c7 := B.out.box 7 _ rfl; have c8 := B.out.box 8 _ rfl; have c9 := B.out.box 9 _ rfl; have c10 := B.out.box 10 _ rfl; have c11 := B.out.box 11 _ rfl; have c12 := B.out.box 12 _ rfl; clear hE9))
     go_ret
     exact ⟨rfl, B.out.ext⟩
  ·have hl6I : ¬ (l.length : Int) ≤ 6 := by omega
   have hr : rightB S l = false := by simp [rightB, hl6]
   rw [hr]
   clear hr hi hl h6 hl6 hll
   go_enter Tryz.func32, Tryz.ntmps32
   go_wp2_with (first | (go_at_call 21; refine (R21.out _).mono ?_; rintro e w9 ⟨rfl, hE9⟩; replace B := Lib.hid (B.out.next hE9); (try clear c0 c1 c2 c3 c4 c5 c6 c7 c8 c9 c10 c11 c12); have c0 := B.out.box 0 _ rfl; have c1 := B.out.box 1 _ rfl; have c2 := B.out.box 2 _ rfl; have c3 := B.out.box 3 _ rfl; have c4 := B.out.box 4 _ rfl; have c5 := B.out.box 5 _ rfl; have c6 := B.out.box 6 _ rfl; have c7 := B.out.box 7 _ rfl; have c8 := B.out.box 8 _ rfl; have c9 := B.out.box 9 _ rfl; have c10 := B.out.box 10 _ rfl; have c11 := B.out.box 11 _ rfl; have c12 := B.out.box 12 _ rfl; clear hE9))
   go_ret
   exact ⟨rfl, B.out.ext⟩
 ·rw [decide_eq_false h6] at R21
  have hr : rightB S l = false := by simp [rightB, h6]
  rw [hr]
  clear hr hi hl h6 hll
  go_enter Tryz.func32, Tryz.ntmps32
  go_wp2_with (first | (go_at_call 21; refine (R21.out _).mono ?_; rintro e w9 ⟨rfl, hE9⟩; replace B := Lib.hid (B.out.next hE9); (try clear c0 c1 c2 c3 c4 c5 c6 c7 c8 c9 c10 c11 c12); have c0 := B.out.box 0 _ rfl; have c1 := B.out.box 1 _ rfl; have c2 := B.out.box 2 _ rfl; have c3 := B.out.box 3 _ rfl; have c4 := B.out.box 4 _ rfl; have c5 := B.out.box 5 _ rfl; have c6 := B.out.box 6 _ rfl; have c7 := B.out.box 7 _ rfl; have c8 := B.out.box 8 _ rfl; have c9 := B.out.box 9 _ rfl; have c10 := B.out.box 10 _ rfl; have c11 := B.out.box 11 _ rfl; have c12 := B.out.box 12 _ rfl; clear hE9))
  go_ret
  exact ⟨rfl, B.out.ext⟩

theorem right_lift {w : World} {S : SI} {ot : Option Addr} {cap : Nat} {l : List Int} (h : SArg w S ot cap) (hr : rightB S l = true) : ∃ (s : Sh) (m : List Nat), S = ofSh s ∧ Fine s ∧ l = upL m ∧ IsMix s m := by
 simp only [rightB, Bool.and_eq_true] at hr
 obtain ⟨s, rfl, g⟩ := h.lift hr.2.2.1
 obtain ⟨m, rfl, hm⟩ := mix_lift hr.2.2.2
 exact ⟨s, m, rfl, g, rfl, hm⟩
theorem right_of {s : Sh} (g : Fine s) {m : List Nat} (hm : IsMix s m) : rightB (ofSh s) (upL m) = true := by
 have h1 := g.len2
 have h2 := hm.len
 simp only [rightB, Bool.and_eq_true, decide_eq_true_eq, tins_len, upL_length, sheet_of g, mix_of hm, and_true]
 omega

theorem word45 (s : Sh) (g : Fine s) (m : List Nat) (hm : IsMix s m) (ot : Option Addr) (cap : Nat) (ol : Option Addr) (cl : Nat) (w : World) (h : TinsAt w ot (ofSh s).tins) (hi : IntsAt w ol (upL m)) :
  Calls Tryz.prog 45 #[sheetV (ofSh s) ot cap, .slice ol m.length cl] w fun e w' => e = .returned (.tuple #[.int .i64 (wordOf s m), .bool true]) ∧ Ext w w' := by
 have B := Lib.hid (LB.start (cap := cap) h)
 have R28 := Lib.hid (fun W (hW : LB (ofSh s) ot cap w W) => sWord_ok s g m hm ot cap ol cl W hW.tins (hi.ext hW.ext))
 obtain ⟨h1, h3⟩ := word_in s m
 clear g hm h hi
 generalize wordOf s m = X at *
 go_enter Tryz.func45, Tryz.ntmps45
 go_wp2_with (first | (go_at_call 28; refine (R28.out _ B.out).mono ?_; rintro e w9 ⟨rfl, hE9⟩; replace B := Lib.hid (B.out.next hE9); (try clear c0 c1 c2 c3 c4 c5 c6 c7 c8 c9 c10 c11 c12); have c0 := B.out.box 0 _ rfl; have c1 := B.out.box 1 _ rfl; have c2 := B.out.box 2 _ rfl; have c3 := B.out.box 3 _ rfl; have c4 := B.out.box 4 _ rfl; have c5 := B.out.box 5 _ rfl; have c6 := B.out.box 6 _ rfl; have c7 := B.out.box 7 _ rfl; have c8 := B.out.box 8 _ rfl; have c9 := B.out.box 9 _ rfl; have c10 := B.out.box 10 _ rfl; have c11 := B.out.box 11 _ rfl; have c12 := B.out.box 12 _ rfl; clear hE9))
 refine bodyPost_ret (results_tmp2 rfl _ _ _) (by simp) ⟨rfl, B.out.ext⟩

end Go.Proofs.YtjpekonfjihcoaaGreatDoor
