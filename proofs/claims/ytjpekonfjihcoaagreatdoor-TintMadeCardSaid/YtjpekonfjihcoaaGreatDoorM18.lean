/- Contracts and mathematics, joined: TextA, TextB, TextC, TextE, TextD. Conditions stand with each. -/
import Derived.ArgAppend
import Derived.Below
import Derived.BigQuiet
import Derived.Deep.DeepCutAuto
import Derived.Deep.DeepFit
import Derived.Deep.LoopGhost
import Derived.Deep.QuietTactic
import Derived.Deep.RegionHeld
import Derived.Deep.RegionHeld3
import Derived.Deep.RegionWith
import Derived.Defers
import Derived.Laws.BytesArg
import Derived.Laws.EntriesVeiled
import Derived.Laws.OwnMore
import Derived.Lib.Hide
import Derived.Lib.IndexBytes
import Derived.Lib.ItoaNum
import Derived.Lib.SplitLaws
import Derived.LoopIn
import Derived.LoopNIn
import Derived.Maps.AppendAt
import Derived.Maps.Keyed
import Derived.Maps.OwnIn
import Derived.OrdersHeld
import Derived.OwnWalkIn
import Derived.RangeFuncBound
import Derived.RangeFuncCalls
import Derived.RangeFuncLeaves
import Derived.RangeFuncNested
import Derived.Recover
import Derived.RegionIn
import Derived.Shelf.Abstract
import Derived.Shelf.Strconv.Itoa3
import Derived.Shelf.Strings.Split
import Derived.TacticsIn
import Derived.TacticsInMore
import Derived.Test.YtjpekonfjihcoaaGreatDoorProg
import Derived.WalkKit
import Derived.WalkLawsBesides
import Derived.WalkSpells
import Derived.Test.YtjpekonfjihcoaaGreatDoorM2
import Derived.Test.YtjpekonfjihcoaaGreatDoorM4
import Derived.Test.YtjpekonfjihcoaaGreatDoorM6
import Derived.Test.YtjpekonfjihcoaaGreatDoorM11
import Derived.Test.YtjpekonfjihcoaaGreatDoorM14
import Derived.Test.YtjpekonfjihcoaaGreatDoorM1
import Derived.Test.YtjpekonfjihcoaaGreatDoorM17
import Derived.Test.YtjpekonfjihcoaaGreatDoorM7
import Derived.Test.YtjpekonfjihcoaaGreatDoorM12
import Derived.Test.YtjpekonfjihcoaaGreatDoorM8
import Derived.Test.YtjpekonfjihcoaaGreatDoorM13
import Derived.Test.YtjpekonfjihcoaaGreatDoorM3
import Derived.Test.YtjpekonfjihcoaaGreatDoorM5
namespace Go.TintM
end Go.TintM
set_option maxRecDepth 100000
set_option maxHeartbeats 64000000
set_option linter.unusedVariables false
set_option linter.unusedSimpArgs false
/- Contracts: ends, the numbers of lines, names. No condition. -/
namespace Go.Proofs.YtjpekonfjihcoaaGreatDoor
open Go.RowKit Go.My Go.TintM

/-- The numbers of three spans. -/
abbrev sixL (x0 x1 x2 x3 x4 x5 : Int) : List Int := [x0, x1, x2, x3, x4, x5]
abbrev sixV (x0 x1 x2 x3 x4 x5 : Int) : Value := .agg #[.int .i64 x0, .int .i64 x1, .int .i64 x2, .int .i64 x3, .int .i64 x4, .int .i64 x5]
theorem index25g (x0 x1 x2 x3 x4 x5 : Int) {k : Nat} (hk : k < 3) (w : World) : (Instr.index 25 (sixV x0 x1 x2 x3 x4 x5) (.int .i64 (k : Nat))).run Tryz.prog w = .ok (spanV ((sixL x0 x1 x2 x3 x4 x5).getD (2 * k) 0) ((sixL x0 x1 x2 x3 x4 x5).getD (2 * k + 1) 0)) w := by
 match k, hk with
 | 0, _ => exact index25_0 _ _ _ _ _ _ w
 | 1, _ => exact index25_1 _ _ _ _ _ _ w
 | 2, _ => exact index25_2 _ _ _ _ _ _ w
theorem six_take (x0 x1 x2 x3 x4 x5 : Int) {k : Nat} (hk : k < 3) : (sixL x0 x1 x2 x3 x4 x5).take (2 * (k + 1)) = (sixL x0 x1 x2 x3 x4 x5).take (2 * k) ++ [(sixL x0 x1 x2 x3 x4 x5).getD (2 * k) 0, (sixL x0 x1 x2 x3 x4 x5).getD (2 * k + 1) 0] := by
 match k, hk with
 | 0, _ => rfl
 | 1, _ => rfl
 | 2, _ => rfl
theorem two_cells (w : World) (x y : Int) : ∀ (j : Nat) (u : Value), [Value.int .i64 x, .int .i64 y][j]? = some u → (w.alloc (.cells #[.int .i64 x, .int .i64 y] 3)).cell? ((⟨w.heap.size, 0, none⟩ : Addr).add j) = some u := fun j u hu => by
 rw [add_none, Nat.zero_add, cell_of_row _ _ j _ _ _ (heap_alloc_new w _)]
 simpa using hu

theorem ends_any (x0 x1 x2 x3 x4 x5 : Int) (w : World) : Calls Tryz.prog 189 #[sixV x0 x1 x2 x3 x4 x5] w fun e w' => ∃ v, e = .returned v ∧ My.Own w' w.heap.size 3 v ((sixL x0 x1 x2 x3 x4 x5).map (Value.int .i64)) ∧ Ext w w' := by
 have Ht := Lib.hid (fun k (hk : k < 3) => six_take x0 x1 x2 x3 x4 x5 hk)
 have hix := fun k (hk : k < 3) => index25g x0 x1 x2 x3 x4 x5 hk
 have Hix := Lib.hid hix
 clear hix
 go_enter Tryz.func189, Tryz.ntmps189
 go_wp2
 go_loopg [3, 7] 3 (fun g v i wr => ∃ k : Nat, k + g = 3 ∧ i = .int .i64 k ∧ Ext w wr ∧ My.Own wr w.heap.size 3 v (((sixL x0 x1 x2 x3 x4 x5).take (2 * k)).map (Value.int .i64)))
 case atStart => exact ⟨0, by omega, rfl, (Ext.refl w).alloc _, My.Own.nil _ _ _⟩
 case round =>
  obtain ⟨k, hk, rfl, hE, hown⟩ := hrel
  have HE := Lib.hid hE
  have Hown := Lib.hid hown
  have hsw := hE.size
  by_cases hk3 : k < 3
  ·have hkI : (k : Int) < 3 := by omega
   have hix := Hix.out k hk3
   have Hst := Lib.hid (Ht.out k hk3)
   have hlen : (((sixL x0 x1 x2 x3 x4 x5).take (2 * k)).map (Value.int .i64)).length ≤ 6 := by simp; omega
   obtain ⟨ii, hi1, hi2, hi3, hi4⟩ := info_parts i3
   clear hE hown
   generalize (sixL x0 x1 x2 x3 x4 x5).getD (2 * k) 0 = A at *
   generalize (sixL x0 x1 x2 x3 x4 x5).getD (2 * k + 1) 0 = B at *
   generalize hY : ((sixL x0 x1 x2 x3 x4 x5).take (2 * k)).map (Value.int .i64) = ys at *
   have HY := Lib.hid hY
   clear hY
   have hc := two_cells (wr.alloc (.cells #[.int .i64 A, .int .i64 B] 24)) A B
   go_wp2_with (first | (at_builtin; refine wpList_append_own_at _ rfl _ _ 29 rfl w.heap.size 3 ii (.int .i64 0) 1 8 Tryz.underlying29 hi1 hi2 hi3 hi4 rfl (by decide) _ ys.length ys rfl ((Hown.out.ext ((Ext.refl _).alloc _)).ext ((Ext.refl _).alloc _)) ⟨wr.heap.size + 1, 0, none⟩ 2 2 [.int .i64 A, .int .i64 B] rfl rfl ?_ (by simp [Value.oneCell']) (by unfold maxLen; omega) (by omega) (by simp; omega) ?_))
   ·rw [World.size_alloc] at hc; exact hc
   ·intro v' w2 hr2 hg2 _ _
    have ho2 : My.Own w2 w.heap.size 3 v' (((sixL x0 x1 x2 x3 x4 x5).take (2 * (k + 1))).map (Value.int .i64)) := by
     rw [Hst.out, List.map_append, HY.out]
     unfold My.Own
     rw [List.length_append]
     exact hr2
    have Ho2 := Lib.hid ho2
    have HE2 := Lib.hid (((HE.out.alloc (.cells #[.int .i64 A, .int .i64 B] 24)).alloc (.cells #[.int .i64 A, .int .i64 B] 3)).below ((Below.refl w.heap.size _).grown hg2 (by simp; omega) fun b hb => (Hown.out.lt b hb).1) (Nat.le_refl _))
    clear ho2 hr2 hg2 hc hix
    go_wp2
    go_roundg (gk - 1)
    case measure => omega
    case rel => exact ⟨k + 1, by omega, by go_num, HE2.out, Ho2.out⟩
  ·obtain rfl : k = 3 := by omega
   go_wp2
   go_ret
   exact ⟨_, rfl, Hown.out, HE.out⟩

theorem numbers_fade (S : SI) (ot : Option Addr) (cap : Nat) (w : World) : Calls Tryz.prog 188 #[sheetV S ot cap] w fun e w' => ∃ v, e = .returned v ∧ My.Own w' w.heap.size 3 v ((sixL S.a0 S.b0 S.a1 S.b1 S.a2 S.b2).map (Value.int .i64)) ∧ Ext w w' := by
 have R := Lib.hid (fun W => ends_any S.a0 S.b0 S.a1 S.b1 S.a2 S.b2 W)
 go_enter Tryz.func188, Tryz.ntmps188
 go_wp2_with (first | (go_at_call 189; refine (R.out _).mono ?_; rintro e w1 ⟨v1, rfl, ho1, hE1⟩; have Ho1 := Lib.hid ho1; have HE1 := Lib.hid (((Ext.refl w).alloc _).trans hE1); clear ho1 hE1))
 go_ret
 exact ⟨_, rfl, Ho1.out.low (by simp), HE1.out⟩
theorem numbers_tin (x0 x1 x2 x3 x4 x5 : Int) (w : World) : Calls Tryz.prog 190 #[sixV x0 x1 x2 x3 x4 x5] w fun e w' => ∃ v, e = .returned v ∧ My.Own w' w.heap.size 3 v ((sixL x0 x1 x2 x3 x4 x5).map (Value.int .i64)) ∧ Ext w w' := by
 have R := Lib.hid (fun W => ends_any x0 x1 x2 x3 x4 x5 W)
 go_enter Tryz.func190, Tryz.ntmps190
 go_wp2_with (first | (go_at_call 189; refine (R.out _).mono ?_; rintro e w1 ⟨v1, rfl, ho1, hE1⟩; have Ho1 := Lib.hid ho1; have HE1 := Lib.hid (((Ext.refl w).alloc _).trans hE1); clear ho1 hE1))
 go_ret
 exact ⟨_, rfl, Ho1.out.low (by simp), HE1.out⟩

theorem three_cells (w : World) (x y z : Int) : ∀ (j : Nat) (u : Value), [Value.int .i64 x, .int .i64 y, .int .i64 z][j]? = some u → (w.alloc (.cells #[.int .i64 x, .int .i64 y, .int .i64 z] 3)).cell? ((⟨w.heap.size, 0, none⟩ : Addr).add j) = some u := fun j u hu => by
 rw [add_none, Nat.zero_add, cell_of_row _ _ j _ _ _ (heap_alloc_new w _)]
 simpa using hu

theorem numbers_head (S : SI) (ot : Option Addr) (cap : Nat) (w : World) : Calls Tryz.prog 187 #[sheetV S ot cap] w fun e w' => ∃ v, e = .returned v ∧ My.Own w' w.heap.size 3 v ((sixL S.o0 S.o1 S.o2 S.ylo S.yhi S.off).map (Value.int .i64)) ∧ Ext w w' := by
 have hcl := fun W (hi : IntsAt W (some ⟨w.heap.size, 0, none⟩) [S.o0, S.o1, S.o2]) => clone_ints (l := [S.o0, S.o1, S.o2]) (cap := 3) hi (by simp) (fun h => by cases h) (by simp)
 have Hcl := Lib.hid hcl
 clear hcl
 obtain ⟨ii, hi1, hi2, hi3, hi4⟩ := info_parts i3
 go_enter Tryz.func187, Tryz.ntmps187
 go_wp2
 obtain ⟨w0, hw0⟩ : ∃ W, W = w.alloc (.cells (sheetC S ot cap) 156) := ⟨_, rfl⟩
 have HE0 := Lib.hid (show Ext w w0 by rw [hw0]; exact (Ext.refl w).alloc _)
 have hs0 : w.heap.size + 1 = w0.heap.size := by rw [hw0]; simp
 have HB := Lib.hid (show SheetBox w0 w.heap.size S ot cap by
  rw [hw0]; exact fun i v hv => by rw [cell_of_row _ _ i _ _ _ (heap_alloc_new w _)]; exact hv)
 have Hi := Lib.hid (show ∀ W, Ext w0 W → IntsAt W (some ⟨w.heap.size, 0, none⟩) [S.o0, S.o1, S.o2] from fun W hW i x hx => by
  have hb := HB.out.ext hW
  refine ⟨w.heap.size, 0, rfl, by have := hW.size; omega, ?_⟩
  match i, hx with
  | 0, hx => simp at hx; subst hx; exact hb 0 _ rfl
  | 1, hx => simp at hx; subst hx; exact hb 1 _ rfl
  | 2, hx => simp at hx; subst hx; exact hb 2 _ rfl)
 rw [← hw0]
 have hs1 : w.heap.size < w0.heap.size := by omega
 clear hw0 hs0
 refine wp_region_plan (.take 0 <| .take 1 <| .take 2 <| .take 4 <| .take 5 <| .take 6 <| .take 7 <| .take 8 <| .take 9 <| .take 10 <| .take 11 <| .take 12 <| .take 13 <| .take 14 <| .two 3 15 (.only 15 <| .only 16 <| .take 17 <| .done) (.only 3 <| .only 16 <| .take 17 <| .done)) (fun W => Ext w0 W) mixed (by kernel_rfl) (by kernel_rfl) rfl (fun _ _ d _ _ h => by cases d <;> exact h) ((Ext.refl w0).drew) ?_
 repeat ((first | (refine plan_take (v := ?_) rfl rfl (fun W hW => ?_) ?_; rotate_left; (focus (have c0 : World.cell? W ⟨w.heap.size, 0, none⟩ = some (.int .i64 S.o0) := (HB.out.ext hW) 0 _ rfl; have c1 : World.cell? W ⟨w.heap.size, 1, none⟩ = some (.int .i64 S.o1) := (HB.out.ext hW) 1 _ rfl; have c2 : World.cell? W ⟨w.heap.size, 2, none⟩ = some (.int .i64 S.o2) := (HB.out.ext hW) 2 _ rfl; have c3 : World.cell? W ⟨w.heap.size, 3, none⟩ = some (.int .i64 S.a0) := (HB.out.ext hW) 3 _ rfl; have c4 : World.cell? W ⟨w.heap.size, 4, none⟩ = some (.int .i64 S.b0) := (HB.out.ext hW) 4 _ rfl; have c5 : World.cell? W ⟨w.heap.size, 5, none⟩ = some (.int .i64 S.a1) := (HB.out.ext hW) 5 _ rfl; have c6 : World.cell? W ⟨w.heap.size, 6, none⟩ = some (.int .i64 S.b1) := (HB.out.ext hW) 6 _ rfl; have c7 : World.cell? W ⟨w.heap.size, 7, none⟩ = some (.int .i64 S.a2) := (HB.out.ext hW) 7 _ rfl; have c8 : World.cell? W ⟨w.heap.size, 8, none⟩ = some (.int .i64 S.b2) := (HB.out.ext hW) 8 _ rfl; have c9 : World.cell? W ⟨w.heap.size, 9, none⟩ = some (.int .i64 S.ylo) := (HB.out.ext hW) 9 _ rfl; have c10 : World.cell? W ⟨w.heap.size, 10, none⟩ = some (.int .i64 S.yhi) := (HB.out.ext hW) 10 _ rfl; have c11 : World.cell? W ⟨w.heap.size, 11, none⟩ = some (.int .i64 S.off) := (HB.out.ext hW) 11 _ rfl; have c12 : World.cell? W ⟨w.heap.size, 12, none⟩ = some (.slice ot S.tins.length cap) := (HB.out.ext hW) 12 _ rfl; go_simp; first | exact rfl | (split <;> first | exact rfl | (exfalso; omega)) | done))) | refine plan_skip rfl rfl ?_); simp only [puts])
 have ed := (Ext.refl w0).drew
 refine plan_two rfl rfl ?_ ?_
 ·intro K hK
  go_wp2_with (first | (go_at_call 125; refine (Hcl.out _ (Hi.out _ ed)).mono ?_; rintro e wa ⟨va, rfl, ho, ha⟩))
  have ea := ed.trans ha
  refine hK _ _ ea ?_
  refine plan_walk rfl ?_; intro K hK
  go_wp2
  have ho' := ho.ext ((Ext.refl wa).alloc (.cells #[.int .i64 S.ylo, .int .i64 S.yhi, .int .i64 S.off] 3))
  have hc := three_cells wa S.ylo S.yhi S.off
  refine hK _ _ (ea.alloc _) ?_
  refine plan_walk rfl ?_; intro K hK
  go_wp2_with (first | (at_builtin; refine wpList_append_own_at _ rfl _ _ 29 rfl w0.heap.size 3 ii (.int .i64 0) 1 8 Tryz.underlying29 hi1 hi2 hi3 hi4 rfl (by decide) _ 3 [.int .i64 S.o0, .int .i64 S.o1, .int .i64 S.o2] rfl ho' ⟨wa.heap.size, 0, none⟩ 3 3 [.int .i64 S.ylo, .int .i64 S.yhi, .int .i64 S.off] rfl rfl hc (by simp [Value.oneCell']) (by unfold maxLen; omega) (by omega) (ea.alloc _).size ?_))
  intro v' w2 hr2 hg2 _ _
  have ho2 : My.Own w2 w0.heap.size 3 v' ((sixL S.o0 S.o1 S.o2 S.ylo S.yhi S.off).map (Value.int .i64)) := hr2
  have e2 : Ext w0 w2 := (ea.alloc _).below ((Below.refl w0.heap.size _).grown hg2 (ea.alloc _).size fun b hb => (ho'.lt b hb).1) (Nat.le_refl _)
  refine hK _ _ e2 ?_
  repeat ((first | (refine plan_take (v := ?_) rfl rfl (fun W hW => ?_) ?_; rotate_left; (focus (skip; go_simp; first | exact rfl | (split <;> first | exact rfl | (exfalso; omega)) | done))) | refine plan_skip rfl rfl ?_); simp only [puts])
  refine plan_done ?_
  have Ho2 := Lib.hid ho2
  have HE2 := Lib.hid (HE0.out.trans e2)
  clear ho2 e2 hr2 hg2 ho' ho hc
  go_wp2
  go_ret
  exact ⟨_, rfl, Ho2.out.low (by omega), HE2.out⟩
 ·intro K hK
  go_wp2
  have eb := ed.alloc (.cells #[.int .i64 S.ylo, .int .i64 S.yhi, .int .i64 S.off] 3)
  refine hK _ _ eb ?_
  refine plan_walk rfl ?_; intro K hK
  go_wp2_with (first | (go_at_call 125; refine (Hcl.out _ (Hi.out _ eb)).mono ?_; rintro e wa ⟨va, rfl, ho, ha⟩))
  have ea := eb.trans ha
  refine hK _ _ ea ?_
  refine plan_walk rfl ?_; intro K hK
  have hc := fun j u hu => cell_ext ha (three_cells w0.drew S.ylo S.yhi S.off j u hu)
  have ho' := ho.low (b' := w0.heap.size) eb.size
  go_wp2_with (first | (at_builtin; refine wpList_append_own_at _ rfl _ _ 29 rfl w0.heap.size 3 ii (.int .i64 0) 1 8 Tryz.underlying29 hi1 hi2 hi3 hi4 rfl (by decide) _ 3 [.int .i64 S.o0, .int .i64 S.o1, .int .i64 S.o2] rfl ho' ⟨w0.heap.size, 0, none⟩ 3 3 [.int .i64 S.ylo, .int .i64 S.yhi, .int .i64 S.off] rfl rfl hc (by simp [Value.oneCell']) (by unfold maxLen; omega) (by omega) ea.size ?_))
  intro v' w2 hr2 hg2 _ _
  have ho2 : My.Own w2 w0.heap.size 3 v' ((sixL S.o0 S.o1 S.o2 S.ylo S.yhi S.off).map (Value.int .i64)) := hr2
  have e2 : Ext w0 w2 := ea.below ((Below.refl w0.heap.size _).grown hg2 ea.size fun b hb => (ho'.lt b hb).1) (Nat.le_refl _)
  refine hK _ _ e2 ?_
  repeat ((first | (refine plan_take (v := ?_) rfl rfl (fun W hW => ?_) ?_; rotate_left; (focus (skip; go_simp; first | exact rfl | (split <;> first | exact rfl | (exfalso; omega)) | done))) | refine plan_skip rfl rfl ?_); simp only [puts])
  refine plan_done ?_
  have Ho2 := Lib.hid ho2
  have HE2 := Lib.hid (HE0.out.trans e2)
  clear ho2 e2 hr2 hg2 ho' ho hc
  go_wp2
  go_ret
  exact ⟨_, rfl, Ho2.out.low (by omega), HE2.out⟩

theorem names_any (w : World) : Calls Tryz.prog 143 #[] w fun e w' => e = .returned (.agg #[.string (bs wBoard), .string (bs wFade), .string (bs wTin)]) ∧ Ext w w' := by
 go_enter Tryz.func143, Tryz.ntmps143
 go_wp2
 refine bodyPost_ret (v := .agg #[.string (bs wBoard), .string (bs wFade), .string (bs wTin)]) (results_cells (n := 3) rfl (by kernel_rfl) (by kernel_rfl) _ w.heap.size [.string (bs wBoard), .string (bs wFade), .string (bs wTin)] rfl (by simp) (fun j v hv => ?_)) (by simp) ⟨rfl, (Ext.refl w).alloc _⟩
 match j, hv with
 | 0, hv => cases hv; go_simp; rfl
 | 1, hv => cases hv; go_simp; rfl
 | 2, hv => cases hv; go_simp; rfl

end Go.Proofs.YtjpekonfjihcoaaGreatDoor
/- Contracts: a line written. No condition beyond small numbers. -/
namespace Go.Proofs.YtjpekonfjihcoaaGreatDoor
open Go.RowKit Go.My Go.TintM

theorem upon_method {o : Oper} {a : Act} {next : Act → World → Prop} {Q : Exit → Act → World → Prop} {w : World} {m : Sem (FuncId × Value)} {k : FuncId × Value → World → Result Next} (r : FuncId × Value) (h : m.run Tryz.prog w = .ok r w)
  (h2 : o.upon Tryz.prog a next Q (k r w)) : o.upon Tryz.prog a next Q ((m.run Tryz.prog w).andThen k) := by rw [h]; exact h2
theorem idx0 (a b c : ByteArray) (w : World) : (Instr.index 172 (.agg #[.string a, .string b, .string c]) (.int .i64 0)).run Tryz.prog w = .ok (.string a) w := by kernel_rfl
theorem idx1 (a b c : ByteArray) (w : World) : (Instr.index 172 (.agg #[.string a, .string b, .string c]) (.int .i64 1)).run Tryz.prog w = .ok (.string b) w := by kernel_rfl
theorem idx2 (a b c : ByteArray) (w : World) : (Instr.index 172 (.agg #[.string a, .string b, .string c]) (.int .i64 2)).run Tryz.prog w = .ok (.string c) w := by kernel_rfl
theorem add3 (c : List UInt8) (n : Nat) : bs c ++ ((⟨#[32]⟩ : ByteArray) ++ ⟨(Lib.decDigits n).toArray⟩) = bs (c ++ 32 :: digs n) := by
 have h := bs_append [32] (digs n)
 have h2 := bs_append c ([32] ++ digs n)
 rw [← h] at h2
 exact h2
theorem ta_head1 (c : Array Value) (w : World) : (Instr.typeAssert (.iface 156 (.agg c)) 162 157 true).run Tryz.prog w = .ok (.tuple #[.agg #[.int .i64 0, .int .i64 0, .int .i64 0, .int .i64 0, .int .i64 0, .int .i64 0, .int .i64 0, .int .i64 0, .int .i64 0, .int .i64 0, .int .i64 0, .int .i64 0, .slice none 0 0], .bool false]) w := by kernel_rfl
theorem ta_head2 (c : Array Value) (w : World) : (Instr.typeAssert (.iface 156 (.agg c)) 162 160 true).run Tryz.prog w = .ok (.tuple #[.agg #[.int .i64 0, .int .i64 0, .int .i64 0, .int .i64 0, .int .i64 0, .int .i64 0], .bool false]) w := by kernel_rfl
theorem ta_fade (c : Array Value) (w : World) : (Instr.typeAssert (.iface 157 (.agg c)) 162 157 true).run Tryz.prog w = .ok (.tuple #[.agg c, .bool true]) w := by kernel_rfl
theorem ta_tin1 (c : Array Value) (w : World) : (Instr.typeAssert (.iface 160 (.agg c)) 162 157 true).run Tryz.prog w = .ok (.tuple #[.agg #[.int .i64 0, .int .i64 0, .int .i64 0, .int .i64 0, .int .i64 0, .int .i64 0, .int .i64 0, .int .i64 0, .int .i64 0, .int .i64 0, .int .i64 0, .int .i64 0, .slice none 0 0], .bool false]) w := by kernel_rfl
theorem ta_tin2 (c : Array Value) (w : World) : (Instr.typeAssert (.iface 160 (.agg c)) 162 160 true).run Tryz.prog w = .ok (.tuple #[.agg c, .bool true]) w := by kernel_rfl

theorem written_head (S : SI) (ot : Option Addr) (cap : Nat) (l : List Nat) (hl : sixL S.o0 S.o1 S.o2 S.ylo S.yhi S.off = upL l) (hs : ∀ n ∈ l, n < 100) (w : World) : Calls Tryz.prog 132 #[.iface 156 (sheetV S ot cap)] w fun e w' => e = .returned (.string (bs (rowB wBoard l))) ∧ Ext w w' := by
 have R := Lib.hid (fun W => numbers_head S ot cap W)
 have Hs := Lib.hid hs
 have hlen : l.length = 6 := by have := congrArg List.length hl; simpa [upL] using this.symm
 have Hl := Lib.hid hl
 clear hl hs
 have e0 := ta_head1
 have e1 := ta_head2
 have e9 := idx0
 go_enter Tryz.func132, Tryz.ntmps132
 go_wp2_with (first | (go_at_call 143; refine (names_any _).mono ?_; rintro e w1 ⟨rfl, hE1⟩))
 refine upon_method (187, sheetV S ot cap) (by kernel_rfl) ?_
 go_wp2_with (first | (go_at_call 187; refine (R.out _).mono ?_; rintro e w2 ⟨v2, rfl, ho2, hE2⟩; obtain ⟨oa, ca, hv2, _⟩ := ho2.slice; rw [Hl.out, List.length_map, upL_length] at hv2; subst hv2; rw [Hl.out] at ho2; have Hi := Lib.hid (own_ints ho2); have HE2 := Lib.hid (hE1.trans hE2); clear ho2 hE2 hE1))
 clear e9 e0 e1
 go_loopg [4, 6, 20] l.length (fun g o a i wr => ∃ k : Nat, k + g = l.length ∧ i = .int .i64 k ∧ Ext w2 wr ∧ o = .string (bs (rowB wBoard (l.take k))))
 case atStart => exact ⟨0, by omega, rfl, Ext.refl _, by simp [rowB]⟩
 case round =>
  obtain ⟨k, hk, rfl, hE, rfl⟩ := hrel
  by_cases hlt : k < l.length
  ·obtain ⟨b, off, hob, _, hc2⟩ := ints_up (Hi.out.ext hE) hlt
   subst hob
   have hn := Hs.out _ (List.getElem_mem hlt)
   have hd : (Lib.decDigits l[k]).length ≤ 2 := digs_len hn
   have hcl := rowB_small wBoard (ns := l.take k) (by decide) (fun n hn => Hs.out n (List.mem_of_mem_take hn)) (by rw [List.length_take]; omega)
   have Ho := Lib.hid (show rowB wBoard (l.take (k + 1)) = rowB wBoard (l.take k) ++ 32 :: digs l[k] by rw [List.take_succ_eq_append_getElem hlt, rowB_snoc])
   generalize hC : rowB wBoard (l.take k) = C at *
   clear hC
   generalize hX : l[k] = X at *
   clear hX
   go_wp2_with (first | (go_at_call 133; refine (Tryz.strconv_Itoa_small X hn _).mono ?_; rintro e w3 ⟨rfl, rfl⟩))
   go_roundg (gk - 1)
   case measure => omega
   case rel => exact ⟨k + 1, by omega, by go_num, hE, by rw [add3, Ho.out]⟩
  ·have hkk : l.take k = l := List.take_of_length_le (by omega)
   rw [hkk]
   go_wp2
   go_ret
   exact ⟨rfl, HE2.out.trans hE⟩

theorem written_fade (S : SI) (ot : Option Addr) (cap : Nat) (l : List Nat) (hl : sixL S.a0 S.b0 S.a1 S.b1 S.a2 S.b2 = upL l) (hs : ∀ n ∈ l, n < 100) (w : World) : Calls Tryz.prog 132 #[.iface 157 (sheetV S ot cap)] w fun e w' => e = .returned (.string (bs (rowB wFade l))) ∧ Ext w w' := by
 have R := Lib.hid (fun W => numbers_fade S ot cap W)
 have Hs := Lib.hid hs
 have hlen : l.length = 6 := by have := congrArg List.length hl; simpa [upL] using this.symm
 have Hl := Lib.hid hl
 clear hl hs
 have e0 := ta_fade
 have e9 := idx1
 go_enter Tryz.func132, Tryz.ntmps132
 go_wp2_with (first | (go_at_call 143; refine (names_any _).mono ?_; rintro e w1 ⟨rfl, hE1⟩))
 refine upon_method (188, sheetV S ot cap) (by kernel_rfl) ?_
 go_wp2_with (first | (go_at_call 188; refine (R.out _).mono ?_; rintro e w2 ⟨v2, rfl, ho2, hE2⟩; obtain ⟨oa, ca, hv2, _⟩ := ho2.slice; rw [Hl.out, List.length_map, upL_length] at hv2; subst hv2; rw [Hl.out] at ho2; have Hi := Lib.hid (own_ints ho2); have HE2 := Lib.hid (hE1.trans hE2); clear ho2 hE2 hE1))
 clear e9 e0
 go_loopg [4, 6, 20] l.length (fun g o a i wr => ∃ k : Nat, k + g = l.length ∧ i = .int .i64 k ∧ Ext w2 wr ∧ o = .string (bs (rowB wFade (l.take k))))
 case atStart => exact ⟨0, by omega, rfl, Ext.refl _, by simp [rowB]⟩
 case round =>
  obtain ⟨k, hk, rfl, hE, rfl⟩ := hrel
  by_cases hlt : k < l.length
  ·obtain ⟨b, off, hob, _, hc2⟩ := ints_up (Hi.out.ext hE) hlt
   subst hob
   have hn := Hs.out _ (List.getElem_mem hlt)
   have hd : (Lib.decDigits l[k]).length ≤ 2 := digs_len hn
   have hcl := rowB_small wFade (ns := l.take k) (by decide) (fun n hn => Hs.out n (List.mem_of_mem_take hn)) (by rw [List.length_take]; omega)
   have Ho := Lib.hid (show rowB wFade (l.take (k + 1)) = rowB wFade (l.take k) ++ 32 :: digs l[k] by rw [List.take_succ_eq_append_getElem hlt, rowB_snoc])
   generalize hC : rowB wFade (l.take k) = C at *
   clear hC
   generalize hX : l[k] = X at *
   clear hX
   go_wp2_with (first | (go_at_call 133; refine (Tryz.strconv_Itoa_small X hn _).mono ?_; rintro e w3 ⟨rfl, rfl⟩))
   go_roundg (gk - 1)
   case measure => omega
   case rel => exact ⟨k + 1, by omega, by go_num, hE, by rw [add3, Ho.out]⟩
  ·have hkk : l.take k = l := List.take_of_length_le (by omega)
   rw [hkk]
   go_wp2
   go_ret
   exact ⟨rfl, HE2.out.trans hE⟩

theorem written_tin (x0 x1 x2 x3 x4 x5 : Int) (l : List Nat) (hl : sixL x0 x1 x2 x3 x4 x5 = upL l) (hs : ∀ n ∈ l, n < 100) (w : World) : Calls Tryz.prog 132 #[.iface 160 (sixV x0 x1 x2 x3 x4 x5)] w fun e w' => e = .returned (.string (bs (rowB wTin l))) ∧ Ext w w' := by
 have R := Lib.hid (fun W => numbers_tin x0 x1 x2 x3 x4 x5 W)
 have Hs := Lib.hid hs
 have hlen : l.length = 6 := by have := congrArg List.length hl; simpa [upL] using this.symm
 have Hl := Lib.hid hl
 clear hl hs
 have e0 := ta_tin1
 have e1 := ta_tin2
 have e9 := idx2
 go_enter Tryz.func132, Tryz.ntmps132
 go_wp2_with (first | (go_at_call 143; refine (names_any _).mono ?_; rintro e w1 ⟨rfl, hE1⟩))
 refine upon_method (190, sixV x0 x1 x2 x3 x4 x5) (by kernel_rfl) ?_
 go_wp2_with (first | (go_at_call 190; refine (R.out _).mono ?_; rintro e w2 ⟨v2, rfl, ho2, hE2⟩; obtain ⟨oa, ca, hv2, _⟩ := ho2.slice; rw [Hl.out, List.length_map, upL_length] at hv2; subst hv2; rw [Hl.out] at ho2; have Hi := Lib.hid (own_ints ho2); have HE2 := Lib.hid (hE1.trans hE2); clear ho2 hE2 hE1))
 clear e9 e0 e1
 go_loopg [4, 6, 20] l.length (fun g o a i wr => ∃ k : Nat, k + g = l.length ∧ i = .int .i64 k ∧ Ext w2 wr ∧ o = .string (bs (rowB wTin (l.take k))))
 case atStart => exact ⟨0, by omega, rfl, Ext.refl _, by simp [rowB]⟩
 case round =>
  obtain ⟨k, hk, rfl, hE, rfl⟩ := hrel
  by_cases hlt : k < l.length
  ·obtain ⟨b, off, hob, _, hc2⟩ := ints_up (Hi.out.ext hE) hlt
   subst hob
   have hn := Hs.out _ (List.getElem_mem hlt)
   have hd : (Lib.decDigits l[k]).length ≤ 2 := digs_len hn
   have hcl := rowB_small wTin (ns := l.take k) (by decide) (fun n hn => Hs.out n (List.mem_of_mem_take hn)) (by rw [List.length_take]; omega)
   have Ho := Lib.hid (show rowB wTin (l.take (k + 1)) = rowB wTin (l.take k) ++ 32 :: digs l[k] by rw [List.take_succ_eq_append_getElem hlt, rowB_snoc])
   generalize hC : rowB wTin (l.take k) = C at *
   clear hC
   generalize hX : l[k] = X at *
   clear hX
   go_wp2_with (first | (go_at_call 133; refine (Tryz.strconv_Itoa_small X hn _).mono ?_; rintro e w3 ⟨rfl, rfl⟩))
   go_roundg (gk - 1)
   case measure => omega
   case rel => exact ⟨k + 1, by omega, by go_num, hE, by rw [add3, Ho.out]⟩
  ·have hkk : l.take k = l := List.take_of_length_le (by omega)
   rw [hkk]
   go_wp2
   go_ret
   exact ⟨rfl, HE2.out.trans hE⟩

end Go.Proofs.YtjpekonfjihcoaaGreatDoor
/- Contract: the text of a sheet. No condition beyond small numbers. -/
namespace Go.Proofs.YtjpekonfjihcoaaGreatDoor
open Go.RowKit Go.My Go.TintM

/-- A sheet of the numbers that a text has. -/
def siOf (x : Tx) : SI where
 o0 := x.head.getD 0 0
 o1 := x.head.getD 1 0
 o2 := x.head.getD 2 0
 ylo := x.head.getD 3 0
 yhi := x.head.getD 4 0
 off := x.head.getD 5 0
 a0 := x.fade.getD 0 0
 b0 := x.fade.getD 1 0
 a1 := x.fade.getD 2 0
 b1 := x.fade.getD 3 0
 a2 := x.fade.getD 4 0
 b2 := x.fade.getD 5 0
 tins := x.tins.map upL
theorem siOf_tx (s : Sh) : siOf (txOf s) = ofSh s := rfl
theorem six_up {l : List Nat} (h : l.length = 6) : sixL (l.getD 0 0 : Nat) (l.getD 1 0 : Nat) (l.getD 2 0 : Nat) (l.getD 3 0 : Nat) (l.getD 4 0 : Nat) (l.getD 5 0 : Nat) = upL l := by
 match l, h with
 | [_, _, _, _, _, _], _ => rfl
/-- The lines as the program has them. -/
def tinI (t : List Nat) : Value := .iface 160 (sixV (t.getD 0 0 : Nat) (t.getD 1 0 : Nat) (t.getD 2 0 : Nat) (t.getD 3 0 : Nat) (t.getD 4 0 : Nat) (t.getD 5 0 : Nat))
def rowsV (S : SI) (ot : Option Addr) (cap : Nat) (ts : List (List Nat)) : List Value := .iface 156 (sheetV S ot cap) :: .iface 157 (sheetV S ot cap) :: ts.map tinI
theorem written_at {x : Tx} (h : Sm x) (ot : Option Addr) (cap : Nat) {i : Nat} (hi : i < x.tins.length + 2) (W : World) :
  ∃ rv, (rowsV (siOf x) ot cap x.tins)[i]? = some rv ∧ Calls Tryz.prog 132 #[rv] W fun e w' => e = .returned (.string (bs ((linesB x)[i]'(by rw [linesB_length]; exact hi)))) ∧ Ext W w' := by
 match i, hi with
 | 0, _ => exact ⟨_, rfl, written_head (siOf x) ot cap x.head (six_up h.head.1) h.head.2 W⟩
 | 1, _ => exact ⟨_, rfl, written_fade (siOf x) ot cap x.fade (six_up h.fade.1) h.fade.2 W⟩
 | i + 2, hi =>
  have hi' : i < x.tins.length := by omega
  have ht := h.tins _ (List.getElem_mem hi')
  refine ⟨tinI x.tins[i], by simp [rowsV, hi'], ?_⟩
  have := written_tin _ _ _ _ _ _ x.tins[i] (six_up ht.1) ht.2 W
  simpa [linesB, tinI] using this
theorem six_val {t : List Nat} {x0 x1 x2 x3 x4 x5 : Int} (h6 : t.length = 6) (ht : upL t = [x0, x1, x2, x3, x4, x5]) : tinI t = .iface 160 (sixV x0 x1 x2 x3 x4 x5) := by
 match t, h6 with
 | [t0, t1, t2, t3, t4, t5], _ =>
  simp only [upL, List.map_cons, List.map_nil, List.cons.injEq, and_true] at ht
  obtain ⟨r0, r1, r2, r3, r4, r5⟩ := ht
  simp [tinI, sixV, r0, r1, r2, r3, r4, r5]
theorem Sm.lines {x : Tx} (h : Sm x) : ∀ s ∈ linesB x, s.length ≤ 4000 := fun s hs => by
 have := h.row_len hs; omega
theorem i162 : (Tryz.prog.info? 162).map (fun i => (i.zero, i.size, i.bytes)) = some (some .nilIface, 1, 16) := by kernel_rfl

theorem text_any (x : Tx) (hx : Sm x) (hlen : x.tins.length ≤ 900) (ot : Option Addr) (cap : Nat) (w : World) (h : TinsAt w ot (siOf x).tins) :
  Calls Tryz.prog 103 #[sheetV (siOf x) ot cap] w fun e w' => e = .returned (.string (bs (textB x))) ∧ Ext w w' := by
 have H := Lib.hid h
 have Hx := Lib.hid hx
 have htl : (siOf x).tins.length = x.tins.length := by simp [siOf]
 have Htl := Lib.hid htl
 have Hts := Lib.hid (fun k (hk : k < x.tins.length) => (show ∃ t, x.tins[k]? = some t ∧ t.length = 6 ∧ (siOf x).tins[k]? = some (upL t) from ⟨x.tins[k], by simp [hk], (hx.tins _ (List.getElem_mem hk)).1, by simp [siOf, hk]⟩))
 have Hwr := Lib.hid (fun i (hi : i < x.tins.length + 2) W => written_at hx ot cap hi W)
 have HLl := Lib.hid (Sm.lines hx)
 have HLn := Lib.hid (linesB_length x)
 have Htx := Lib.hid (show textB x = sealB (linesB x) from rfl)
 clear h hx htl
 generalize hS : siOf x = S at *
 clear hS
 go_enter Tryz.func103, Tryz.ntmps103
 go_wp2
 obtain ⟨w0, hw0⟩ : ∃ W, W = (w.alloc (.cells (sheetC S ot cap) 28)).alloc (.cells #[.iface 156 (sheetV S ot cap), .iface 157 (sheetV S ot cap)] 162) := ⟨_, rfl⟩
 have HE0 := Lib.hid (show Ext w w0 by rw [hw0]; exact ((Ext.refl w).alloc _).alloc _)
 have ho0 : My.Own w0 (w.heap.size + 1) 162 (.slice (some ⟨w.heap.size + 1, 0, none⟩) 2 2) (rowsV S ot cap (x.tins.take 0)) := by
  rw [hw0]
  refine ⟨rfl, .inr ⟨w.heap.size + 1, 2, #[.iface 156 (sheetV S ot cap), .iface 157 (sheetV S ot cap)], rfl, Nat.le_refl _, ?_, Nat.le_refl _, by decide, rfl, by simp [rowsV]⟩⟩
  have := heap_alloc_new (w.alloc (.cells (sheetC S ot cap) 28)) (.cells #[.iface 156 (sheetV S ot cap), .iface 157 (sheetV S ot cap)] 162)
  simpa only [World.size_alloc] using this
 have Ho0 := Lib.hid ho0
 rw [← hw0]
 have hs0 : w.heap.size + 1 ≤ w0.heap.size := by rw [hw0]; simp
 clear hw0 ho0
 rw [Htl.out]
 go_loopg [3, 22] x.tins.length (fun g v i wr => ∃ k : Nat, k + g = x.tins.length ∧ i = .int .i64 k ∧ Ext w wr ∧ w.heap.size + 1 ≤ wr.heap.size ∧ My.Own wr (w.heap.size + 1) 162 v (rowsV S ot cap (x.tins.take k)))
 case atStart => exact ⟨0, by omega, rfl, HE0.out, hs0, Ho0.out⟩
 case round =>
  obtain ⟨k, hk, rfl, hE, hsr, hown⟩ := hrel
  have Hown := Lib.hid hown
  have HE := Lib.hid hE
  have hsE := hE.size
  clear hown Ho0 hE
  obtain ⟨wo, rfl⟩ : ∃ wo : World, wo = wr := ⟨_, rfl⟩
  have hrl : (rowsV S ot cap (x.tins.take k)).length = k + 2 := by simp [rowsV]; omega
  by_cases hlt : k < x.tins.length
  ·obtain ⟨tt, htk, h6, hSk⟩ := Hts.out k hlt
   have hkS : k < S.tins.length := by rw [Htl.out]; exact hlt
   obtain ⟨b, off, x0, x1, x2, x3, x4, x5, hot, hb, hT, k0, k1, k2, k3, k4, k5⟩ := (H.out.ext HE.out).at hkS
   have htu : upL tt = [x0, x1, x2, x3, x4, x5] := by
    rw [← hT]; rw [List.getElem?_eq_getElem hkS] at hSk; exact (Option.some.inj hSk).symm
   have Hv := Lib.hid (six_val h6 htu)
   have Htk := Lib.hid (show rowsV S ot cap (x.tins.take (k + 1)) = rowsV S ot cap (x.tins.take k) ++ [tinI tt] by
    obtain ⟨hku, hu2⟩ := List.getElem?_eq_some_iff.1 htk
    rw [List.take_succ_eq_append_getElem hku, hu2]; simp [rowsV])
   have hkI : (k : Int) < (x.tins.length : Int) := by omega
   subst hot
   clear hT hSk htk h6 htu
   go_wp2_with (first | (at_builtin; refine wpList_app1 _ rfl _ _ 158 rfl 162 Tryz.underlying158 .nilIface 16 i162 rfl (by decide) (w.heap.size + 1) _ _ rfl ((Hown.out.ext ((Ext.refl wo).alloc _)).ext ((Ext.refl _).alloc _)) (wo.heap.size + 1) (.iface 160 (sixV x0 x1 x2 x3 x4 x5)) rfl ?_ rfl ?_ ?_ ?_))
   ·go_simp
   ·rw [hrl]; omega
   ·simp; omega
   ·intro v' w2 hown2 hBl _
    rw [← Hv.out, ← Htk.out] at hown2
    have Ho2 := Lib.hid hown2
    have HE2 := Lib.hid (Ext.below ((HE.out.alloc (.cells #[.int .i64 x0, .int .i64 x1, .int .i64 x2, .int .i64 x3, .int .i64 x4, .int .i64 x5] 82)).alloc (.cells #[.iface 160 (sixV x0 x1 x2 x3 x4 x5)] 162)) hBl (by omega))
    have hs2 := hBl.size
    simp only [World.size_alloc] at hs2
    clear hown2
    go_wp2
    go_roundg (gk - 1)
    case measure => omega
    case rel => exact ⟨k + 1, by omega, by go_num, HE2.out, by omega, Ho2.out⟩
  ·have hkk : k = x.tins.length := by omega
   have htk : x.tins.take k = x.tins := List.take_of_length_le (by omega)
   rw [htk] at hrl
   have ho := Hown.out
   rw [htk] at ho
   obtain ⟨oR, cR, hv, r1, r2, r3, r4⟩ := ho.slice
   rw [hrl] at hv r1
   subst hv
   have hwr : ∀ i, i < x.tins.length + 2 → ∃ b rv s, oR = some ⟨b, 0, none⟩ ∧ wo.cell? ⟨b, i, none⟩ = some rv ∧ (linesB x)[i]? = some s ∧ s.length ≤ 4000 ∧ ∀ W, Calls Tryz.prog 132 #[rv] W fun e w' => e = .returned (.string (bs s)) ∧ Ext W w' := by
    intro i hi
    have hiL : i < (linesB x).length := by rw [HLn.out]; exact hi
    obtain ⟨b, e1, _, e2⟩ := r4 i _ (List.getElem?_eq_getElem (by rw [hrl]; omega))
    refine ⟨b, _, _, e1, e2, List.getElem?_eq_getElem hiL, HLl.out _ (List.getElem_mem _), fun W => ?_⟩
    obtain ⟨rv, h1, h2⟩ := Hwr.out i hi W
    rw [List.getElem?_eq_getElem (by rw [hrl]; omega)] at h1
    cases h1
    exact h2
   have hLn := HLn.out
   have Hwr2 := Lib.hid hwr
   clear hwr r4 Hown ho htk hrl Hwr HLn Hts
   generalize hLL : linesB x = L at *
   clear hLL
   subst hkk
   go_wp2
   go_loopg [6, 7, 8, 9, 10, 11, 35, 44] (x.tins.length + 2) (fun g o c a1 a2 a3 a4 i a5 wr => ∃ k : Nat, k + g = x.tins.length + 2 ∧ i = .int .i64 k ∧ Ext wo wr ∧ o = .string (bs (outAll L k)) ∧ c = .int .i64 (sumAll L k : Nat))
   case atStart => exact ⟨0, by simp, rfl, Ext.refl _, by simp [outAll], by simp [sumAll]⟩
   case round =>
    obtain ⟨i, hi, rfl, hE1, rfl, rfl⟩ := hrel
    obtain ⟨w1, rfl⟩ : ∃ w1 : World, w1 = wr := ⟨_, rfl⟩
    obtain ⟨g1, rfl⟩ : ∃ g1 : Nat, g1 = gk := ⟨_, rfl⟩
    by_cases hlt : i < x.tins.length + 2
    ·obtain ⟨b, rv, s, rfl, hrv, hs, hsl, hcall⟩ := Hwr2.out i hlt
     have hrv1 := cell_ext hE1 hrv
     have Hcall := Lib.hid hcall
     have hiL : i < L.length := by omega
     have hsi : L[i] = s := by rw [List.getElem?_eq_getElem hiL] at hs; exact Option.some.inj hs
     have hos : outAll L (i + 1) = outAll L i ++ (s ++ [10]) := by rw [outAll_succ hiL, hsi]
     have hss : sumAll L (i + 1) = sumAll L i + sumB i s s.length := by rw [sumAll_succ]; simp [List.getD, hs]
     have hol := outAll_le HLl.out (k := i) (by omega)
     have hsu := sumAll_le HLl.out (k := i) (by omega) (by omega)
     have Hos := Lib.hid hos
     have Hss := Lib.hid hss
     clear hrv hcall hs hsi hos hss
     generalize hO : outAll L i = O at *
     generalize hC : sumAll L i = C at *
     clear hO hC
     go_wp2_with (first | (go_at_call 132; refine (Hcall.out _).mono ?_; rintro e w2 ⟨rfl, hE2⟩))
     go_loopg [7, 11, 44] s.length (fun g c a v wr => ∃ k : Nat, k + g = s.length ∧ v = .int .i64 k ∧ wr = w2 ∧ c = .int .i64 ((C + sumB i s k : Nat) : Int))
     case atStart => exact ⟨0, by simp, rfl, rfl, by simp [sumB]⟩
     case round =>
      obtain ⟨k, hk, rfl, rfl, rfl⟩ := hrel
      by_cases hlt2 : k < s.length
      ·have hsk := sumB_succ i s k
       go_wp2
       go_roundg (gk - 1)
       case measure => omega
       case rel => exact ⟨k + 1, by omega, by go_num, rfl, by first | rfl | (congr 1; exact step_sum hlt2 _ hsl (by omega) (by omega))⟩
      ·have hkk : k = s.length := by omega
       subst hkk
       have hcs : C + sumB i s s.length = sumAll L (i + 1) := Hss.out.symm
       rw [hcs]
       clear Hcall
       generalize hC2 : sumAll L (i + 1) = C2 at *
       clear hcs
       go_wp2
       go_roundg (g1 - 1)
       case measure => omega
       case rel => exact ⟨i + 1, by omega, by go_num, hE1.trans hE2, by rw [Hos.out]; rfl, by rw [hC2]⟩
    ·have hiL : i = L.length := by omega
     have hol := outAll_le HLl.out (k := i) (by omega)
     have hsu := sumAll_le HLl.out (k := i) (by omega) (by omega)
     have hse : sealB L = outAll L i ++ wEnd ++ digs (sumAll L i % 199 / 100) ++ digs (sumAll L i % 199 / 10 % 10) ++ digs (sumAll L i % 199 % 10) ++ [10] := by rw [hiL]; rfl
     have Hse := Lib.hid hse
     clear hse
     generalize hO : outAll L i = O at *
     generalize hC : sumAll L i = C at *
     clear hO hC
     obtain ⟨M, hM⟩ : ∃ M, M = C % 199 := ⟨_, rfl⟩
     obtain ⟨d1, hd1⟩ : ∃ d, d = M / 100 := ⟨_, rfl⟩
     obtain ⟨m1, hm1⟩ : ∃ d, d = M / 10 := ⟨_, rfl⟩
     obtain ⟨d2, hd2⟩ : ∃ d, d = m1 % 10 := ⟨_, rfl⟩
     obtain ⟨d3, hd3⟩ : ∃ d, d = M % 10 := ⟨_, rfl⟩
     rw [← hM, ← hm1, ← hd1, ← hd2, ← hd3] at Hse
     have e0 : (C : Int).tmod 199 = (M : Int) := by rw [Int.tmod_eq_emod_of_nonneg (by omega)]; omega
     have e1 : IntKind.i64.wrap ((M : Int) / 100) = (d1 : Int) := by rw [IntWalk.i64_in _ (by omega)]; omega
     have e2 : IntKind.i64.wrap ((M : Int) / 10) = (m1 : Int) := by rw [IntWalk.i64_in _ (by omega)]; omega
     have e3 : (m1 : Int).tmod 10 = (d2 : Int) := by rw [Int.tmod_eq_emod_of_nonneg (by omega)]; omega
     have e4 : (M : Int).tmod 10 = (d3 : Int) := by rw [Int.tmod_eq_emod_of_nonneg (by omega)]; omega
     have k1 : d1 < 10 := by omega
     have k2 : d2 < 10 := by omega
     have k3 : d3 < 10 := by omega
     have l1 : (Lib.decDigits d1).length ≤ 2 := digs_len (by omega)
     have l2 : (Lib.decDigits d2).length ≤ 2 := digs_len (by omega)
     have l3 : (Lib.decDigits d3).length ≤ 2 := digs_len (by omega)
     clear hd1 hd2 hd3 hm1 hM
     have Q1 := Lib.hid (fun W => Tryz.strconv_Itoa_small d1 (by omega) W)
     have Q2 := Lib.hid (fun W => Tryz.strconv_Itoa_small d2 (by omega) W)
     have Q3 := Lib.hid (fun W => Tryz.strconv_Itoa_small d3 (by omega) W)
     have HEf := Lib.hid (HE.out.trans hE1)
     clear k1 k2 k3
     go_wp2_with (first | (go_at_call 133; refine (Q1.out _).mono ?_; clear Q1; rintro e wx ⟨rfl, rfl⟩) | (go_at_call 133; refine (Q2.out _).mono ?_; clear Q2; rintro e wx ⟨rfl, rfl⟩) | (go_at_call 133; refine (Q3.out _).mono ?_; clear Q3; rintro e wx ⟨rfl, rfl⟩))
     go_ret
     refine ⟨?_, HEf.out⟩
     rw [Htx.out, Hse.out]
     show Ending.returned (.string (bs O ++ bs wEnd ++ bs (digs d1) ++ bs (digs d2) ++ bs (digs d3) ++ bs [10])) = _
     simp only [bs_append]

end Go.Proofs.YtjpekonfjihcoaaGreatDoor
/- Contracts: spans; the box of a sheet that is read. No condition. -/
namespace Go.Proofs.YtjpekonfjihcoaaGreatDoor
open Go.RowKit Go.My Go.TintM

theorem six_of {l : List Nat} (h : l.length = 6) : ∃ a b c d e f, l = [a, b, c, d, e, f] := by
 match l, h with
 | [a, b, c, d, e, f], _ => exact ⟨a, b, c, d, e, f, rfl⟩
theorem zero_six (w : World) {i : Nat} (hi : i < 6) : (w.alloc (.cells #[.int .i64 0, .int .i64 0, .int .i64 0, .int .i64 0, .int .i64 0, .int .i64 0] 25)).cell? ⟨w.heap.size, i, none⟩ = some (.int .i64 0) := by
 rw [cell_of_row _ _ i _ _ _ (heap_alloc_new w _)]
 match i, hi with
 | 0, _ => rfl
 | 1, _ => rfl
 | 2, _ => rfl
 | 3, _ => rfl
 | 4, _ => rfl
 | 5, _ => rfl

theorem spans_any (a0 a1 a2 a3 a4 a5 : Int) (g cap : Nat) (hc : 6 ≤ cap) (w : World) (c0 : w.cell? ⟨g, 0, none⟩ = some (.int .i64 a0)) (c1 : w.cell? ⟨g, 1, none⟩ = some (.int .i64 a1)) (c2 : w.cell? ⟨g, 2, none⟩ = some (.int .i64 a2))
  (c3 : w.cell? ⟨g, 3, none⟩ = some (.int .i64 a3)) (c4 : w.cell? ⟨g, 4, none⟩ = some (.int .i64 a4)) (c5 : w.cell? ⟨g, 5, none⟩ = some (.int .i64 a5)) :
  Calls Tryz.prog 137 #[.slice (some ⟨g, 0, none⟩) 6 cap] w fun e w' => e = .returned (sixV a0 a1 a2 a3 a4 a5) ∧ Ext w w' := by
 have hg := World.block_lt_of_cell? _ _ c0
 simp only at hg
 go_enter Tryz.func137, Tryz.ntmps137
 go_wp2
 obtain ⟨w0, hw0⟩ : ∃ W, W = w.alloc (.cells #[.int .i64 0, .int .i64 0, .int .i64 0, .int .i64 0, .int .i64 0, .int .i64 0] 25) := ⟨_, rfl⟩
 have hE0 : Ext w w0 := by rw [hw0]; exact (Ext.refl w).alloc _
 have hr : ∀ i, i < 6 → w0.cell? ⟨w.heap.size, i, none⟩ = some (.int .i64 0) ∧ w0.frozen? ⟨w.heap.size, i, none⟩ = false := fun i hi => by
  rw [hw0]
  exact ⟨zero_six w hi, frozen_of_row _ _ i _ _ (heap_alloc_new w _)⟩
 have HE0 := Lib.hid hE0
 have b0 := cell_ext hE0 c0
 have b1 := cell_ext hE0 c1
 have b2 := cell_ext hE0 c2
 have b3 := cell_ext hE0 c3
 have b4 := cell_ext hE0 c4
 have b5 := cell_ext hE0 c5
 rw [← hw0]
 clear hw0 c0 c1 c2 c3 c4 c5 hE0
 refine wp_region_plan (.take 0 <| .take 1 <| .take 2 <| .take 3 <| .take 4 <| .take 5 <| .take 6 <| .take 7 <| .take 8 <| .take 9 <| .take 10 <| .take 11 <| .take 12 <| .take 13 <| .take 14 <| .take 15 <| .take 16 <| .take 17 <| .take 18 <| .take 19 <| .take 20 <| .take 21 <| .only 22 <| .done) (fun W => Turned w.heap.size w0 W) mixed (by kernel_rfl) (by kernel_rfl) rfl (fun _ _ d _ _ h => by cases d <;> exact h) (Turned.of_ext (Ext.refl w0).drew) ?_
 repeat ((first | (refine plan_take (v := ?_) rfl rfl (fun W hW => ?_) ?_; rotate_left; (focus (have d0 := Turned.cell hW (p := ⟨g, 0, none⟩) (by simp; omega) b0; have d1 := Turned.cell hW (p := ⟨g, 1, none⟩) (by simp; omega) b1; have d2 := Turned.cell hW (p := ⟨g, 2, none⟩) (by simp; omega) b2; have d3 := Turned.cell hW (p := ⟨g, 3, none⟩) (by simp; omega) b3; have d4 := Turned.cell hW (p := ⟨g, 4, none⟩) (by simp; omega) b4; have d5 := Turned.cell hW (p := ⟨g, 5, none⟩) (by simp; omega) b5; go_simp; first | exact rfl | (split <;> first | exact rfl | (exfalso; omega)) | done))) | refine plan_skip rfl rfl ?_); simp only [puts])
 refine plan_walk rfl ?_; intro K hK
 have r0 : w0.drew.cell? ⟨w.heap.size, 0, none⟩ = some (.int .i64 0) := (hr 0 (by omega)).1
 have r1 : w0.drew.cell? ⟨w.heap.size, 1, none⟩ = some (.int .i64 0) := (hr 1 (by omega)).1
 have r2 : w0.drew.cell? ⟨w.heap.size, 2, none⟩ = some (.int .i64 0) := (hr 2 (by omega)).1
 have r3 : w0.drew.cell? ⟨w.heap.size, 3, none⟩ = some (.int .i64 0) := (hr 3 (by omega)).1
 have r4 : w0.drew.cell? ⟨w.heap.size, 4, none⟩ = some (.int .i64 0) := (hr 4 (by omega)).1
 have r5 : w0.drew.cell? ⟨w.heap.size, 5, none⟩ = some (.int .i64 0) := (hr 5 (by omega)).1
 have s0 : w0.drew.frozen? ⟨w.heap.size, 0, none⟩ = false := (hr 0 (by omega)).2
 have s1 : w0.drew.frozen? ⟨w.heap.size, 1, none⟩ = false := (hr 1 (by omega)).2
 have s2 : w0.drew.frozen? ⟨w.heap.size, 2, none⟩ = false := (hr 2 (by omega)).2
 have s3 : w0.drew.frozen? ⟨w.heap.size, 3, none⟩ = false := (hr 3 (by omega)).2
 have s4 : w0.drew.frozen? ⟨w.heap.size, 4, none⟩ = false := (hr 4 (by omega)).2
 have s5 : w0.drew.frozen? ⟨w.heap.size, 5, none⟩ = false := (hr 5 (by omega)).2
 have HE1 := Lib.hid (HE0.out.drew)
 have HT := Lib.hid (Turned.of_ext (b := w.heap.size) (Ext.refl w0).drew)
 clear hr b0 b1 b2 b3 b4 b5
 generalize w0.drew = wd at *
 go_wp2
 refine hK _ _ ?_ ?_
 ·exact (((((HT.out.set 0 _).set 1 _).set 2 _).set 3 _).set 4 _).set 5 _
 refine plan_done ?_
 go_wp2
 refine bodyPost_ret (v := sixV a0 a1 a2 a3 a4 a5) (results_cells (n := 6) rfl (by kernel_rfl) (by kernel_rfl) _ w.heap.size [.int .i64 a0, .int .i64 a1, .int .i64 a2, .int .i64 a3, .int .i64 a4, .int .i64 a5] rfl (by simp) (fun j v hv => ?_)) (by simp) ⟨rfl, ext_set (ext_set (ext_set (ext_set (ext_set (ext_set HE1.out (by omega)) (by omega)) (by omega)) (by omega)) (by omega)) (by omega)⟩
 match j, hv with
 | 0, hv => cases hv; go_simp
 | 1, hv => cases hv; go_simp
 | 2, hv => cases hv; go_simp
 | 3, hv => cases hv; go_simp
 | 4, hv => cases hv; go_simp
 | 5, hv => cases hv; go_simp

theorem rspans_any (a0 a1 a2 a3 a4 a5 : Int) (g cap : Nat) (hc : 6 ≤ cap) (w : World) (c0 : w.cell? ⟨g, 0, none⟩ = some (.int .i64 a0)) (c1 : w.cell? ⟨g, 1, none⟩ = some (.int .i64 a1)) (c2 : w.cell? ⟨g, 2, none⟩ = some (.int .i64 a2))
  (c3 : w.cell? ⟨g, 3, none⟩ = some (.int .i64 a3)) (c4 : w.cell? ⟨g, 4, none⟩ = some (.int .i64 a4)) (c5 : w.cell? ⟨g, 5, none⟩ = some (.int .i64 a5)) :
  Calls Tryz.prog 111 #[.slice (some ⟨g, 0, none⟩) 6 cap] w fun e w' => e = .returned (sixV a0 a1 a2 a3 a4 a5) ∧ Ext w w' := by
 have hg := World.block_lt_of_cell? _ _ c0
 simp only at hg
 go_enter Tryz.func111, Tryz.ntmps111
 go_wp2
 obtain ⟨w0, hw0⟩ : ∃ W, W = w.alloc (.cells #[.int .i64 0, .int .i64 0, .int .i64 0, .int .i64 0, .int .i64 0, .int .i64 0] 25) := ⟨_, rfl⟩
 have hE0 : Ext w w0 := by rw [hw0]; exact (Ext.refl w).alloc _
 have hr : ∀ i, i < 6 → w0.cell? ⟨w.heap.size, i, none⟩ = some (.int .i64 0) ∧ w0.frozen? ⟨w.heap.size, i, none⟩ = false := fun i hi => by
  rw [hw0]
  exact ⟨zero_six w hi, frozen_of_row _ _ i _ _ (heap_alloc_new w _)⟩
 have HE0 := Lib.hid hE0
 have b0 := cell_ext hE0 c0
 have b1 := cell_ext hE0 c1
 have b2 := cell_ext hE0 c2
 have b3 := cell_ext hE0 c3
 have b4 := cell_ext hE0 c4
 have b5 := cell_ext hE0 c5
 rw [← hw0]
 clear hw0 c0 c1 c2 c3 c4 c5 hE0
 refine wp_region_plan (.take 0 <| .take 1 <| .take 2 <| .take 3 <| .take 4 <| .take 5 <| .take 6 <| .take 7 <| .take 8 <| .take 9 <| .take 10 <| .take 11 <| .take 12 <| .take 13 <| .take 14 <| .take 15 <| .take 16 <| .take 17 <| .take 18 <| .take 19 <| .take 20 <| .take 21 <| .only 22 <| .done) (fun W => Turned w.heap.size w0 W) mixed (by kernel_rfl) (by kernel_rfl) rfl (fun _ _ d _ _ h => by cases d <;> exact h) (Turned.of_ext (Ext.refl w0).drew) ?_
 repeat ((first | (refine plan_take (v := ?_) rfl rfl (fun W hW => ?_) ?_; rotate_left; (focus (have d0 := Turned.cell hW (p := ⟨g, 0, none⟩) (by simp; omega) b0; have d1 := Turned.cell hW (p := ⟨g, 1, none⟩) (by simp; omega) b1; have d2 := Turned.cell hW (p := ⟨g, 2, none⟩) (by simp; omega) b2; have d3 := Turned.cell hW (p := ⟨g, 3, none⟩) (by simp; omega) b3; have d4 := Turned.cell hW (p := ⟨g, 4, none⟩) (by simp; omega) b4; have d5 := Turned.cell hW (p := ⟨g, 5, none⟩) (by simp; omega) b5; go_simp; first | exact rfl | (split <;> first | exact rfl | (exfalso; omega)) | done))) | refine plan_skip rfl rfl ?_); simp only [puts])
 refine plan_walk rfl ?_; intro K hK
 have r0 : w0.drew.cell? ⟨w.heap.size, 0, none⟩ = some (.int .i64 0) := (hr 0 (by omega)).1
 have r1 : w0.drew.cell? ⟨w.heap.size, 1, none⟩ = some (.int .i64 0) := (hr 1 (by omega)).1
 have r2 : w0.drew.cell? ⟨w.heap.size, 2, none⟩ = some (.int .i64 0) := (hr 2 (by omega)).1
 have r3 : w0.drew.cell? ⟨w.heap.size, 3, none⟩ = some (.int .i64 0) := (hr 3 (by omega)).1
 have r4 : w0.drew.cell? ⟨w.heap.size, 4, none⟩ = some (.int .i64 0) := (hr 4 (by omega)).1
 have r5 : w0.drew.cell? ⟨w.heap.size, 5, none⟩ = some (.int .i64 0) := (hr 5 (by omega)).1
 have s0 : w0.drew.frozen? ⟨w.heap.size, 0, none⟩ = false := (hr 0 (by omega)).2
 have s1 : w0.drew.frozen? ⟨w.heap.size, 1, none⟩ = false := (hr 1 (by omega)).2
 have s2 : w0.drew.frozen? ⟨w.heap.size, 2, none⟩ = false := (hr 2 (by omega)).2
 have s3 : w0.drew.frozen? ⟨w.heap.size, 3, none⟩ = false := (hr 3 (by omega)).2
 have s4 : w0.drew.frozen? ⟨w.heap.size, 4, none⟩ = false := (hr 4 (by omega)).2
 have s5 : w0.drew.frozen? ⟨w.heap.size, 5, none⟩ = false := (hr 5 (by omega)).2
 have HE1 := Lib.hid (HE0.out.drew)
 have HT := Lib.hid (Turned.of_ext (b := w.heap.size) (Ext.refl w0).drew)
 clear hr b0 b1 b2 b3 b4 b5
 generalize w0.drew = wd at *
 go_wp2
 refine hK _ _ ?_ ?_
 ·exact (((((HT.out.set 0 _).set 1 _).set 2 _).set 3 _).set 4 _).set 5 _
 refine plan_done ?_
 go_wp2
 refine bodyPost_ret (v := sixV a0 a1 a2 a3 a4 a5) (results_cells (n := 6) rfl (by kernel_rfl) (by kernel_rfl) _ w.heap.size [.int .i64 a0, .int .i64 a1, .int .i64 a2, .int .i64 a3, .int .i64 a4, .int .i64 a5] rfl (by simp) (fun j v hv => ?_)) (by simp) ⟨rfl, ext_set (ext_set (ext_set (ext_set (ext_set (ext_set HE1.out (by omega)) (by omega)) (by omega)) (by omega)) (by omega)) (by omega)⟩
 match j, hv with
 | 0, hv => cases hv; go_simp
 | 1, hv => cases hv; go_simp
 | 2, hv => cases hv; go_simp
 | 3, hv => cases hv; go_simp
 | 4, hv => cases hv; go_simp
 | 5, hv => cases hv; go_simp

/-- A box of a sheet that is one's own to write. -/
structure SOwn (W : World) (b : Nat) (S : SI) (ot : Option Addr) (cap : Nat) : Prop where
 box : SheetBox W b S ot cap
 fr : ∀ i, i < 13 → W.frozen? ⟨b, i, none⟩ = false
theorem SOwn.lt {W : World} {b : Nat} {S : SI} {ot : Option Addr} {cap : Nat} (h : SOwn W b S ot cap) : b < W.heap.size := World.block_lt_of_cell? _ _ (h.box 0 _ rfl)
theorem SOwn.ext {W W' : World} {b : Nat} {S : SI} {ot : Option Addr} {cap : Nat} (h : SOwn W b S ot cap) (hE : Ext W W') : SOwn W' b S ot cap :=
 ⟨h.box.ext hE, fun i hi => (frozen_ext (p := ⟨b, i, none⟩) hE h.lt).trans (h.fr i hi)⟩
theorem SOwn.turned {W W' : World} {b q : Nat} {S : SI} {ot : Option Addr} {cap : Nat} (h : SOwn W b S ot cap) (hT : Turned q W W') (hne : b ≠ q) : SOwn W' b S ot cap :=
 ⟨h.box.turned hT hne, fun i hi => (Turned.frozen (p := ⟨b, i, none⟩) hT hne h.lt).trans (h.fr i hi)⟩
theorem SOwn.below {W W' : World} {b B : Nat} {S : SI} {ot : Option Addr} {cap : Nat} (h : SOwn W b S ot cap) (hB : Below B W W') (hb : b < B) : SOwn W' b S ot cap :=
 ⟨fun i v hv => cell_below hB hb (h.box i v hv), fun i hi => (hB.frozen (p := ⟨b, i, none⟩) hb).trans (h.fr i hi)⟩
abbrev noSI : SI := ⟨0, 0, 0, 0, 0, 0, 0, 0, 0, 0, 0, 0, []⟩
theorem SOwn.of {W : World} {b : Nat} (h : W.heap[b]? = some (.cells #[.int .i64 0, .int .i64 0, .int .i64 0, .int .i64 0, .int .i64 0, .int .i64 0, .int .i64 0, .int .i64 0, .int .i64 0, .int .i64 0, .int .i64 0, .int .i64 0, .slice none 0 0] 28 (0, 0))) : SOwn W b noSI none 0 :=
 ⟨fun i v hv => by rw [cell_of_row _ _ i _ _ _ h]; exact hv, fun i _ => frozen_of_row _ _ i _ _ h⟩
theorem SOwn.cells {W : World} {b : Nat} {S : SI} {ot : Option Addr} {cap : Nat} (h : SOwn W b S ot cap) : (∀ i, i < 13 → W.frozen? ⟨b, i, none⟩ = false) := h.fr

abbrev headW (W : World) (b : Nat) (o0 o1 o2 y0 y1 f : Value) : World :=
 (((((W.setCell ⟨b, 0, none⟩ o0).setCell ⟨b, 1, none⟩ o1).setCell ⟨b, 2, none⟩ o2).setCell ⟨b, 9, none⟩ y0).setCell ⟨b, 10, none⟩ y1).setCell ⟨b, 11, none⟩ f
abbrev fadeW (W : World) (b : Nat) (x0 x1 x2 x3 x4 x5 : Value) : World :=
 (((((W.setCell ⟨b, 3, none⟩ x0).setCell ⟨b, 4, none⟩ x1).setCell ⟨b, 5, none⟩ x2).setCell ⟨b, 6, none⟩ x3).setCell ⟨b, 7, none⟩ x4).setCell ⟨b, 8, none⟩ x5
theorem SOwn.head {W : World} {b : Nat} {S : SI} {ot : Option Addr} {cap : Nat} (h : SOwn W b S ot cap) (o0 o1 o2 y0 y1 f : Int) :
  SOwn (headW W b (.int .i64 o0) (.int .i64 o1) (.int .i64 o2) (.int .i64 y0) (.int .i64 y1) (.int .i64 f)) b { S with o0 := o0, o1 := o1, o2 := o2, ylo := y0, yhi := y1, off := f } ot cap := by
 obtain ⟨hb, hf⟩ := h
 have c0 := hb 0 _ rfl; have c1 := hb 1 _ rfl; have c2 := hb 2 _ rfl; have c3 := hb 3 _ rfl; have c4 := hb 4 _ rfl; have c5 := hb 5 _ rfl; have c6 := hb 6 _ rfl; have c7 := hb 7 _ rfl; have c8 := hb 8 _ rfl; have c9 := hb 9 _ rfl; have c10 := hb 10 _ rfl; have c11 := hb 11 _ rfl; have c12 := hb 12 _ rfl
 refine ⟨fun i v hv => ?_, fun i hi => by simp only [World.frozen?_setCell]; exact hf i hi⟩
 match i, hv with
 | 0, hv => cases hv; go_simp
 | 1, hv => cases hv; go_simp
 | 2, hv => cases hv; go_simp
 | 3, hv => cases hv; go_simp
 | 4, hv => cases hv; go_simp
 | 5, hv => cases hv; go_simp
 | 6, hv => cases hv; go_simp
 | 7, hv => cases hv; go_simp
 | 8, hv => cases hv; go_simp
 | 9, hv => cases hv; go_simp
 | 10, hv => cases hv; go_simp
 | 11, hv => cases hv; go_simp
 | 12, hv => cases hv; go_simp
theorem SOwn.fade {W : World} {b : Nat} {S : SI} {ot : Option Addr} {cap : Nat} (h : SOwn W b S ot cap) (x0 x1 x2 x3 x4 x5 : Int) :
  SOwn (fadeW W b (.int .i64 x0) (.int .i64 x1) (.int .i64 x2) (.int .i64 x3) (.int .i64 x4) (.int .i64 x5)) b { S with a0 := x0, b0 := x1, a1 := x2, b1 := x3, a2 := x4, b2 := x5 } ot cap := by
 obtain ⟨hb, hf⟩ := h
 have c0 := hb 0 _ rfl; have c1 := hb 1 _ rfl; have c2 := hb 2 _ rfl; have c3 := hb 3 _ rfl; have c4 := hb 4 _ rfl; have c5 := hb 5 _ rfl; have c6 := hb 6 _ rfl; have c7 := hb 7 _ rfl; have c8 := hb 8 _ rfl; have c9 := hb 9 _ rfl; have c10 := hb 10 _ rfl; have c11 := hb 11 _ rfl; have c12 := hb 12 _ rfl
 refine ⟨fun i v hv => ?_, fun i hi => by simp only [World.frozen?_setCell]; exact hf i hi⟩
 match i, hv with
 | 0, hv => cases hv; go_simp
 | 1, hv => cases hv; go_simp
 | 2, hv => cases hv; go_simp
 | 3, hv => cases hv; go_simp
 | 4, hv => cases hv; go_simp
 | 5, hv => cases hv; go_simp
 | 6, hv => cases hv; go_simp
 | 7, hv => cases hv; go_simp
 | 8, hv => cases hv; go_simp
 | 9, hv => cases hv; go_simp
 | 10, hv => cases hv; go_simp
 | 11, hv => cases hv; go_simp
 | 12, hv => cases hv; go_simp
theorem SOwn.tins {W : World} {b : Nat} {S : SI} {ot : Option Addr} {cap : Nat} (h : SOwn W b S ot cap) (ts : List (List Int)) (ot' : Option Addr) (cap' : Nat) :
  SOwn (W.setCell ⟨b, 12, none⟩ (.slice ot' ts.length cap')) b { S with tins := ts } ot' cap' := by
 obtain ⟨hb, hf⟩ := h
 have c0 := hb 0 _ rfl; have c1 := hb 1 _ rfl; have c2 := hb 2 _ rfl; have c3 := hb 3 _ rfl; have c4 := hb 4 _ rfl; have c5 := hb 5 _ rfl; have c6 := hb 6 _ rfl; have c7 := hb 7 _ rfl; have c8 := hb 8 _ rfl; have c9 := hb 9 _ rfl; have c10 := hb 10 _ rfl; have c11 := hb 11 _ rfl; have c12 := hb 12 _ rfl
 refine ⟨fun i v hv => ?_, fun i hi => by simp only [World.frozen?_setCell]; exact hf i hi⟩
 match i, hv with
 | 0, hv => cases hv; go_simp
 | 1, hv => cases hv; go_simp
 | 2, hv => cases hv; go_simp
 | 3, hv => cases hv; go_simp
 | 4, hv => cases hv; go_simp
 | 5, hv => cases hv; go_simp
 | 6, hv => cases hv; go_simp
 | 7, hv => cases hv; go_simp
 | 8, hv => cases hv; go_simp
 | 9, hv => cases hv; go_simp
 | 10, hv => cases hv; go_simp
 | 11, hv => cases hv; go_simp
 | 12, hv => cases hv; go_simp

end Go.Proofs.YtjpekonfjihcoaaGreatDoor
/- Contracts: Print, sure, number. No condition. -/
namespace Go.Proofs.YtjpekonfjihcoaaGreatDoor
open Go.RowKit Go.My Go.TintM

theorem sPrint_bad (S : SI) (ot : Option Addr) (cap : Nat) (w : World) (h : TinsAt w ot S.tins) (hl : S.tins.length ≤ 9223372036854775807) (hb : sheetB S = false) :
  Calls Tryz.prog 63 #[sheetV S ot cap] w fun e w' => e = .returned (.tuple #[.string (bs []), .int .i64 2]) ∧ Ext w w' := by
 have R72 := Lib.hid (fun W (hW : Ext w W) => isSheet_any S ot cap W (h.ext hW) hl)
 rw [hb] at R72
 clear h hl hb
 go_enter Tryz.func63, Tryz.ntmps63
 go_wp2_with (first | (go_at_call 72; refine (R72.out _ ((Ext.refl w).alloc _)).mono ?_; rintro e w1 ⟨rfl, hE1⟩; have HX := Lib.hid (((Ext.refl w).alloc _).trans hE1); clear hE1))
 go_ret2
 exact ⟨rfl, HX.out⟩
theorem sPrint_any (s : Sh) (g : Fine s) (ot : Option Addr) (cap : Nat) (w : World) (h : TinsAt w ot (ofSh s).tins) :
  Calls Tryz.prog 63 #[sheetV (ofSh s) ot cap] w fun e w' => e = .returned (.tuple #[.string (bs (textB (txOf s))), .int .i64 0]) ∧ Ext w w' := by
 have hl : (ofSh s).tins.length ≤ 9223372036854775807 := by rw [tins_len]; have := g.len2; omega
 have R72 := Lib.hid (fun W (hW : Ext w W) => isSheet_any (ofSh s) ot cap W (h.ext hW) hl)
 rw [sheet_of g] at R72
 have R103 := Lib.hid (fun W (hW : Ext w W) => text_any (txOf s) (tx_small g) (by have := g.len2; simp only [txOf]; omega) ot cap W (by rw [siOf_tx]; exact h.ext hW))
 rw [siOf_tx] at R103
 clear h hl g
 generalize ofSh s = S at *
 have hS0 := Lib.hid (SheetBox.new w S ot cap)
 go_enter Tryz.func63, Tryz.ntmps63
 go_wp2_with (first | (go_at_call 72; refine (R72.out _ ((Ext.refl w).alloc _)).mono ?_; rintro e w1 ⟨rfl, hE1⟩; have HX := Lib.hid (((Ext.refl w).alloc _).trans hE1); have HS := Lib.hid (hS0.out.ext hE1); clear hE1; have c0 := HS.out 0 _ rfl; have c1 := HS.out 1 _ rfl; have c2 := HS.out 2 _ rfl; have c3 := HS.out 3 _ rfl; have c4 := HS.out 4 _ rfl; have c5 := HS.out 5 _ rfl; have c6 := HS.out 6 _ rfl; have c7 := HS.out 7 _ rfl; have c8 := HS.out 8 _ rfl; have c9 := HS.out 9 _ rfl; have c10 := HS.out 10 _ rfl; have c11 := HS.out 11 _ rfl; have c12 := HS.out 12 _ rfl) | (go_at_call 103; refine (R103.out _ HX.out).mono ?_; rintro e w2 ⟨rfl, hE2⟩; have HX2 := Lib.hid (HX.out.trans hE2); clear hE2))
 go_ret2
 exact ⟨rfl, HX2.out⟩

theorem sure_ok (s : ByteArray) (w : World) : Calls Tryz.prog 135 #[.bool true, .string s] w fun e w' => (∃ v, e = .returned v) ∧ w' = w := by
 go_enter Tryz.func135, Tryz.ntmps135
 go_wp2
 go_end0
 exact ⟨⟨_, rfl⟩, rfl⟩

/-- What gives up as no text. -/
def NoText (e : Ending) : Prop := ∃ s, e = .panicked [{ v := .iface 144 (.agg #[.string s]), recovered := false }]

theorem sure_bad (s : ByteArray) (w : World) : Calls Tryz.prog 135 #[.bool false, .string s] w fun e w' => NoText e ∧ w' = w := by
 go_enter Tryz.func135, Tryz.ntmps135
 go_wp2
 exact ⟨rfl, ⟨s, rfl⟩, rfl⟩

def NumPost (l : List UInt8) (e : Ending) : Prop := (∀ n, parseNum l = some n → e = .returned (.int .i64 n)) ∧ (parseNum l = none → NoText e)
theorem num_bad {l : List UInt8} {e : Ending} (h : ¬ ((l ≠ [] ∧ l.length ≤ 2 ∧ l.all isDig = true) ∧ digs (TintM.valOf l) = l)) (he : NoText e) : NumPost l e := by
 have : parseNum l = none := if_neg h
 exact ⟨fun n hn => (by rw [this] at hn; cases hn), fun _ => he⟩
theorem num_ok {l : List UInt8} {e : Ending} (h : (l ≠ [] ∧ l.length ≤ 2 ∧ l.all isDig = true) ∧ digs (TintM.valOf l) = l) (he : e = .returned (.int .i64 (TintM.valOf l : Nat))) : NumPost l e := by
 have : parseNum l = some (TintM.valOf l) := if_pos h
 exact ⟨fun n hn => (by rw [this] at hn; cases hn; exact he), fun hn => (by rw [this] at hn; cases hn)⟩
theorem number_any (l : List UInt8) (w : World) (hl : l.length ≤ 9223372036854775807) : Calls Tryz.prog 136 #[.string (bs l)] w fun e w' => NumPost l e ∧ Ext w w' := by
 have hsz := bs_size l
 go_enter Tryz.func136, Tryz.ntmps136
 go_wp2
 go_loopg [3] l.length (fun g v wr => ∃ k : Nat, k + g = l.length ∧ wr = w.iter (bs l) k ∧ v = .int .i64 (TintM.valOf (l.take k) : Nat) ∧ (l.take k).all isDig = true ∧ (0 < k → l.length ≤ 2))
 case atStart => exact ⟨0, by simp, rfl, by simp [TintM.valOf], by simp, by omega⟩
 case round =>
  obtain ⟨k, hk, rfl, rfl, hall, h2⟩ := hrel
  by_cases hlt : k < l.length
  ·have hks : k < (bs l).size := by rw [hsz]; exact hlt
   have hx : (bs l)[k]'hks = l[k] := by simp [ByteArray.getElem_eq_getElem_data]
   by_cases ha : l[k].toNat < 128
   ·have hnx := fun ty => run_next_ascii (P := Tryz.prog) w (bs l) k ty hks (by rw [hx]; exact ha)
    rw [hx] at hnx
    have hbad : ¬ (48 ≤ l[k].toNat ∧ l[k].toNat ≤ 57 ∧ l.length ≤ 2) → ¬ ((l ≠ [] ∧ l.length ≤ 2 ∧ l.all isDig = true) ∧ digs (TintM.valOf l) = l) := by
     rintro h ⟨⟨_, h3, h4⟩, _⟩
     have := List.all_eq_true.1 h4 _ (List.getElem_mem hlt)
     simp only [isDig, Bool.and_eq_true, decide_eq_true_eq] at this
     exact h ⟨this.1, this.2, h3⟩
    have Hbad := Lib.hid hbad
    have hvk : TintM.valOf (l.take (k + 1)) = 10 * TintM.valOf (l.take k) + (l[k].toNat - 48) := by rw [List.take_succ_eq_append_getElem hlt, valOf_snoc]
    have hak : (l.take (k + 1)).all isDig = ((l.take k).all isDig && isDig l[k]) := by rw [List.take_succ_eq_append_getElem hlt, List.all_append]; simp
    have Hvk := Lib.hid hvk
    have Hak := Lib.hid hak
    have Hall := Lib.hid hall
    have hv9 : k < 2 → TintM.valOf (l.take k) ≤ 9 := fun h => val1 (by rw [List.length_take]; omega) hall
    clear hbad hvk hak hall hx
    generalize hB : l[k] = b at *
    clear hB
    by_cases c1 : 48 ≤ b.toNat
    ·have c1' : (48 : Int) ≤ (b.toNat : Int) := by omega
     by_cases c2 : b.toNat ≤ 57
     ·have c2' : (b.toNat : Int) ≤ 57 := by omega
      by_cases c3 : l.length ≤ 2
      ·have c3' : (l.length : Int) ≤ 2 := by omega
       have hv := hv9 (by omega)
       clear hv9
       generalize hV : TintM.valOf (l.take k) = V at *
       clear hV
       go_wp2_with (first | (go_at_call 135; refine (sure_ok _ _).mono ?_; rintro e w2 ⟨⟨v2, rfl⟩, rfl⟩))
       go_roundg (gk - 1)
       case measure => omega
       case rel => exact ⟨k + 1, by omega, rfl, by rw [Hvk.out]; congr 1; omega, by rw [Hak.out, Hall.out]; simp [isDig, c1, c2], fun _ => c3⟩
      ·have c3' : ¬ ((l.length : Int) ≤ 2) := by omega
       go_wp2_with (first | (go_at_call 135; refine (sure_bad _ _).mono ?_; rintro e w2 ⟨⟨s2, rfl⟩, rfl⟩))
       exact ⟨rfl, num_bad (Hbad.out (by omega)) ⟨s2, rfl⟩, (Ext.refl w).alloc _⟩
     ·have c2' : ¬ ((b.toNat : Int) ≤ 57) := by omega
      go_wp2_with (first | (go_at_call 135; refine (sure_bad _ _).mono ?_; rintro e w2 ⟨⟨s2, rfl⟩, rfl⟩))
      exact ⟨rfl, num_bad (Hbad.out (by omega)) ⟨s2, rfl⟩, (Ext.refl w).alloc _⟩
    ·have c1' : ¬ ((48 : Int) ≤ (b.toNat : Int)) := by omega
     go_wp2_with (first | (go_at_call 135; refine (sure_bad _ _).mono ?_; rintro e w2 ⟨⟨s2, rfl⟩, rfl⟩))
     exact ⟨rfl, num_bad (Hbad.out (by omega)) ⟨s2, rfl⟩, (Ext.refl w).alloc _⟩
   ·obtain ⟨d1, d2⟩ := decode_high (bs l) k hks (by rw [hx]; omega)
    have hnx := fun ty => run_next_any (P := Tryz.prog) w (bs l) k ty hks
    have hbad : ¬ ((l ≠ [] ∧ l.length ≤ 2 ∧ l.all isDig = true) ∧ digs (TintM.valOf l) = l) := by
     rintro ⟨⟨_, h3, h4⟩, _⟩
     have := List.all_eq_true.1 h4 _ (List.getElem_mem hlt)
     simp only [isDig, Bool.and_eq_true, decide_eq_true_eq] at this
     omega
    have Hbad := Lib.hid hbad
    have hle := decode_le (bs l) k
    clear hbad hall hx
    generalize hD : (Utf8.decode (bs l) k).1 = d at *
    clear hD
    have c1' : (48 : Int) ≤ (d : Int) := by omega
    have c2' : ¬ ((d : Int) ≤ 57) := by omega
    go_wp2_with (first | (go_at_call 135; refine (sure_bad _ _).mono ?_; rintro e w2 ⟨⟨s2, rfl⟩, rfl⟩))
    exact ⟨rfl, num_bad Hbad.out ⟨s2, rfl⟩, (Ext.refl w).alloc _⟩
  ·have hkk : l.take k = l := List.take_of_length_le (by omega)
   have hke : k = l.length := by omega
   rw [hkk] at hall ⊢
   have hnx := fun ty => run_next_end (P := Tryz.prog) w (bs l) k ty (by rw [hsz]; omega)
   by_cases he : l = []
   ·have hem : l.isEmpty = true := by rw [he]; rfl
    have hb := Lib.hid (fun h : (l ≠ [] ∧ l.length ≤ 2 ∧ l.all isDig = true) ∧ digs (TintM.valOf l) = l => h.1.1 he)
    clear he hall hkk hke
    go_wp2_with (first | (go_at_call 135; refine (sure_bad _ _).mono ?_; rintro e w2 ⟨⟨s2, rfl⟩, rfl⟩))
    exact ⟨rfl, num_bad hb.out ⟨s2, rfl⟩, (Ext.refl w).alloc _⟩
   ·have hpos := List.length_pos_iff.2 he
    have h3 := h2 (by omega)
    have hem : l.isEmpty = false := by simpa using he
    have hv := val2 h3 hall
    have hg := (show (l ≠ [] ∧ l.length ≤ 2 ∧ l.all isDig = true) from ⟨he, h3, hall⟩)
    have Hg := Lib.hid hg
    clear hg he hall hkk hke h2
    by_cases hq : digs (TintM.valOf l) = l
    ·have heq : (Lib.decDigits (TintM.valOf l) == l) = true := by rw [beq_iff_eq]; exact hq
     have hf := Lib.hid (⟨Hg.out, hq⟩ : (l ≠ [] ∧ l.length ≤ 2 ∧ l.all isDig = true) ∧ digs (TintM.valOf l) = l)
     clear hq
     generalize hV : TintM.valOf l = V at *
     have HV := Lib.hid hV
     clear hV
     go_wp2_with (first | (go_at_call 133; refine (Tryz.strconv_Itoa_small V hv _).mono ?_; rintro e w3 ⟨rfl, rfl⟩) | (go_at_call 135; refine (sure_ok _ _).mono ?_; rintro e w2 ⟨⟨v2, rfl⟩, rfl⟩))
     go_ret
     exact ⟨num_ok (by rw [HV.out]; exact hf.out) (by rw [HV.out]; rfl), (Ext.refl w).alloc _⟩
    ·have heq : (Lib.decDigits (TintM.valOf l) == l) = false := by rw [beq_eq_false_iff_ne]; exact hq
     have hf := Lib.hid (fun h : (l ≠ [] ∧ l.length ≤ 2 ∧ l.all isDig = true) ∧ digs (TintM.valOf l) = l => hq h.2)
     clear hq
     generalize hV : TintM.valOf l = V at *
     have HV := Lib.hid hV
     clear hV
     go_wp2_with (first | (go_at_call 133; refine (Tryz.strconv_Itoa_small V hv _).mono ?_; rintro e w3 ⟨rfl, rfl⟩) | (go_at_call 135; refine (sure_bad _ _).mono ?_; rintro e w2 ⟨⟨s2, rfl⟩, rfl⟩))
     exact ⟨rfl, num_bad (by rw [HV.out]; exact hf.out) ⟨s2, rfl⟩, (Ext.refl w).alloc _⟩

end Go.Proofs.YtjpekonfjihcoaaGreatDoor
