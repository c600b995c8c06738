/- Contracts and mathematics, joined: True1, Attempt, True2. Conditions stand with each. -/
import Derived.Below
import Derived.BigQuiet
import Derived.Deep.DeepCutAuto
import Derived.Deep.DeepFit
import Derived.Deep.LoopGhost
import Derived.Deep.QuietTactic
import Derived.Deep.RegionHeld
import Derived.Deep.RegionHeld3
import Derived.Deep.RegionWith
import Derived.Defers
import Derived.Laws.EntriesVeiled
import Derived.Lib.Hide
import Derived.Maps.Keyed
import Derived.OrdersHeld
import Derived.Recover
import Derived.Test.YtjpekonfjihcoaaGreatDoorProg
import Derived.WalkKit
import Derived.WalkLawsBesides
import Derived.WalkSpells
import Derived.Test.YtjpekonfjihcoaaGreatDoorM2
import Derived.Test.YtjpekonfjihcoaaGreatDoorM19
import Derived.Test.YtjpekonfjihcoaaGreatDoorM3
import Derived.Test.YtjpekonfjihcoaaGreatDoorM16
import Derived.Test.YtjpekonfjihcoaaGreatDoorM1
import Derived.Test.YtjpekonfjihcoaaGreatDoorM17
import Derived.Test.YtjpekonfjihcoaaGreatDoorM5
import Derived.Test.YtjpekonfjihcoaaGreatDoorM4
namespace Go.TintM
end Go.TintM
set_option maxRecDepth 100000
set_option maxHeartbeats 64000000
set_option linter.unusedVariables false
set_option linter.unusedSimpArgs false
/- Contracts: what True does in attempt; True. No condition beyond sheets, mixtures and truths as defined. -/
namespace Go.Proofs.YtjpekonfjihcoaaGreatDoor
open Go.RowKit Go.My Go.TintM

theorem cell_three (w : World) (x0 x1 x2 : Int) {k : Nat} (hk : k < 3) : (w.alloc (.cells #[.int .i64 x0, .int .i64 x1, .int .i64 x2] 22)).cell? ⟨w.heap.size, k, none⟩ = some (.int .i64 ([x0, x1, x2].getD k 0)) := by
 match k, hk with
 | 0, _ => go_simp
 | 1, _ => go_simp
 | 2, _ => go_simp

theorem true1_any (s : Sh) (g : Fine s) (m : List Nat) (hm : IsMix s m) (T : Tr) (hT : GoodT s T) (ot : Option Addr) (cap : Nat) (om : Option Addr) (cm : Nat) (ol : Option Addr) (cl qn qs qt qm : Nat) (w : World) (hi : IntsAt w om (upL m)) (ht : TrisAt w ol (ofTr T).tins)
  (hn : w.cell? ⟨qn, 0, none⟩ = some (.int .i64 (m.sum : Nat))) (hs : SheetBox w qs (ofSh s) ot cap) (hb : TruthBox w qt (ofTr T) ol cl) (hx : w.cell? ⟨qm, 0, none⟩ = some (.slice om m.length cm)) :
  Calls Tryz.prog 77 #[.pointer (some ⟨qn, 0, none⟩), .pointer (some ⟨qs, 0, none⟩), .pointer (some ⟨qt, 0, none⟩), .pointer (some ⟨qm, 0, none⟩)] w fun e w' => (trueOf s m T = true → ∃ v, e = .returned v) ∧ (trueOf s m T = false → ∃ i : Int, e = .panicked [{ v := .iface 105 (.agg #[.int .i64 i]), recovered := false }]) ∧ Ext w w' := by
 have hyy : T.years ≤ 20 := Nat.le_trans hT.y2 g.yhi
 have R78 := Lib.hid (fun p (hp : p < 3) W => left_any (s.old p) T.years (T.fade p) (g.old p hp) hyy (Nat.le_trans (hT.f2 p hp) (g.fhi p hp)) W)
 have R79 := Lib.hid in_any
 have Hno := Lib.hid (fun p (hp : p < 3) (h : trueP s m T p = false) => trueOf_no hp h)
 have Hyes := Lib.hid (fun (h : ∀ p, p < 3 → trueP s m T p = true) => trueOf_iff.2 h)
 have Hp := Lib.hid (fun p => (show trueP s m T p = (decide (sumT m T p ≤ m.sum * leftT s T p + m.sum * s.off) && decide (m.sum * leftT s T p ≤ sumT m T p + m.sum * s.off)) from rfl))
 have hlen : (ofTr T).tins.length = m.length := by simp [ofTr, hT.len, hm.len]
 have Hlen := Lib.hid hlen
 have hs8 := hm.sum
 have Hsm := Lib.hid (fun p (hp : p < 3) k (hk : k ≤ m.length) => sumTo_small g hm hT hp k hk)
 have Hle := Lib.hid (fun p (hp : p < 3) => Nat.mul_le_mul hm.sum (Nat.le_trans (left_le (s.old p) T.years (T.fade p)) (g.old p hp)))
 have Hsu := Lib.hid (fun p k => sumTo_succ m T p k)
 have Hxs := Lib.hid (fun p (hp : p < 3) k (hk : k < m.length) => truth_small g hT (i := k) (p := p) (by have := hm.len; omega) hp)
 have Hms := Lib.hid (fun k (hk : k < m.length) => (show m.getD k 0 ≤ 8 by
  rw [show m.getD k 0 = m[k] by simp [List.getD, show k < m.length by omega]]; exact hm.le _ (List.getElem_mem _)))
 have hso := Nat.mul_le_mul hm.sum g.off2
 have hm4 : m.length ≤ 4 := by have := hm.len; have := g.len2; omega
 have HI := Lib.hid hi
 have HT := Lib.hid ht
 have HS0 := Lib.hid hs
 have HB0 := Lib.hid hb
 have HN0 := Lib.hid hn
 have HX0 := Lib.hid hx
 have Hof := Lib.hid (fun k (hk : k < 3) => ofTr_f T hk)
 have Hox := Lib.hid (fun j k => ofTr_x T j k)
 have Hoy := Lib.hid (show (ofTr T).years = (T.years : Nat) from rfl)
 clear hi ht hs hb hn hx hlen hm g hT
 generalize ofTr T = tt at *
 go_enter Tryz.func77, Tryz.ntmps77
 go_wp2
 go_loopg [4, 5, 6, 8, 28] 3 (fun g p v a i j wr => ∃ k : Nat, k + g = 3 ∧ i = .int .i64 k ∧ Ext w wr ∧ ∀ p, p < k → trueP s m T p = true)
 case atStart => exact ⟨0, by omega, rfl, Ext.refl _, fun p hp => by omega⟩
 case round =>
  obtain ⟨k, hk, rfl, hE, hall⟩ := hrel
  obtain ⟨g0, rfl⟩ : ∃ g0 : Nat, g0 = gk := ⟨_, rfl⟩
  have Hall := Lib.hid hall
  have HE := Lib.hid hE
  clear hE hall
  by_cases hk3 : k < 3
  ·have hkI : (k : Int) < 3 := by omega
   have co : wr.cell? ⟨qs, k, none⟩ = some (.int .i64 (s.old k)) := box_old (HS0.out.ext HE.out) hk3
   have cf : wr.cell? ⟨qt, 2 + k, none⟩ = some (.int .i64 (T.fade k : Nat)) := by rw [(HB0.out.ext HE.out).fade hk3, Hof.out k hk3]
   have cy : wr.cell? ⟨qt, 1, none⟩ = some (.int .i64 (T.years : Nat)) := by rw [← Hoy.out]; exact (HB0.out.ext HE.out) 1 _ rfl
   have cn := cell_ext HE.out HN0.out
   have hhp := Hp.out k
   have hlf : leftT s T k = left (s.old k) T.years (T.fade k) := rfl
   have hle := Hle.out k hk3
   have hst : sumT m T k = sumTo m T k m.length := rfl
   have Hsu' := Lib.hid (Hsu.out k)
   have Hsm' := Lib.hid (Hsm.out k hk3)
   have r78 := Lib.hid (R78.out k hk3)
   rw [← hlf] at hle r78
   rw [hst] at hhp
   have H00 := Lib.hid (show sumTo m T k 0 = 0 by simp [sumTo])
   clear hst hlf
   generalize leftT s T k = B at *
   generalize hSS : sumTo m T k = SS at *
   generalize m.sum = N at *
   have i1 : ((N * B : Nat) : Int) = (N : Int) * (B : Int) := Int.natCast_mul N B
   have i2 : ((N * s.off : Nat) : Int) = (N : Int) * (s.off : Int) := Int.natCast_mul N s.off
   have q0 : IntKind.i64.wrap (-(N : Int)) = -(N : Int) := by rw [IntWalk.i64_in _ (by omega)]
   have q1 : IntKind.i64.wrap (-(N : Int) * (B : Int)) = -((N * B : Nat) : Int) := by rw [Int.neg_mul, ← i1, IntWalk.i64_in _ (by omega)]
   have q2 : IntKind.i64.wrap ((N : Int) * (s.off : Int)) = ((N * s.off : Nat) : Int) := by rw [← i2, IntWalk.i64_in _ (by omega)]
   have q3 : IntKind.i64.wrap (-(N : Int) * (s.off : Int)) = -((N * s.off : Nat) : Int) := by rw [Int.neg_mul, ← i2, IntWalk.i64_in _ (by omega)]
   clear i1 i2
   generalize N * B = X at *
   generalize N * s.off = Z at *
   have Hhp := Lib.hid hhp
   clear hhp hSS
   go_wp2_with fail
   refine wp_region_plan (.take 0 <| .take 1 <| .take 2 <| .take 3 <| .take 4 <| .take 5 <| .take 6 <| .take 7 <| .take 8 <| .take 9 <| .take 10 <| .take 11 <| .only 12 <| .take 13 <| .take 14 <| .done) (fun W => Ext wr W) mixed (by kernel_rfl) (by kernel_rfl) rfl (fun _ _ d _ _ h => by cases d <;> exact h) ((Ext.refl wr).drew) ?_
   repeat ((first | (refine plan_take (v := ?_) rfl rfl (fun W hW => ?_) ?_; rotate_left; (focus (have d0 := cell_ext hW co; have d1 := cell_ext hW cf; have d2 := cell_ext hW cy; have d3 := cell_ext hW cn; go_simp; first | exact rfl | (split <;> first | exact rfl | (exfalso; omega)) | done))) | refine plan_skip rfl rfl ?_); simp only [puts])
   refine plan_walk rfl ?_; intro K hK
   go_wp2_with (first | (go_at_call 78; refine (r78.out _).mono ?_; rintro e w1 ⟨rfl, rfl⟩))
   refine hK _ _ (Ext.refl wr).drew ?_
   repeat ((first | (refine plan_take (v := ?_) rfl rfl (fun W hW => ?_) ?_; rotate_left; (focus (skip; go_simp; first | exact rfl | (split <;> first | exact rfl | (exfalso; omega)) | done))) | refine plan_skip rfl rfl ?_); simp only [puts])
   refine plan_done ?_
   have ct : wr.drew.cell? ⟨qt, 0, none⟩ = some (.slice ol tt.tins.length cl) := cell_ext (Ext.refl wr).drew ((HB0.out.ext HE.out) 0 _ rfl)
   have HEd := Lib.hid HE.out.drew
   clear co cf cy cn HE
   generalize wr.drew = wd at *
   go_wp2
   clear ct
   go_loopg [5, 6, 28] tt.tins.length (fun g v a i wr => ∃ j : Nat, j + g = tt.tins.length ∧ i = .int .i64 j ∧ Ext w wr ∧ v = .int .i64 ((SS j : Int) - (X : Int)))
   case atStart => exact ⟨0, by omega, rfl, HEd.out, congrArg (Value.int .i64) (by rw [H00.out]; omega)⟩
   case round =>
    obtain ⟨j, hj, rfl, hE, rfl⟩ := hrel
    have HE := Lib.hid hE
    clear hE
    by_cases hjn : j < tt.tins.length
    ·have hjm : j < m.length := by rw [← Hlen.out]; exact hjn
     obtain ⟨bx, ox, x0, x1, x2, hbx, hbl, hxp, y0, y1, y2⟩ := (HT.out.ext HE.out).at hjn
     subst hbx
     obtain ⟨bm, o2, hbm, _, hcm⟩ := (HI.out.ext HE.out).at (k := j) (by rw [upL_length]; exact hjm)
     subst hbm
     rw [show (upL m)[j]'(by rw [upL_length]; exact hjm) = ((m.getD j 0 : Nat) : Int) by simp [upL, List.getD, hjm]] at hcm
     have Hx := Lib.hid (hxp k hk3)
     have hjM : (j : Int) < (m.length : Int) := by omega
     have cm0 : wr.cell? ⟨qm, 0, none⟩ = some (.slice (some ⟨bm, o2, none⟩) m.length cm) := cell_ext HE.out HX0.out
     have h8 := Hms.out j hjm
     have h9 := Hxs.out k hk3 j hjm
     have hsm := Hsm'.out j (by omega)
     have hmul := Nat.mul_le_mul h8 h9
     have Hs := Lib.hid (Hsu'.out j)
     have Hxt := Lib.hid (Hox.out j k)
     clear hxp
     generalize m.getD j 0 = P at *
     generalize (T.tins.getD j []).getD k 0 = Y at *
     have hmi : ((P * Y : Nat) : Int) = (P : Int) * (Y : Int) := Int.natCast_mul P Y
     have q4 : IntKind.i64.wrap ((P : Int) * (Y : Int)) = ((P * Y : Nat) : Int) := by rw [← hmi, IntWalk.i64_in _ (by omega)]
     clear hmi
     generalize P * Y = U at *
     generalize hSj : SS j = V at *
     have q5 : IntKind.i64.wrap ((V : Int) - (X : Int) + (U : Int)) = (V : Int) - (X : Int) + (U : Int) := by rw [IntWalk.i64_in _ (by omega)]
     clear hSj
     go_wp2_with fail
     obtain ⟨w5, hw5⟩ : ∃ W, W = wr.alloc (.cells #[.int .i64 x0, .int .i64 x1, .int .i64 x2] 22) := ⟨_, rfl⟩
     have hE5 : Ext wr w5 := by rw [hw5]; exact (Ext.refl wr).alloc _
     have e2 : w5.cell? ⟨wr.heap.size, k, none⟩ = some (.int .i64 (Y : Nat)) := by
      rw [hw5, ← Hxt.out, Hx.out]
      exact cell_three _ _ _ _ hk3
     have e3 := cell_ext hE5 cm0
     have e4 := cell_ext hE5 hcm
     rw [← hw5]
     have HE5 := Lib.hid (HE.out.trans hE5)
     clear hw5 hE5 y0 y1 y2 hcm cm0 hbl
     refine wp_region_plan (.take 0 <| .take 1 <| .take 2 <| .take 3 <| .take 4 <| .take 5 <| .take 6 <| .take 7 <| .take 8 <| .take 9 <| .take 10 <| .done) (fun W => Ext w5 W) mixed (by kernel_rfl) (by kernel_rfl) rfl (fun _ _ d _ _ h => by cases d <;> exact h) ((Ext.refl w5).drew) ?_
     repeat ((first | (refine plan_take (v := ?_) rfl rfl (fun W hW => ?_) ?_; rotate_left; (focus (have d0 := cell_ext hW e2; have d1 := cell_ext hW e3; have d2 := cell_ext hW e4; go_simp; first | exact rfl | (split <;> first | exact rfl | (exfalso; omega)) | done))) | refine plan_skip rfl rfl ?_); simp only [puts])
     refine plan_done ?_
     clear e2 e3 e4
     go_wp2
     go_roundg (gk - 1)
     case measure => omega
     case rel => exact ⟨j + 1, by omega, by go_num, HE5.out.drew, congrArg (Value.int .i64) (by rw [Hs.out]; omega)⟩
    ·obtain rfl : j = tt.tins.length := by omega
     rw [Hlen.out]
     have c11 : wr.cell? ⟨qs, 11, none⟩ = some (.int .i64 (s.off : Nat)) := (HS0.out.ext HE.out) 11 _ rfl
     have cn := cell_ext HE.out HN0.out
     generalize SS m.length = A at *
     cases hq : trueP s m T k
     ·have Hn := Lib.hid (Hno.out k hk3 hq)
      have hin : inB ((A : Int) - (X : Int)) (-(Z : Int)) (Z : Int) = false := by
       cases hh : inB ((A : Int) - (X : Int)) (-(Z : Int)) (Z : Int)
       ·rfl
       ·rw [inB_iff] at hh
        rw [Hhp.out] at hq
        simp only [Bool.and_eq_false_iff, decide_eq_false_iff_not] at hq
        omega
      have Hin := Lib.hid hin
      clear hin hq
      go_wp2_with (first | (go_at_call 79; refine (R79.out _ _ _ _).mono ?_; rw [Hin.out]; rintro e w1 ⟨rfl, rfl⟩))
      exact ⟨rfl, (fun ht => by rw [Hn.out] at ht; cases ht), (fun _ => ⟨_, rfl⟩), HE.out⟩
     ·have hin : inB ((A : Int) - (X : Int)) (-(Z : Int)) (Z : Int) = true := by
       rw [Hhp.out] at hq
       simp only [Bool.and_eq_true, decide_eq_true_eq] at hq
       rw [inB_iff]; omega
      have Hin := Lib.hid hin
      have Hq := Lib.hid hq
      clear hin hq
      go_wp2_with (first | (go_at_call 79; refine (R79.out _ _ _ _).mono ?_; rw [Hin.out]; rintro e w1 ⟨rfl, rfl⟩))
      go_roundg (g0 - 1)
      case measure => omega
      case rel => exact ⟨k + 1, by omega, by go_num, HE.out, fun p hp => by
       rcases Nat.lt_succ_iff_lt_or_eq.1 hp with hp | rfl
       ·exact Hall.out p hp
       ·exact Hq.out⟩
  ·obtain rfl : k = 3 := by omega
   have Hn := Lib.hid (Hyes.out Hall.out)
   go_wp2
   go_end0
   exact ⟨fun _ => ⟨_, rfl⟩, (fun ht => by rw [Hn.out] at ht; cases ht), HE.out⟩

end Go.Proofs.YtjpekonfjihcoaaGreatDoor
/- Contracts: attempt: it returns the error of what a function gives up with. Its condition: the function's own contract. -/
namespace Go.Proofs.YtjpekonfjihcoaaGreatDoor
open Go.RowKit Go.My Go.TintM

theorem makeFunc_run (fn : Fn) (first cap : Array Value) (w : World) : (Instr.makeFunc fn first cap).run Tryz.prog w = .ok (.func fn first cap) w := rfl

theorem catch_idle (p : Addr) (w : World) :
  CallsD Tryz.prog 118 #[.pointer (some p)] .returning w fun e u' w' => e = .returned (.tuple #[]) ∧ u' = .returning ∧ w = w' := by
 refine callsD_of_wpS Tryz.func118 rfl fun c₀ cs hu => ?_
 simp only [Tryz.ntmps118, List.size_toArray, List.length_cons, List.length_nil, Nat.reduceAdd, Nat.reduceSub, Array.replicate_succ, Array.replicate_zero, List.push_toArray, List.append_toArray, List.nil_append, List.cons_append]
 apply wpS_seq
 apply wpS_region
 simp [wpOpsS, go_sem, recoverD, hu, Exit.thenS]
 refine wpS_of_wp ?_
 go_wp2
 cases c₀
 simp_all [bodyPostS, results, Tryz.results118]

theorem assert_unlike (i : Int) (w : World) : (Instr.typeAssert (.iface 105 (.agg #[.int .i64 i])) 20 105 true).run Tryz.prog w = .ok (.tuple #[.agg #[.int .i64 i], .bool true]) w := by kernel_rfl
theorem assert_text1 (s : ByteArray) (w : World) : (Instr.typeAssert (.iface 144 (.agg #[.string s])) 20 105 true).run Tryz.prog w = .ok (.tuple #[.agg #[.int .i64 0], .bool false]) w := by kernel_rfl
theorem assert_text2 (s : ByteArray) (w : World) : (Instr.typeAssert (.iface 144 (.agg #[.string s])) 20 144 true).run Tryz.prog w = .ok (.tuple #[.agg #[.string s], .bool true]) w := by kernel_rfl

theorem grown_store {w : World} {b : Nat} (o : Obj) (x : Value) : w.grownBy ((w.setCell ⟨b, 0, none⟩ x).alloc o) (some b) :=
 ⟨rfl, rfl, rfl, by simp [World.setCell], fun k hk hne => by
  rw [Below.heap_alloc _ _ _ (by simpa [World.setCell] using hk), Below.heap_setCell _ _ _ _ (fun e => hne (by simp at e; rw [e]))]⟩
theorem grown_set {w : World} {b : Nat} (x : Value) : w.grownBy (w.setCell ⟨b, 0, none⟩ x) (some b) :=
 ⟨rfl, rfl, rfl, by simp [World.setCell], fun k hk hne => Below.heap_setCell _ _ _ _ (fun e => hne (by simp at e; rw [e]))⟩
theorem cell_store {w : World} {b : Nat} (o : Obj) (x y : Value) (hc : w.cell? ⟨b, 0, none⟩ = some y) : ((w.setCell ⟨b, 0, none⟩ x).alloc o).cell? ⟨b, 0, none⟩ = some x := by
 rw [World.cell?_alloc_lt _ _ _ (by have := World.block_lt_of_cell? _ _ hc; simpa [World.setCell] using this)]
 exact World.cell?_setCell_same' _ _ _ (by rw [hc]; rfl)

theorem catch_unlike (b : Nat) (i : Int) (w : World) (x : Value) (hc : w.cell? ⟨b, 0, none⟩ = some x) (hf : w.frozen? ⟨b, 0, none⟩ = false) :
  CallsD Tryz.prog 118 #[.pointer (some ⟨b, 0, none⟩)] (.panicking [{ v := .iface 105 (.agg #[.int .i64 i]), recovered := false }]) w fun e u' w' => e = .returned (.tuple #[]) ∧
   u' = .panicking [{ v := .iface 105 (.agg #[.int .i64 i]), recovered := true }] ∧ w.grownBy w' (some b) ∧ w'.cell? ⟨b, 0, none⟩ = some (.int .i64 5) := by
 refine callsD_of_wpS Tryz.func118 rfl fun c₀ cs hu => ?_
 simp only [Tryz.ntmps118, List.size_toArray, List.length_cons, List.length_nil, Nat.reduceAdd, Nat.reduceSub, Array.replicate_succ, Array.replicate_zero, List.push_toArray, List.append_toArray, List.nil_append, List.cons_append]
 apply wpS_seq
 apply wpS_region
 simp [wpOpsS, go_sem, recoverD, hu, Exit.thenS]
 have Hu := Lib.hid hu; clear hu
 have hlt := World.block_lt_of_cell? _ _ hc
 refine wpS_of_wp ?_
 have ta := assert_unlike i
 generalize hQ : (fun e a' w' => bodyPostS Tryz.prog Tryz.f118 c₀ cs _ e a' _ w') = Q0
 have HQ := Lib.hid hQ; clear hQ
 have hne : ¬ w.heap.size = b := fun e => by simp at hlt; omega
 go_wp2
 rw [← HQ.out]
 cases c₀
 simp [bodyPostS, results, Tryz.results118]
 exact ⟨grown_store _ _, cell_store _ _ _ hc⟩

theorem catch_text (b : Nat) (s : ByteArray) (w : World) (x : Value) (hc : w.cell? ⟨b, 0, none⟩ = some x) (hf : w.frozen? ⟨b, 0, none⟩ = false) :
  CallsD Tryz.prog 118 #[.pointer (some ⟨b, 0, none⟩)] (.panicking [{ v := .iface 144 (.agg #[.string s]), recovered := false }]) w fun e u' w' => e = .returned (.tuple #[]) ∧
   u' = .panicking [{ v := .iface 144 (.agg #[.string s]), recovered := true }] ∧ w.grownBy w' (some b) ∧ w'.cell? ⟨b, 0, none⟩ = some (.int .i64 4) := by
 refine callsD_of_wpS Tryz.func118 rfl fun c₀ cs hu => ?_
 simp only [Tryz.ntmps118, List.size_toArray, List.length_cons, List.length_nil, Nat.reduceAdd, Nat.reduceSub, Array.replicate_succ, Array.replicate_zero, List.push_toArray, List.append_toArray, List.nil_append, List.cons_append]
 apply wpS_seq
 apply wpS_region
 simp [wpOpsS, go_sem, recoverD, hu, Exit.thenS]
 have Hu := Lib.hid hu; clear hu
 have hlt := World.block_lt_of_cell? _ _ hc
 refine wpS_of_wp ?_
 have ta := assert_text1 s
 have tb := assert_text2 s
 generalize hQ : (fun e a' w' => bodyPostS Tryz.prog Tryz.f118 c₀ cs _ e a' _ w') = Q0
 have HQ := Lib.hid hQ; clear hQ
 have hne : ¬ w.heap.size = b := fun e => by simp at hlt; omega
 go_wp2
 rw [← HQ.out]
 cases c₀
 simp [bodyPostS, results, Tryz.results118]
 exact ⟨grown_store _ _, cell_store _ _ _ hc⟩


/-- It returns OK if the function returns. -/
theorem attempt_ok (K : Nat) (caps : Array Value) (w : World) (R : World → Prop) (hK : ∀ args w, (callFunc K args).run Tryz.prog w = .ok (.enter K args) w)
  (hc : Calls Tryz.prog K caps (w.alloc (.cells #[.int .i64 0] 35)) fun e w1 => (∃ v, e = .returned v) ∧ w1.cell? ⟨w.heap.size, 0, none⟩ = some (.int .i64 0) ∧ w1.frozen? ⟨w.heap.size, 0, none⟩ = false ∧ R w1) :
  Calls Tryz.prog 76 #[.func (.func K) #[] caps] w fun e w' => e = .returned (.int .i64 0) ∧ ∃ w1, R w1 ∧ w1.grownBy w' (some w.heap.size) := by
 have hmf := makeFunc_run
 have Hc := Lib.hid hc; clear hc
 go_enter_defers Tryz.func76, Tryz.ntmps76
 go_wp2_with fail
 refine Hc.out.mono ?_
 rintro e w1 ⟨⟨v, rfl⟩, hb, hf, hR⟩
 have HR := Lib.hid hR; clear hR
 go_wp2
 refine leaves_cons (f := 118) (args := #[.pointer (some ⟨w.heap.size, 0, none⟩)]) (by simp) (by simp [go_sem]) ?_
 refine (catch_idle ⟨w.heap.size, 0, none⟩ _).mono ?_
 rintro e u' w'' ⟨rfl, rfl, rfl⟩
 simp only [Leaves, settle, results, Tryz.results76]
 have hx : (w1.setCell ⟨w.heap.size, 0, none⟩ (.int .i64 0)).cell? ⟨w.heap.size, 0, none⟩ = some (.int .i64 0) := World.cell?_setCell_same' _ _ _ (by rw [hb]; rfl)
 simp only [go_sem]
 exact ⟨_, by simp [go_sem, hx], rfl, w1, HR.out, grown_set _⟩

/-- It returns ErrNone if the function gives up with a unlike. -/
theorem attempt_unlike (K : Nat) (caps : Array Value) (w : World) (R : World → Prop) (hK : ∀ args w, (callFunc K args).run Tryz.prog w = .ok (.enter K args) w)
  (hc : Calls Tryz.prog K caps (w.alloc (.cells #[.int .i64 0] 35)) fun e w1 => (∃ i, e = .panicked [{ v := .iface 105 (.agg #[.int .i64 i]), recovered := false }]) ∧ w1.cell? ⟨w.heap.size, 0, none⟩ = some (.int .i64 0) ∧ w1.frozen? ⟨w.heap.size, 0, none⟩ = false ∧ R w1) :
  Calls Tryz.prog 76 #[.func (.func K) #[] caps] w fun e w' => e = .returned (.int .i64 5) ∧ ∃ w1, R w1 ∧ w1.grownBy w' (some w.heap.size) := by
 have hmf := makeFunc_run
 have Hc := Lib.hid hc; clear hc
 go_enter_defers Tryz.func76, Tryz.ntmps76
 go_wp2_with fail
 refine Hc.out.mono ?_
 rintro e w1 ⟨⟨i, rfl⟩, hb, hf, hR⟩
 have HR := Lib.hid hR; clear hR
 refine leaves_cons (f := 118) (args := #[.pointer (some ⟨w.heap.size, 0, none⟩)]) (by simp) (by simp [go_sem]) ?_
 refine (catch_unlike w.heap.size i _ _ hb hf).mono ?_
 rintro e u' w'' ⟨rfl, rfl, hg, hc7⟩
 exact ⟨_, by simp [results, Tryz.results76, go_sem, hc7], rfl, w1, HR.out, hg⟩

/-- It returns ErrText if the function gives up with a string that is no text. -/
theorem attempt_text (K : Nat) (caps : Array Value) (w : World) (R : World → Prop) (hK : ∀ args w, (callFunc K args).run Tryz.prog w = .ok (.enter K args) w)
  (hc : Calls Tryz.prog K caps (w.alloc (.cells #[.int .i64 0] 35)) fun e w1 => (∃ s, e = .panicked [{ v := .iface 144 (.agg #[.string s]), recovered := false }]) ∧ w1.cell? ⟨w.heap.size, 0, none⟩ = some (.int .i64 0) ∧ w1.frozen? ⟨w.heap.size, 0, none⟩ = false ∧ R w1) :
  Calls Tryz.prog 76 #[.func (.func K) #[] caps] w fun e w' => e = .returned (.int .i64 4) ∧ ∃ w1, R w1 ∧ w1.grownBy w' (some w.heap.size) := by
 have hmf := makeFunc_run
 have Hc := Lib.hid hc; clear hc
 go_enter_defers Tryz.func76, Tryz.ntmps76
 go_wp2_with fail
 refine Hc.out.mono ?_
 rintro e w1 ⟨⟨s, rfl⟩, hb, hf, hR⟩
 have HR := Lib.hid hR; clear hR
 refine leaves_cons (f := 118) (args := #[.pointer (some ⟨w.heap.size, 0, none⟩)]) (by simp) (by simp [go_sem]) ?_
 refine (catch_text w.heap.size s _ _ hb hf).mono ?_
 rintro e u' w'' ⟨rfl, rfl, hg, hc4⟩
 exact ⟨_, by simp [results, Tryz.results76, go_sem, hc4], rfl, w1, HR.out, hg⟩

end Go.Proofs.YtjpekonfjihcoaaGreatDoor
/- Contract: True. No condition beyond lists of at most 1000 numbers. -/
namespace Go.Proofs.YtjpekonfjihcoaaGreatDoor
open Go.RowKit Go.My Go.TintM

theorem upL_to {s : Sh} {m : List Nat} (hm : IsMix s m) : ∀ x ∈ upL m, 0 ≤ x ∧ x ≤ 10000 := fun x hx => by
 obtain ⟨n, hn, rfl⟩ := List.mem_map.1 hx
 have := hm.le n hn; omega
/-- What a call leaves, of which the callee's variable has been written. -/
theorem ext_grown {w w1 w' : World} (h1 : Ext w w1) (h2 : w1.grownBy w' (some w.heap.size)) : Ext w w' :=
 h1.below (B := w.heap.size) ((Below.refl _ _).grown h2 h1.size (fun k e => by simp at e; omega)) (Nat.le_refl _)
theorem ext_of_alloc {w w1 : World} {o : Obj} (h : Ext (w.alloc o) w1) : Ext w w1 := ((Ext.refl w).alloc o).trans h
theorem attempt_ok_ext (K : Nat) (caps : Array Value) (w : World) (hK : ∀ args w, (callFunc K args).run Tryz.prog w = .ok (.enter K args) w)
  (hc : Calls Tryz.prog K caps (w.alloc (.cells #[.int .i64 0] 35)) fun e w1 => (∃ v, e = .returned v) ∧ Ext (w.alloc (.cells #[.int .i64 0] 35)) w1) :
  Calls Tryz.prog 76 #[.func (.func K) #[] caps] w fun e w' => e = .returned (.int .i64 0) ∧ Ext w w' := by
 refine (attempt_ok K caps w (fun w1 => Ext w w1) hK (hc.mono ?_)).mono ?_
 ·rintro e w1 ⟨h1, h2⟩
  exact ⟨h1, cell_ext h2 (by go_simp), (h2.frozen (p := ⟨w.heap.size, 0, none⟩) (by simp)).trans (by go_simp), ext_of_alloc h2⟩
 ·rintro e w' ⟨h1, w1, h2, h3⟩
  exact ⟨h1, ext_grown h2 h3⟩
theorem attempt_unlike_ext (K : Nat) (caps : Array Value) (w : World) (hK : ∀ args w, (callFunc K args).run Tryz.prog w = .ok (.enter K args) w)
  (hc : Calls Tryz.prog K caps (w.alloc (.cells #[.int .i64 0] 35)) fun e w1 => (∃ i : Int, e = .panicked [{ v := .iface 105 (.agg #[.int .i64 i]), recovered := false }]) ∧ Ext (w.alloc (.cells #[.int .i64 0] 35)) w1) :
  Calls Tryz.prog 76 #[.func (.func K) #[] caps] w fun e w' => e = .returned (.int .i64 5) ∧ Ext w w' := by
 refine (attempt_unlike K caps w (fun w1 => Ext w w1) hK (hc.mono ?_)).mono ?_
 ·rintro e w1 ⟨h1, h2⟩
  exact ⟨h1, cell_ext h2 (by go_simp), (h2.frozen (p := ⟨w.heap.size, 0, none⟩) (by simp)).trans (by go_simp), ext_of_alloc h2⟩
 ·rintro e w' ⟨h1, w1, h2, h3⟩
  exact ⟨h1, ext_grown h2 h3⟩
theorem attempt_text_ext (K : Nat) (caps : Array Value) (w : World) (hK : ∀ args w, (callFunc K args).run Tryz.prog w = .ok (.enter K args) w)
  (hc : Calls Tryz.prog K caps (w.alloc (.cells #[.int .i64 0] 35)) fun e w1 => (∃ s, e = .panicked [{ v := .iface 144 (.agg #[.string s]), recovered := false }]) ∧ Ext (w.alloc (.cells #[.int .i64 0] 35)) w1) :
  Calls Tryz.prog 76 #[.func (.func K) #[] caps] w fun e w' => e = .returned (.int .i64 4) ∧ Ext w w' := by
 refine (attempt_text K caps w (fun w1 => Ext w w1) hK (hc.mono ?_)).mono ?_
 ·rintro e w1 ⟨h1, h2⟩
  exact ⟨h1, cell_ext h2 (by go_simp), (h2.frozen (p := ⟨w.heap.size, 0, none⟩) (by simp)).trans (by go_simp), ext_of_alloc h2⟩
 ·rintro e w' ⟨h1, w1, h2, h3⟩
  exact ⟨h1, ext_grown h2 h3⟩
theorem enters77 (args : Array Value) (w : World) : (callFunc 77 args).run Tryz.prog w = .ok (.enter 77 args) w := by kernel_rfl

/-- The boxes of a sheet, a mixture and a truth. -/
structure TBx (S : SI) (ot : Option Addr) (cap n : Nat) (ol : Option Addr) (cl : Nat) (t : TI) (ob : Option Addr) (cb : Nat) (w W : World) : Prop where
 ext : Ext w W
 sheet : SheetBox W w.heap.size S ot cap
 mix : W.cell? ⟨w.heap.size + 1, 0, none⟩ = some (.slice ol n cl)
 truth : TruthBox W (w.heap.size + 2) t ob cb
theorem TBx.start (S : SI) (ot : Option Addr) (cap n : Nat) (ol : Option Addr) (cl : Nat) (t : TI) (ob : Option Addr) (cb : Nat) (w : World) :
  TBx S ot cap n ol cl t ob cb w (((w.alloc (.cells (sheetC S ot cap) 28)).alloc (.cells #[.slice ol n cl] 29)).alloc (.cells (truthC t ob cb) 32)) := by
 refine ⟨(((Ext.refl w).alloc _).alloc _).alloc _, ((SheetBox.new w S ot cap).ext ((Ext.refl _).alloc _)).ext ((Ext.refl _).alloc _), ?_, ?_⟩
 ·refine cell_ext ((Ext.refl _).alloc _) ?_
  have h := heap_alloc_new (w.alloc (.cells (sheetC S ot cap) 28)) (.cells #[.slice ol n cl] 29)
  rw [World.size_alloc] at h
  rw [cell_of_row _ _ 0 _ _ _ h]; rfl
 ·have := TruthBox.new ((w.alloc (.cells (sheetC S ot cap) 28)).alloc (.cells #[.slice ol n cl] 29)) t ob cb
  simpa only [World.size_alloc, Nat.add_assoc, Nat.reduceAdd] using this
theorem TBx.next {S : SI} {ot : Option Addr} {cap n : Nat} {ol : Option Addr} {cl : Nat} {t : TI} {ob : Option Addr} {cb : Nat} {w W W' : World} (h : TBx S ot cap n ol cl t ob cb w W) (hE : Ext W W') : TBx S ot cap n ol cl t ob cb w W' :=
 ⟨h.ext.trans hE, h.sheet.ext hE, cell_ext hE h.mix, h.truth.ext hE⟩


theorem sTrue_bad (S : SI) (ot : Option Addr) (cap : Nat) (l : List Int) (ol : Option Addr) (cl : Nat) (t : TI) (ob : Option Addr) (cb : Nat) (w : World) (h : TinsAt w ot S.tins) (hl : S.tins.length ≤ 9223372036854775807) (hi : IntsAt w ol l) (hll : l.length ≤ 1000) (hb : (sheetB S && mixB S l) = false) :
  Calls Tryz.prog 23 #[sheetV S ot cap, .slice ol l.length cl, truthV t ob cb] w fun e w' => e = .returned (.tuple #[.bool false, .int .i64 2]) ∧ Ext w w' := by
 have R72 := Lib.hid (fun W (hW : Ext w W) => isSheet_any S ot cap W (h.ext hW) hl)
 have R73 := Lib.hid (fun W (hW : Ext w W) => isMix_any S ot cap l ol cl W (hi.ext hW) hll)
 have B := Lib.hid (TBx.start S ot cap l.length ol cl t ob cb w)
 clear h hi hl hll
 cases h1 : sheetB S
 ·rw [h1] at R72
  clear h1 hb R73
  go_enter Tryz.func23, Tryz.ntmps23
  go_wp2_with (first | (go_at_call 72; refine (R72.out _ B.out.ext).mono ?_; rintro e w1 ⟨rfl, hE1⟩; replace B := Lib.hid (B.out.next hE1); clear hE1; have c0 := B.out.sheet 0 _ rfl; have c1 := B.out.sheet 1 _ rfl; have c2 := B.out.sheet 2 _ rfl; have c3 := B.out.sheet 3 _ rfl; have c4 := B.out.sheet 4 _ rfl; have c5 := B.out.sheet 5 _ rfl; have c6 := B.out.sheet 6 _ rfl; have c7 := B.out.sheet 7 _ rfl; have c8 := B.out.sheet 8 _ rfl; have c9 := B.out.sheet 9 _ rfl; have c10 := B.out.sheet 10 _ rfl; have c11 := B.out.sheet 11 _ rfl; have c12 := B.out.sheet 12 _ rfl; have m0 := B.out.mix; have v0 : World.cell? w1 ⟨w.heap.size + 2, 0, none⟩ = some (.slice ob t.tins.length cb) := B.out.truth 0 _ rfl; have v1 := B.out.truth 1 _ rfl; have v2 := B.out.truth 2 _ rfl; have v3 := B.out.truth 3 _ rfl; have v4 := B.out.truth 4 _ rfl))
  go_ret2
  exact ⟨rfl, B.out.ext⟩
 ·rw [h1] at R72 hb
  rw [Bool.true_and] at hb
  rw [hb] at R73
  clear h1 hb
  go_enter Tryz.func23, Tryz.ntmps23
  go_wp2_with (first | (go_at_call 72; refine (R72.out _ B.out.ext).mono ?_; rintro e w1 ⟨rfl, hE1⟩; replace B := Lib.hid (B.out.next hE1); clear hE1; have c0 := B.out.sheet 0 _ rfl; have c1 := B.out.sheet 1 _ rfl; have c2 := B.out.sheet 2 _ rfl; have c3 := B.out.sheet 3 _ rfl; have c4 := B.out.sheet 4 _ rfl; have c5 := B.out.sheet 5 _ rfl; have c6 := B.out.sheet 6 _ rfl; have c7 := B.out.sheet 7 _ rfl; have c8 := B.out.sheet 8 _ rfl; have c9 := B.out.sheet 9 _ rfl; have c10 := B.out.sheet 10 _ rfl; have c11 := B.out.sheet 11 _ rfl; have c12 := B.out.sheet 12 _ rfl; have m0 := B.out.mix; have v0 : World.cell? w1 ⟨w.heap.size + 2, 0, none⟩ = some (.slice ob t.tins.length cb) := B.out.truth 0 _ rfl; have v1 := B.out.truth 1 _ rfl; have v2 := B.out.truth 2 _ rfl; have v3 := B.out.truth 3 _ rfl; have v4 := B.out.truth 4 _ rfl) | (go_at_call 73; refine (R73.out _ B.out.ext).mono ?_; rintro e w1 ⟨rfl, hE1⟩; replace B := Lib.hid (B.out.next hE1); clear hE1; clear c0 c1 c2 c3 c4 c5 c6 c7 c8 c9 c10 c11 c12; clear v0 v1 v2 v3 v4; clear m0; have c0 := B.out.sheet 0 _ rfl; have c1 := B.out.sheet 1 _ rfl; have c2 := B.out.sheet 2 _ rfl; have c3 := B.out.sheet 3 _ rfl; have c4 := B.out.sheet 4 _ rfl; have c5 := B.out.sheet 5 _ rfl; have c6 := B.out.sheet 6 _ rfl; have c7 := B.out.sheet 7 _ rfl; have c8 := B.out.sheet 8 _ rfl; have c9 := B.out.sheet 9 _ rfl; have c10 := B.out.sheet 10 _ rfl; have c11 := B.out.sheet 11 _ rfl; have c12 := B.out.sheet 12 _ rfl; have m0 := B.out.mix; have v0 : World.cell? w1 ⟨w.heap.size + 2, 0, none⟩ = some (.slice ob t.tins.length cb) := B.out.truth 0 _ rfl; have v1 := B.out.truth 1 _ rfl; have v2 := B.out.truth 2 _ rfl; have v3 := B.out.truth 3 _ rfl; have v4 := B.out.truth 4 _ rfl))
  go_ret2
  exact ⟨rfl, B.out.ext⟩

theorem sTrue_no (s : Sh) (g : Fine s) (m : List Nat) (hm : IsMix s m) (ot : Option Addr) (cap : Nat) (ol : Option Addr) (cl : Nat) (t : TI) (ob : Option Addr) (cb : Nat) (w : World) (h : TinsAt w ot (ofSh s).tins) (hi : IntsAt w ol (upL m)) (ht : TrisAt w ob t.tins) (hlt : t.tins.length ≤ 9223372036854775807) (hb : truthB s t = false) :
  Calls Tryz.prog 23 #[sheetV (ofSh s) ot cap, .slice ol m.length cl, truthV t ob cb] w fun e w' => e = .returned (.tuple #[.bool false, .int .i64 2]) ∧ Ext w w' := by
 have hl : (ofSh s).tins.length ≤ 9223372036854775807 := by rw [tins_len]; have := g.len2; omega
 have hll : (upL m).length ≤ 1000 := by rw [upL_length, hm.len]; have := g.len2; omega
 have R72 := Lib.hid (fun W (hW : Ext w W) => isSheet_any (ofSh s) ot cap W (h.ext hW) hl)
 rw [sheet_of g] at R72
 have R73 := Lib.hid (fun W (hW : Ext w W) => isMix_any (ofSh s) ot cap (upL m) ol cl W (hi.ext hW) hll)
 rw [mix_of hm, upL_length] at R73
 have R74 := Lib.hid (fun W (hW : Ext w W) => isTruth_any s g ot cap t ob cb W (h.ext hW) (ht.ext hW) hlt)
 rw [hb] at R74
 obtain ⟨S, hS⟩ : ∃ S, S = ofSh s := ⟨_, rfl⟩
 rw [← hS] at R72 R73 R74 ⊢
 have B := Lib.hid (TBx.start S ot cap m.length ol cl t ob cb w)
 clear h hi hl hll hlt ht g hm hS hb
 go_enter Tryz.func23, Tryz.ntmps23
 go_wp2_with (first | (go_at_call 72; refine (R72.out _ B.out.ext).mono ?_; rintro e w1 ⟨rfl, hE1⟩; replace B := Lib.hid (B.out.next hE1); clear hE1; have c0 := B.out.sheet 0 _ rfl; have c1 := B.out.sheet 1 _ rfl; have c2 := B.out.sheet 2 _ rfl; have c3 := B.out.sheet 3 _ rfl; have c4 := B.out.sheet 4 _ rfl; have c5 := B.out.sheet 5 _ rfl; have c6 := B.out.sheet 6 _ rfl; have c7 := B.out.sheet 7 _ rfl; have c8 := B.out.sheet 8 _ rfl; have c9 := B.out.sheet 9 _ rfl; have c10 := B.out.sheet 10 _ rfl; have c11 := B.out.sheet 11 _ rfl; have c12 := B.out.sheet 12 _ rfl; have m0 := B.out.mix; have v0 : World.cell? w1 ⟨w.heap.size + 2, 0, none⟩ = some (.slice ob t.tins.length cb) := B.out.truth 0 _ rfl; have v1 := B.out.truth 1 _ rfl; have v2 := B.out.truth 2 _ rfl; have v3 := B.out.truth 3 _ rfl; have v4 := B.out.truth 4 _ rfl) | (go_at_call 73; refine (R73.out _ B.out.ext).mono ?_; rintro e w1 ⟨rfl, hE1⟩; replace B := Lib.hid (B.out.next hE1); clear hE1; clear c0 c1 c2 c3 c4 c5 c6 c7 c8 c9 c10 c11 c12; clear v0 v1 v2 v3 v4; clear m0; have c0 := B.out.sheet 0 _ rfl; have c1 := B.out.sheet 1 _ rfl; have c2 := B.out.sheet 2 _ rfl; have c3 := B.out.sheet 3 _ rfl; have c4 := B.out.sheet 4 _ rfl; have c5 := B.out.sheet 5 _ rfl; have c6 := B.out.sheet 6 _ rfl; have c7 := B.out.sheet 7 _ rfl; have c8 := B.out.sheet 8 _ rfl; have c9 := B.out.sheet 9 _ rfl; have c10 := B.out.sheet 10 _ rfl; have c11 := B.out.sheet 11 _ rfl; have c12 := B.out.sheet 12 _ rfl; have m0 := B.out.mix; have v0 : World.cell? w1 ⟨w.heap.size + 2, 0, none⟩ = some (.slice ob t.tins.length cb) := B.out.truth 0 _ rfl; have v1 := B.out.truth 1 _ rfl; have v2 := B.out.truth 2 _ rfl; have v3 := B.out.truth 3 _ rfl; have v4 := B.out.truth 4 _ rfl) | (go_at_call 74; refine (R74.out _ B.out.ext).mono ?_; rintro e w1 ⟨rfl, hE1⟩; replace B := Lib.hid (B.out.next hE1); clear hE1; clear c0 c1 c2 c3 c4 c5 c6 c7 c8 c9 c10 c11 c12; clear v0 v1 v2 v3 v4; clear m0; have c0 := B.out.sheet 0 _ rfl; have c1 := B.out.sheet 1 _ rfl; have c2 := B.out.sheet 2 _ rfl; have c3 := B.out.sheet 3 _ rfl; have c4 := B.out.sheet 4 _ rfl; have c5 := B.out.sheet 5 _ rfl; have c6 := B.out.sheet 6 _ rfl; have c7 := B.out.sheet 7 _ rfl; have c8 := B.out.sheet 8 _ rfl; have c9 := B.out.sheet 9 _ rfl; have c10 := B.out.sheet 10 _ rfl; have c11 := B.out.sheet 11 _ rfl; have c12 := B.out.sheet 12 _ rfl; have m0 := B.out.mix; have v0 : World.cell? w1 ⟨w.heap.size + 2, 0, none⟩ = some (.slice ob t.tins.length cb) := B.out.truth 0 _ rfl; have v1 := B.out.truth 1 _ rfl; have v2 := B.out.truth 2 _ rfl; have v3 := B.out.truth 3 _ rfl; have v4 := B.out.truth 4 _ rfl))
 go_ret2
 exact ⟨rfl, B.out.ext⟩

theorem true1_att (s : Sh) (g : Fine s) (m : List Nat) (hm : IsMix s m) (T : Tr) (hT : GoodT s T) (ot : Option Addr) (cap : Nat) (ol : Option Addr) (cl : Nat) (ob : Option Addr) (cb : Nat) (w : World) (hi : IntsAt w ol (upL m)) (ht : TrisAt w ob (ofTr T).tins)
  (W : World) (hB : TBx (ofSh s) ot cap m.length ol cl (ofTr T) ob cb w W) (q : Nat) (hq : W.cell? ⟨q, 0, none⟩ = some (.int .i64 (m.sum : Nat))) :
  Calls Tryz.prog 76 #[.func (.func 77) #[] #[.pointer (some ⟨q, 0, none⟩), .pointer (some ⟨w.heap.size, 0, none⟩), .pointer (some ⟨w.heap.size + 2, 0, none⟩), .pointer (some ⟨w.heap.size + 1, 0, none⟩)]] W fun e w' => e = .returned (.int .i64 (if trueOf s m T = true then 0 else 5)) ∧ Ext W w' := by
 have hE := (Ext.refl W).alloc (.cells #[.int .i64 0] 35)
 have hB2 := hB.next hE
 have hC := true1_any s g m hm T hT ot cap ol cl ob cb q w.heap.size (w.heap.size + 2) (w.heap.size + 1) _ (hi.ext hB2.ext) (ht.ext hB2.ext) (cell_ext hE hq) hB2.sheet hB2.truth hB2.mix
 cases hv : trueOf s m T
 ·rw [if_neg (by simp)]
  exact attempt_unlike_ext 77 _ W enters77 (hC.mono fun e w' h => ⟨h.2.1 hv, h.2.2⟩)
 ·rw [if_pos rfl]
  exact attempt_ok_ext 77 _ W enters77 (hC.mono fun e w' h => ⟨h.1 hv, h.2.2⟩)

theorem sTrue_ok (s : Sh) (g : Fine s) (m : List Nat) (hm : IsMix s m) (T : Tr) (hT : GoodT s T) (ot : Option Addr) (cap : Nat) (ol : Option Addr) (cl : Nat) (ob : Option Addr) (cb : Nat) (w : World) (h : TinsAt w ot (ofSh s).tins) (hi : IntsAt w ol (upL m)) (ht : TrisAt w ob (ofTr T).tins) :
  Calls Tryz.prog 23 #[sheetV (ofSh s) ot cap, .slice ol m.length cl, truthV (ofTr T) ob cb] w fun e w' => e = .returned (.tuple #[.bool (trueOf s m T), .int .i64 0]) ∧ Ext w w' := by
 have hl : (ofSh s).tins.length ≤ 9223372036854775807 := by rw [tins_len]; have := g.len2; omega
 have hll : (upL m).length ≤ 1000 := by rw [upL_length, hm.len]; have := g.len2; omega
 have hlt : (ofTr T).tins.length ≤ 9223372036854775807 := by simp only [ofTr, List.length_map, hT.len]; have := g.len2; omega
 have R72 := Lib.hid (fun W (hW : Ext w W) => isSheet_any (ofSh s) ot cap W (h.ext hW) hl)
 rw [sheet_of g] at R72
 have R73 := Lib.hid (fun W (hW : Ext w W) => isMix_any (ofSh s) ot cap (upL m) ol cl W (hi.ext hW) hll)
 rw [mix_of hm, upL_length] at R73
 have R74 := Lib.hid (fun W (hW : Ext w W) => isTruth_any s g ot cap (ofTr T) ob cb W (h.ext hW) (ht.ext hW) hlt)
 rw [truth_of hT] at R74
 have R75 := Lib.hid (fun W (hW : Ext w W) => sumB_any (upL m) ol cl W (hi.ext hW) hll (upL_to hm))
 rw [upL_length, sum_up] at R75
 have R76 := Lib.hid (fun W hB q hq => true1_att s g m hm T hT ot cap ol cl ob cb w hi ht W hB q hq)
 have Hv := Lib.hid (show ∀ b : Bool, ((if b = true then (0 : Int) else 5) == 0) = b by intro b; cases b <;> rfl)
 obtain ⟨S, hS⟩ : ∃ S, S = ofSh s := ⟨_, rfl⟩
 rw [← hS] at R72 R73 R74 R76 ⊢
 obtain ⟨t, htt⟩ : ∃ t, t = ofTr T := ⟨_, rfl⟩
 rw [← htt] at R74 R76 ⊢
 have B := Lib.hid (TBx.start S ot cap m.length ol cl t ob cb w)
 generalize trueOf s m T = V at *
 have hv0 := Hv.out V
 obtain ⟨E, hE⟩ : ∃ E : Int, E = if V = true then 0 else 5 := ⟨_, rfl⟩
 rw [← hE] at R76 hv0
 clear h hi hl hll hlt ht g hm hS hT htt hE
 go_enter Tryz.func23, Tryz.ntmps23
 go_wp2_with (first | (go_at_call 72; refine (R72.out _ B.out.ext).mono ?_; rintro e w1 ⟨rfl, hE1⟩; replace B := Lib.hid (B.out.next hE1); clear hE1; have c0 := B.out.sheet 0 _ rfl; have c1 := B.out.sheet 1 _ rfl; have c2 := B.out.sheet 2 _ rfl; have c3 := B.out.sheet 3 _ rfl; have c4 := B.out.sheet 4 _ rfl; have c5 := B.out.sheet 5 _ rfl; have c6 := B.out.sheet 6 _ rfl; have c7 := B.out.sheet 7 _ rfl; have c8 := B.out.sheet 8 _ rfl; have c9 := B.out.sheet 9 _ rfl; have c10 := B.out.sheet 10 _ rfl; have c11 := B.out.sheet 11 _ rfl; have c12 := B.out.sheet 12 _ rfl; have m0 := B.out.mix; have v0 : World.cell? w1 ⟨w.heap.size + 2, 0, none⟩ = some (.slice ob t.tins.length cb) := B.out.truth 0 _ rfl; have v1 := B.out.truth 1 _ rfl; have v2 := B.out.truth 2 _ rfl; have v3 := B.out.truth 3 _ rfl; have v4 := B.out.truth 4 _ rfl) | (go_at_call 73; refine (R73.out _ B.out.ext).mono ?_; rintro e w1 ⟨rfl, hE1⟩; replace B := Lib.hid (B.out.next hE1); clear hE1; clear c0 c1 c2 c3 c4 c5 c6 c7 c8 c9 c10 c11 c12; clear v0 v1 v2 v3 v4; clear m0; have c0 := B.out.sheet 0 _ rfl; have c1 := B.out.sheet 1 _ rfl; have c2 := B.out.sheet 2 _ rfl; have c3 := B.out.sheet 3 _ rfl; have c4 := B.out.sheet 4 _ rfl; have c5 := B.out.sheet 5 _ rfl; have c6 := B.out.sheet 6 _ rfl; have c7 := B.out.sheet 7 _ rfl; have c8 := B.out.sheet 8 _ rfl; have c9 := B.out.sheet 9 _ rfl; have c10 := B.out.sheet 10 _ rfl; have c11 := B.out.sheet 11 _ rfl; have c12 := B.out.sheet 12 _ rfl; have m0 := B.out.mix; have v0 : World.cell? w1 ⟨w.heap.size + 2, 0, none⟩ = some (.slice ob t.tins.length cb) := B.out.truth 0 _ rfl; have v1 := B.out.truth 1 _ rfl; have v2 := B.out.truth 2 _ rfl; have v3 := B.out.truth 3 _ rfl; have v4 := B.out.truth 4 _ rfl) | (go_at_call 74; refine (R74.out _ B.out.ext).mono ?_; rintro e w1 ⟨rfl, hE1⟩; replace B := Lib.hid (B.out.next hE1); clear hE1; clear c0 c1 c2 c3 c4 c5 c6 c7 c8 c9 c10 c11 c12; clear v0 v1 v2 v3 v4; clear m0; have c0 := B.out.sheet 0 _ rfl; have c1 := B.out.sheet 1 _ rfl; have c2 := B.out.sheet 2 _ rfl; have c3 := B.out.sheet 3 _ rfl; have c4 := B.out.sheet 4 _ rfl; have c5 := B.out.sheet 5 _ rfl; have c6 := B.out.sheet 6 _ rfl; have c7 := B.out.sheet 7 _ rfl; have c8 := B.out.sheet 8 _ rfl; have c9 := B.out.sheet 9 _ rfl; have c10 := B.out.sheet 10 _ rfl; have c11 := B.out.sheet 11 _ rfl; have c12 := B.out.sheet 12 _ rfl; have m0 := B.out.mix; have v0 : World.cell? w1 ⟨w.heap.size + 2, 0, none⟩ = some (.slice ob t.tins.length cb) := B.out.truth 0 _ rfl; have v1 := B.out.truth 1 _ rfl; have v2 := B.out.truth 2 _ rfl; have v3 := B.out.truth 3 _ rfl; have v4 := B.out.truth 4 _ rfl) | (go_at_call 75; refine (R75.out _ B.out.ext).mono ?_; rintro e w2 ⟨rfl, rfl⟩) | (go_at_call 76; refine (R76.out _ (B.out.next ((Ext.refl _).alloc _)) _ (by go_simp)).mono ?_; rintro e w2 ⟨rfl, hE2⟩; have HE2 := Lib.hid (B.out.ext.trans (((Ext.refl _).alloc _).trans hE2)); clear hE2))
 go_ret2
 exact ⟨by first | rfl | simp [hv0], HE2.out⟩

end Go.Proofs.YtjpekonfjihcoaaGreatDoor
