/- What the walk of StripTrue asks; where there is no order. No condition. -/
import Derived.Test.YtiehfpkcaoeieaaGreatDoorAgree
set_option linter.unusedVariables false
set_option linter.unusedSimpArgs false
namespace Go.Proofs.YtiehfpkcaoeieaaGreatDoor
open Go.RowKit Go.My Go.StripM

/-- What the walk of StripTrue asks of each call. -/
structure TrueCalls (n : Nat) (ss : List (List Nat)) (oa : Option Addr) (cap : Nat) (p : List Nat) (ob : Option Addr) (cb a b : Nat) (w : World) (is : Bool) (e X Y LA LB : Int) (HA HB : Int) : Prop where
  r29 : ∀ W, Bx n ss oa cap w W → Calls Tryz.prog 29 #[.agg #[.int .i64 n, .slice oa ss.length cap]] W fun e w' => e = .returned (.bool true) ∧ Ext W w'
  r30 : ∀ W, Bx n ss oa cap w W → ∀ v, Calls Tryz.prog 30 #[.agg #[.int .i64 n, v], .slice ob p.length cb] W fun e w' => e = .returned (.bool true) ∧ Ext W w'
  r35a : ∀ W, Bx n ss oa cap w W → ∀ v, Calls Tryz.prog 35 #[.agg #[.int .i64 n, v], .int .i64 a] W fun e w' => e = .returned (.bool true) ∧ Ext W w'
  r35b : ∀ W, Bx n ss oa cap w W → ∀ v, Calls Tryz.prog 35 #[.agg #[.int .i64 n, v], .int .i64 b] W fun e w' => e = .returned (.bool true) ∧ Ext W w'
  r31 : ∀ W, Bx n ss oa cap w W → Calls Tryz.prog 31 #[.agg #[.int .i64 n, .slice oa ss.length cap], .slice ob p.length cb] W fun e w' => e = .returned (.tuple #[.bool is, .bool true]) ∧ Ext W w'
  rab : ∀ W, Bx n ss oa cap w W → Calls Tryz.prog 33 #[.agg #[.int .i64 n, .slice oa ss.length cap], .int .i64 a, .int .i64 b] W fun r w' => r = .returned (.tuple #[.int .i64 X, .int .i64 e]) ∧ Ext W w'
  rba : ∀ W, Bx n ss oa cap w W → Calls Tryz.prog 33 #[.agg #[.int .i64 n, .slice oa ss.length cap], .int .i64 b, .int .i64 a] W fun r w' => r = .returned (.tuple #[.int .i64 Y, .int .i64 e]) ∧ Ext W w'
  ra : ∀ W, Bx n ss oa cap w W → Calls Tryz.prog 34 #[.agg #[.int .i64 n, .slice oa ss.length cap], .int .i64 a] W fun r w' => r = .returned (.tuple #[.agg #[.int .i64 LA, .int .i64 HA], .int .i64 e]) ∧ Ext W w'
  rb : ∀ W, Bx n ss oa cap w W → Calls Tryz.prog 34 #[.agg #[.int .i64 n, .slice oa ss.length cap], .int .i64 b] W fun r w' => r = .returned (.tuple #[.agg #[.int .i64 LB, .int .i64 HB], .int .i64 e]) ∧ Ext W w'
  rpa : ∀ W, Ext w W → Calls Tryz.prog 39 #[.slice ob p.length cb, .int .i64 a] W fun r w' => r = .returned (.int .i64 (p.idxOf a : Nat)) ∧ W = w'
  rpb : ∀ W, Ext w W → Calls Tryz.prog 39 #[.slice ob p.length cb, .int .i64 b] W fun r w' => r = .returned (.int .i64 (p.idxOf b : Nat)) ∧ W = w'
  rk : ∀ W, Bx n ss oa cap w W → Calls Tryz.prog 23 #[] W fun e w' => e = .returned (.bool true) ∧ Ext W w'

/-- What the numbers of StripTrue are like, where there are orders. -/
structure TrueNums (n : Nat) (X Y LA LB HA HB : Int) : Prop where
  sum : X + Y = 4
  la : 0 ≤ LA
  ah : LA ≤ HA
  an : HA < n
  lb : 0 ≤ LB
  bh : LB ≤ HB
  bn : HB < n
  sure : X = 3 → LA < LB ∧ HA < HB
  never : X = 1 → LB < LA ∧ HB < HA

set_option maxRecDepth 100000 in
set_option maxHeartbeats 4000000 in
theorem true_none {n : Nat} {ss : List (List Nat)} {oa : Option Addr} {cap : Nat} {p : List Nat} {ob : Option Addr} {cb a b : Nat} {w : World} (h : RowsAt w oa (upp ss)) (C : TrueCalls n ss oa cap p ob cb a b w false 7 0 0 0 0 0 0) (hlen : ¬ (8 : Int) < (p.length : Int)) (hne : ((a : Int) == (b : Int)) = false) :
    Calls Tryz.prog 6 #[.agg #[.int .i64 n, .slice oa ss.length cap], .slice ob p.length cb, .int .i64 a, .int .i64 b] w fun e w' => e = .returned (.bool true) ∧ Ext w w' := by
  have B := Lib.hid (Bx.start (n := n) (cap := cap) h)
  replace C := Lib.hid C
  have T35 := Lib.hid trivial; have T33 := Lib.hid trivial; have T34 := Lib.hid trivial; have T39 := Lib.hid trivial
  obtain ⟨LA, hLA⟩ : ∃ LA : Int, LA = 0 := ⟨_, rfl⟩
  obtain ⟨HA, hHA⟩ : ∃ HA : Int, HA = 0 := ⟨_, rfl⟩
  rw [← hLA] at C
  clear h
  go_enter Tryz.func6, Tryz.ntmps6
  go_wp2_with (first | (go_at_call 29; refine (C.out.r29 _ B.out).mono ?_; rintro e w9 ⟨rfl, hE9⟩; replace B := Lib.hid (B.out.next hE9); (try clear c0 c1); have c0 := B.out.c0; have c1 := B.out.c1; clear hE9) | (go_at_call 30; refine (C.out.r30 _ B.out _).mono ?_; rintro e w9 ⟨rfl, hE9⟩; replace B := Lib.hid (B.out.next hE9); (try clear c0 c1); have c0 := B.out.c0; have c1 := B.out.c1; clear hE9) | (go_at_call 35; have t0 := T35; clear t0 T35; refine (C.out.r35a _ B.out _).mono ?_; rintro e w9 ⟨rfl, hE9⟩; replace B := Lib.hid (B.out.next hE9); (try clear c0 c1); have c0 := B.out.c0; have c1 := B.out.c1; clear hE9) | (go_at_call 35; refine (C.out.r35b _ B.out _).mono ?_; rintro e w9 ⟨rfl, hE9⟩; replace B := Lib.hid (B.out.next hE9); (try clear c0 c1); have c0 := B.out.c0; have c1 := B.out.c1; clear hE9) | (go_at_call 31; refine (C.out.r31 _ B.out).mono ?_; rintro e w9 ⟨rfl, hE9⟩; replace B := Lib.hid (B.out.next hE9); (try clear c0 c1); have c0 := B.out.c0; have c1 := B.out.c1; clear hE9) | (go_at_call 33; have t0 := T33; clear t0 T33; refine (C.out.rab _ B.out).mono ?_; rintro e w9 ⟨rfl, hE9⟩; replace B := Lib.hid (B.out.next hE9); (try clear c0 c1); have c0 := B.out.c0; have c1 := B.out.c1; clear hE9) | (go_at_call 33; refine (C.out.rba _ B.out).mono ?_; rintro e w9 ⟨rfl, hE9⟩; replace B := Lib.hid (B.out.next hE9); (try clear c0 c1); have c0 := B.out.c0; have c1 := B.out.c1; clear hE9) | (go_at_call 34; have t0 := T34; clear t0 T34; refine (C.out.ra _ B.out).mono ?_; rintro r wp ⟨rfl, hE9⟩; replace B := Lib.hid (B.out.next hE9); (try clear c0 c1); have c0 := B.out.c0; have c1 := B.out.c1; have hlp : w.heap.size < wp.heap.size := World.block_lt_of_cell? wp _ c0; have hnp := World.new_ne wp _ c0; clear hE9) | (go_at_call 34; refine (C.out.rb _ (B.out.next ((Ext.refl wp).alloc _))).mono ?_; rintro r wq ⟨rfl, hE9⟩; have p0 : wq.cell? ⟨wp.heap.size, 0, none⟩ = some (.int .i64 LA) := cell_ext hE9 (by go_simp); have p1 : wq.cell? ⟨wp.heap.size, 1, none⟩ = some (.int .i64 HA) := cell_ext hE9 (by go_simp); have hE8 := ((Ext.refl wp).alloc _).trans hE9; replace B := Lib.hid (B.out.next hE8); clear hE8 hE9 c0 c1; have c0 := B.out.c0; have c1 := B.out.c1; have hlt : w.heap.size < wq.heap.size := World.block_lt_of_cell? wq _ c0; have hne := World.new_ne wq _ c0; have hlq : wp.heap.size < wq.heap.size := World.block_lt_of_cell? wq _ p0; have hnq := World.new_ne wq _ p0) | (go_at_call 39; have t0 := T39; clear t0 T39; refine (C.out.rpa _ (B.out.next ((Ext.refl wq).alloc _)).ext).mono ?_; rintro r w9 ⟨rfl, rfl⟩) | (go_at_call 39; refine (C.out.rpb _ (B.out.next ((Ext.refl wq).alloc _)).ext).mono ?_; rintro r w9 ⟨rfl, rfl⟩) | (go_at_call 23; refine (C.out.rk _ (B.out.next ((Ext.refl wq).alloc _))).mono ?_; rintro r w9 ⟨rfl, hE9⟩; have hE8 := ((Ext.refl wq).alloc _).trans hE9; replace B := Lib.hid (B.out.next hE8)))
  go_ret
  exact ⟨rfl, B.out.ext⟩

end Go.Proofs.YtiehfpkcaoeieaaGreatDoor
