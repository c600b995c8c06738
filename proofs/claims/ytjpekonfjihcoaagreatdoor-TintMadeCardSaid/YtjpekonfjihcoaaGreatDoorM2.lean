/- Contracts and mathematics, joined: Data, Lift, Spans, Turn, Plan, Amount, Aims, Aims2, Share. Conditions stand with each. -/
import Derived.Below
import Derived.BigQuiet
import Derived.Deep.DeepCutAuto
import Derived.Deep.DeepFit
import Derived.Deep.LoopGhost
import Derived.Deep.QuietTactic
import Derived.Deep.RegionHeld
import Derived.Deep.RegionHeld3
import Derived.Deep.RegionWith
import Derived.Lib.Hide
import Derived.OrdersHeld
import Derived.Test.YtjpekonfjihcoaaGreatDoorProg
import Derived.WalkKit
import Derived.WalkLawsBesides
import Derived.WalkSpells
import Derived.Test.YtjpekonfjihcoaaGreatDoorM1
import Derived.Test.YtjpekonfjihcoaaGreatDoorM3
namespace Go.TintM
end Go.TintM
set_option maxRecDepth 100000
set_option maxHeartbeats 64000000
set_option linter.unusedVariables false
set_option linter.unusedSimpArgs false
/- Sheets of tins in memory, as numbers. No condition. -/
namespace Go.Proofs.YtjpekonfjihcoaaGreatDoor
open Go.RowKit Go.My

theorem mixed : Tryz.prog.follows .mixedOrders = true := by kernel_rfl

/-- The numbers of a sheet; a tin is six numbers: low and high of each pigment. -/
structure SI where
 o0 : Int
 o1 : Int
 o2 : Int
 a0 : Int
 b0 : Int
 a1 : Int
 b1 : Int
 a2 : Int
 b2 : Int
 ylo : Int
 yhi : Int
 off : Int
 tins : List (List Int)
def SI.oldI (s : SI) : Nat → Int
 | 0 => s.o0
 | 1 => s.o1
 | _ => s.o2
def SI.loI (s : SI) : Nat → Int
 | 0 => s.a0
 | 1 => s.a1
 | _ => s.a2
def SI.hiI (s : SI) : Nat → Int
 | 0 => s.b0
 | 1 => s.b1
 | _ => s.b2
abbrev spanV (a b : Int) : Value := .agg #[.int .i64 a, .int .i64 b]
/-- The cells of a sheet's box. -/
abbrev sheetC (s : SI) (ot : Option Addr) (cap : Nat) : Array Value :=
 #[.int .i64 s.o0, .int .i64 s.o1, .int .i64 s.o2, .int .i64 s.a0, .int .i64 s.b0, .int .i64 s.a1, .int .i64 s.b1, .int .i64 s.a2, .int .i64 s.b2, .int .i64 s.ylo, .int .i64 s.yhi, .int .i64 s.off, .slice ot s.tins.length cap]

/-- The value of a sheet: its cells, flat. -/
abbrev sheetV (s : SI) (ot : Option Addr) (cap : Nat) : Value := .agg (sheetC s ot cap)

/-- The cells of a slice of tins. -/
def TinsAt (w : World) (ot : Option Addr) (ts : List (List Int)) : Prop :=
 ∀ (i : Nat) (t : List Int), ts[i]? = some t → ∃ b off, ot = some ⟨b, off, none⟩ ∧ b < w.heap.size ∧ t.length = 6 ∧ ∀ (j : Nat) (x : Int), t[j]? = some x → w.cell? ⟨b, off + i * 6 + j, none⟩ = some (.int .i64 x)
theorem TinsAt.ext {w w' : World} {ot : Option Addr} {ts : List (List Int)} (h : TinsAt w ot ts) (hE : Ext w w') : TinsAt w' ot ts := by
 intro i t ht
 obtain ⟨b, off, h1, h2, h3, h4⟩ := h i t ht
 exact ⟨b, off, h1, Nat.lt_of_lt_of_le h2 hE.size, h3, fun j x hx => cell_ext hE (h4 j x hx)⟩
theorem TinsAt.at {w : World} {ot : Option Addr} {ts : List (List Int)} (h : TinsAt w ot ts) {k : Nat} (hk : k < ts.length) : ∃ b off x0 x1 x2 x3 x4 x5, ot = some ⟨b, off, none⟩ ∧ b < w.heap.size ∧ ts[k] = [x0, x1, x2, x3, x4, x5] ∧
  w.cell? ⟨b, off + k * 6, none⟩ = some (.int .i64 x0) ∧ w.cell? ⟨b, off + k * 6 + 1, none⟩ = some (.int .i64 x1) ∧ w.cell? ⟨b, off + k * 6 + 2, none⟩ = some (.int .i64 x2) ∧ w.cell? ⟨b, off + k * 6 + 3, none⟩ = some (.int .i64 x3) ∧ w.cell? ⟨b, off + k * 6 + 4, none⟩ = some (.int .i64 x4) ∧ w.cell? ⟨b, off + k * 6 + 5, none⟩ = some (.int .i64 x5) := by
 obtain ⟨b, off, h1, h2, h3, h4⟩ := h k ts[k] (by simp [hk])
 match hT : ts[k], h3 with
 | [x0, x1, x2, x3, x4, x5], _ =>
  rw [hT] at h4
  exact ⟨b, off, x0, x1, x2, x3, x4, x5, h1, h2, rfl, h4 0 x0 rfl, h4 1 x1 rfl, h4 2 x2 rfl, h4 3 x3 rfl, h4 4 x4 rfl, h4 5 x5 rfl⟩

/-! what is as defined -/
def inB (x a b : Int) : Bool := decide (a ≤ x) && decide (x ≤ b)
def spanB (lo hi most : Int) : Bool := inB lo 0 most && inB hi lo most
def tinP (p : Nat) (t : List Int) : Bool := spanB (t.getD (2 * p) 0) (t.getD (2 * p + 1) 0) 99
def colB (s : SI) (p : Nat) : Bool := inB (s.oldI p) 0 99 && (spanB (s.loI p) (s.hiI p) 9 && s.tins.all (tinP p))
def restB (s : SI) : Bool := spanB s.ylo s.yhi 20 && (inB s.off 1 20 && inB (s.tins.length : Int) 1 4)
def sheetB (s : SI) : Bool := (colB s 0 && (colB s 1 && colB s 2)) && restB s

theorem in_any (x a b : Int) (w : World) : Calls Tryz.prog 79 #[.int .i64 x, .int .i64 a, .int .i64 b] w fun e w' => e = .returned (.bool (inB x a b)) ∧ w = w' := by
 go_enter Tryz.func79, Tryz.ntmps79
 go_wp2
 all_goals go_ret
 all_goals exact ⟨ret_bool (by simp [inB, *] <;> omega), rfl⟩
theorem rin_any (x a b : Int) (w : World) : Calls Tryz.prog 81 #[.int .i64 x, .int .i64 a, .int .i64 b] w fun e w' => e = .returned (.bool (inB x a b)) ∧ w = w' := by
 go_enter Tryz.func81, Tryz.ntmps81
 go_wp2
 all_goals go_ret
 all_goals exact ⟨ret_bool (by simp [inB, *] <;> omega), rfl⟩

end Go.Proofs.YtjpekonfjihcoaaGreatDoor
/- A sheet as defined, in natural numbers. No condition. -/
namespace Go.Proofs.YtjpekonfjihcoaaGreatDoor
open Go.RowKit Go.My Go.TintM

def upL (l : List Nat) : List Int := l.map fun (n : Nat) => (n : Int)
theorem upL_length (l : List Nat) : (upL l).length = l.length := by simp [upL]
/-- A sheet of natural numbers, as numbers of the program. -/
def ofSh (s : Sh) : SI where
 o0 := s.old 0
 o1 := s.old 1
 o2 := s.old 2
 a0 := s.flo 0
 b0 := s.fhi 0
 a1 := s.flo 1
 b1 := s.fhi 1
 a2 := s.flo 2
 b2 := s.fhi 2
 ylo := s.ylo
 yhi := s.yhi
 off := s.off
 tins := s.tins.map upL
theorem spanB_iff {a b m : Int} : spanB a b m = true ↔ 0 ≤ a ∧ a ≤ b ∧ b ≤ m := by
 simp only [spanB, inB, Bool.and_eq_true, decide_eq_true_eq]; omega
theorem inB_iff {x a b : Int} : inB x a b = true ↔ a ≤ x ∧ x ≤ b := by simp [inB]
theorem tin_lift {t : List Int} (hl : t.length = 6) (h : ∀ p, p < 3 → tinP p t = true) : ∃ s : List Nat, t = upL s ∧ s.length = 6 ∧ ∀ p, p < 3 → tlo s p ≤ thi s p ∧ thi s p ≤ 99 := by
 match t, hl with
 | [x0, x1, x2, x3, x4, x5], _ =>
  have h0 := h 0 (by omega)
  have h1 := h 1 (by omega)
  have h2 := h 2 (by omega)
  simp only [tinP, spanB_iff] at h0 h1 h2
  simp only [Nat.mul_zero, Nat.mul_one, List.getD_cons_zero, List.getD_cons_succ, Nat.zero_add, Nat.reduceMul, Nat.reduceAdd] at h0 h1 h2
  refine ⟨[x0.toNat, x1.toNat, x2.toNat, x3.toNat, x4.toNat, x5.toNat], ?_, rfl, fun p hp => ?_⟩
  ·simp only [upL, List.map_cons, List.map_nil, List.cons.injEq, and_true]
   exact ⟨by omega, by omega, by omega, by omega, by omega, by omega⟩
  ·match p, hp with
   | 0, _ => simp [tlo, thi]; omega
   | 1, _ => simp [tlo, thi]; omega
   | 2, _ => simp [tlo, thi]; omega
theorem tins_lift : ∀ {ts : List (List Int)}, (∀ t ∈ ts, t.length = 6) → (∀ t ∈ ts, ∀ p, p < 3 → tinP p t = true) → ∃ ss : List (List Nat), ts = ss.map upL ∧ ∀ s ∈ ss, s.length = 6 ∧ ∀ p, p < 3 → tlo s p ≤ thi s p ∧ thi s p ≤ 99
 | [], _, _ => ⟨[], rfl, fun s h => by cases h⟩
 | t :: ts, hl, h => by
  obtain ⟨s, rfl, h1, h2⟩ := tin_lift (hl t List.mem_cons_self) (h t List.mem_cons_self)
  obtain ⟨ss, rfl, h3⟩ := tins_lift (fun t' ht => hl t' (List.mem_cons_of_mem _ ht)) (fun t' ht => h t' (List.mem_cons_of_mem _ ht))
  exact ⟨s :: ss, rfl, fun x hx => by
   rcases List.mem_cons.1 hx with rfl | hx
   ·exact ⟨h1, h2⟩
   ·exact h3 x hx⟩
theorem sheet_lift {s : SI} (h6 : ∀ t ∈ s.tins, t.length = 6) (h : sheetB s = true) : ∃ S : Sh, s = ofSh S ∧ Fine S := by
 simp only [sheetB, colB, restB, Bool.and_eq_true, spanB_iff, inB_iff] at h
 obtain ⟨⟨⟨p0, f0, t0⟩, ⟨p1, f1, t1⟩, p2, f2, t2⟩, hy, ho, hn⟩ := h
 obtain ⟨ss, hts, hss⟩ := tins_lift h6 fun t ht p hp => by
  match p, hp with
  | 0, _ => exact List.all_eq_true.1 t0 t ht
  | 1, _ => exact List.all_eq_true.1 t1 t ht
  | 2, _ => exact List.all_eq_true.1 t2 t ht
 obtain ⟨o0, o1, o2, a0, b0, a1, b1, a2, b2, ylo, yhi, off, tins⟩ := s
 simp only [SI.oldI, SI.loI, SI.hiI] at *
 subst hts
 rw [List.length_map] at hn
 refine ⟨⟨fun | 0 => o0.toNat | 1 => o1.toNat | _ => o2.toNat, fun | 0 => a0.toNat | 1 => a1.toNat | _ => a2.toNat, fun | 0 => b0.toNat | 1 => b1.toNat | _ => b2.toNat, ylo.toNat, yhi.toNat, off.toNat, ss⟩, ?_, ?_⟩
 ·simp only [ofSh, SI.mk.injEq, and_true]
  exact ⟨by omega, by omega, by omega, by omega, by omega, by omega, by omega, by omega, by omega, by omega, by omega, by omega⟩
 ·constructor
  ·intro p hp
   match p, hp with
   | 0, _ => show o0.toNat ≤ 99; omega
   | 1, _ => show o1.toNat ≤ 99; omega
   | 2, _ => show o2.toNat ≤ 99; omega
  ·intro p hp
   match p, hp with
   | 0, _ => show a0.toNat ≤ b0.toNat; omega
   | 1, _ => show a1.toNat ≤ b1.toNat; omega
   | 2, _ => show a2.toNat ≤ b2.toNat; omega
  ·intro p hp
   match p, hp with
   | 0, _ => show b0.toNat ≤ 9; omega
   | 1, _ => show b1.toNat ≤ 9; omega
   | 2, _ => show b2.toNat ≤ 9; omega
  ·simp only; omega
  ·simp only; omega
  ·simp only; omega
  ·simp only; omega
  ·simp only; omega
  ·simp only; omega
  ·exact fun t ht => (hss t ht).1
  ·exact fun t ht => (hss t ht).2

end Go.Proofs.YtjpekonfjihcoaaGreatDoor
/- Contracts: spans. No condition. -/
namespace Go.Proofs.YtjpekonfjihcoaaGreatDoor
open Go.RowKit Go.My

theorem isSpan_any (lo hi most : Int) (w : World) : Calls Tryz.prog 113 #[spanV lo hi, .int .i64 most] w fun e w' => e = .returned (.bool (spanB lo hi most)) ∧ Ext w w' := by
 have h1 := fun W => in_any lo 0 most W
 have h2 := fun W => in_any hi lo most W
 have H1 := Lib.hid h1
 have H2 := Lib.hid h2
 have Hs := Lib.hid (show spanB lo hi most = (inB lo 0 most && inB hi lo most) from rfl)
 clear h1 h2
 have T1 := Lib.hid trivial
 generalize inB lo 0 most = x at *
 generalize inB hi lo most = y at *
 cases x
 ·go_enter Tryz.func113, Tryz.ntmps113
  go_wp2_with (first | (go_at_call 79; have t0 := T1; clear t0 T1; refine (H1.out _).mono ?_; rintro e w' ⟨rfl, rfl⟩) | (go_at_call 79; refine (H2.out _).mono ?_; rintro e w' ⟨rfl, rfl⟩))
  go_ret
  exact ⟨ret_bool (by rw [Hs.out, Bool.false_and]), (Ext.refl w).alloc _⟩
 ·go_enter Tryz.func113, Tryz.ntmps113
  go_wp2_with (first | (go_at_call 79; have t0 := T1; clear t0 T1; refine (H1.out _).mono ?_; rintro e w' ⟨rfl, rfl⟩) | (go_at_call 79; refine (H2.out _).mono ?_; rintro e w' ⟨rfl, rfl⟩))
  go_ret
  exact ⟨ret_bool (by rw [Hs.out, Bool.true_and]), (Ext.refl w).alloc _⟩
theorem rspan_any (lo hi most : Int) (w : World) : Calls Tryz.prog 80 #[spanV lo hi, .int .i64 most] w fun e w' => e = .returned (.bool (spanB lo hi most)) ∧ Ext w w' := by
 have H1 := Lib.hid (fun W => rin_any lo 0 most W)
 have H2 := Lib.hid (fun W => rin_any hi lo most W)
 have Hs := Lib.hid (show spanB lo hi most = (inB lo 0 most && inB hi lo most) from rfl)
 have T1 := Lib.hid trivial
 generalize inB lo 0 most = x at *
 generalize inB hi lo most = y at *
 cases x
 ·go_enter Tryz.func80, Tryz.ntmps80
  go_wp2_with (first | (go_at_call 81; have t0 := T1; clear t0 T1; refine (H1.out _).mono ?_; rintro e w' ⟨rfl, rfl⟩) | (go_at_call 81; refine (H2.out _).mono ?_; rintro e w' ⟨rfl, rfl⟩))
  go_ret
  exact ⟨ret_bool (by rw [Hs.out, Bool.false_and]), (Ext.refl w).alloc _⟩
 ·go_enter Tryz.func80, Tryz.ntmps80
  go_wp2_with (first | (go_at_call 81; have t0 := T1; clear t0 T1; refine (H1.out _).mono ?_; rintro e w' ⟨rfl, rfl⟩) | (go_at_call 81; refine (H2.out _).mono ?_; rintro e w' ⟨rfl, rfl⟩))
  go_ret
  exact ⟨ret_bool (by rw [Hs.out, Bool.true_and]), (Ext.refl w).alloc _⟩

end Go.Proofs.YtjpekonfjihcoaaGreatDoor
/- Boxes that are written: what else stays. Results laid in cells. No condition. -/
namespace Go.Proofs.YtjpekonfjihcoaaGreatDoor
open Go.RowKit Go.My

abbrev Turned (b : Nat) (w w' : World) : Prop := w.grownBy w' (some b)
theorem Turned.refl (b : Nat) (w : World) : Turned b w w := ⟨rfl, rfl, rfl, Nat.le_refl _, fun _ _ _ => rfl⟩
theorem Turned.trans {b : Nat} {w w1 w2 : World} (h : Turned b w w1) (k : Turned b w1 w2) : Turned b w w2 :=
 ⟨k.os.trans h.os, k.tape.trans h.tape, k.output.trans h.output, Nat.le_trans h.size k.size, fun i hi hne => (k.block i (Nat.lt_of_lt_of_le hi h.size) hne).trans (h.block i hi hne)⟩
theorem Turned.of_ext {b : Nat} {w w' : World} (h : Ext w w') : Turned b w w' := ⟨h.os, h.tape, h.output, h.size, fun i hi _ => h.block i hi⟩
theorem Turned.keep {b i : Nat} {w w' : World} {o : Obj} (h : Turned b w w') (hb : w.heap[i]? = some o) (hne : i ≠ b) : w'.heap[i]? = some o :=
 (h.block i (Array.getElem?_eq_some_iff.1 hb).1 (by simpa using hne)).trans hb
/-- One's own new block is altered: nothing old is. -/
theorem Turned.own {b i : Nat} {w w1 w2 : World} (h : Turned b w w1) (k : w1.grownBy w2 (some i)) (hi : w.heap.size ≤ i) : Turned b w w2 :=
 ⟨k.os.trans h.os, k.tape.trans h.tape, k.output.trans h.output, Nat.le_trans h.size k.size, fun j hj hne => (k.block j (Nat.lt_of_lt_of_le hj h.size) (by simp; omega)).trans (h.block j hj hne)⟩
theorem Turned.below {b B : Nat} {w w1 w2 : World} (h : Turned b w w1) (k : Below B w1 w2) (hB : w.heap.size ≤ B) : Turned b w w2 :=
 ⟨k.os.trans h.os, k.tape.trans h.tape, k.output.trans h.output, Nat.le_trans h.size k.size, fun j hj hne => (k.block j (by omega)).trans (h.block j hj hne)⟩
theorem _root_.Go.My.Own.turned {w w' : World} {base b : Nat} {e : TypeId} {v : Value} {xs : List Value} (h : Own w base e v xs) (hT : Turned b w w') (hb : b < base) : Own w' base e v xs := by
 refine ⟨h.1, ?_⟩
 rcases h.2 with h2 | ⟨g, cap, cur, hv, hg0, hg, r⟩
 ·exact .inl h2
 ·exact .inr ⟨g, cap, cur, hv, hg0, hT.keep hg (by omega), r⟩
theorem Turned.cell {b : Nat} {w w' : World} {p : Addr} {v : Value} (h : Turned b w w') (hne : p.block ≠ b) (hc : w.cell? p = some v) : w'.cell? p = some v := by
 have hl := World.block_lt_of_cell? _ _ hc
 exact (World.cell?_of_block (h.block p.block hl (by simpa using hne))).trans hc
theorem Turned.frozen {b : Nat} {w w' : World} {p : Addr} (h : Turned b w w') (hne : p.block ≠ b) (hl : p.block < w.heap.size) : w'.frozen? p = w.frozen? p := by
 unfold World.frozen?
 rw [h.block p.block hl (by simpa using hne)]
theorem Turned.set {b : Nat} {w w' : World} (h : Turned b w w') (o : Nat) (v : Value) : Turned b w (w'.setCell ⟨b, o, none⟩ v) :=
 h.trans ⟨rfl, rfl, rfl, by simp [World.setCell], fun k hk hne => Below.heap_setCell _ _ _ _ (fun e => hne (by simp at e; rw [e]))⟩
theorem ext_own {w w1 w2 : World} {b : Nat} (h1 : Ext w w1) (h2 : Turned b w1 w2) (hb : w.heap.size ≤ b) : Ext w w2 :=
 h1.below (B := w.heap.size) ((Below.refl _ _).grown h2 h1.size (fun k e => by simp at e; omega)) (Nat.le_refl _)
theorem frozen_ext {w w' : World} {p : Addr} (h : Ext w w') (hl : p.block < w.heap.size) : w'.frozen? p = w.frozen? p := h.frozen hl
theorem below_own {B b : Nat} {w W W' : World} (h : Below B w W) (hT : Turned b W W') (hb : B ≤ b) (hsz : B ≤ W.heap.size) : Below B w W' :=
 Below.trans h ((Below.refl _ _).grown hT hsz (fun k e => by simp at e; omega))
theorem Turned.keep' {b i : Nat} {w w' : World} (h : Turned b w w') (hne : i ≠ b) {o : Obj} (hi : w.heap[i]? = some o) : w'.heap[i]? = some o :=
 (h.block i (Array.getElem?_eq_some_iff.1 hi).1 (by simpa using hne)).trans hi

theorem add_none (b o j : Nat) : (⟨b, o, none⟩ : Addr).add j = ⟨b, o + j, none⟩ := by simp [Addr.add]
theorem results_cells {fn : Func} {p : Tmp} {t n : Nat} (h : fn.results = #[.cell p t]) {w : World} (hagg : (isAgg t).run Tryz.prog w = .ok true w) (hsz : (sizeOf t).run Tryz.prog w = .ok n w) (tmps : Array Value) (b : Nat) (xs : List Value) (hn : xs.length = n)
  (hp : tmps.getD p undef = .pointer (some ⟨b, 0, none⟩)) (hc : ∀ (j : Nat) (v : Value), xs[j]? = some v → w.cell? ⟨b, j, none⟩ = some v) : (results fn tmps).run Tryz.prog w = .ok (.agg xs.toArray) w := by
 have hp' : tmps[p]?.getD undef = .pointer (some ⟨b, 0, none⟩) := by simpa using hp
 have hl : (loadCells ⟨b, 0, none⟩ n).run Tryz.prog w = .ok xs.toArray w := by
  rw [← hn]
  exact run_loadCells_list (P := Tryz.prog) w ⟨b, 0, none⟩ xs (fun j v hv => by
   rw [add_none, Nat.zero_add]; exact hc j v hv)
 simp [results, h, hp', asAddr, loadVar, Sem.run_bind, hagg, hsz, hl]
theorem results_cellst {fn : Func} {p q : Tmp} {t n : Nat} (h : fn.results = #[.cell p t, .tmp q]) {w : World} (hagg : (isAgg t).run Tryz.prog w = .ok true w) (hsz : (sizeOf t).run Tryz.prog w = .ok n w) (tmps : Array Value) (b : Nat) (xs : List Value) (z : Value) (hn : xs.length = n)
  (hp : tmps.getD p undef = .pointer (some ⟨b, 0, none⟩)) (hq : tmps.getD q undef = z) (hc : ∀ (j : Nat) (v : Value), xs[j]? = some v → w.cell? ⟨b, j, none⟩ = some v) : (results fn tmps).run Tryz.prog w = .ok (.tuple #[.agg xs.toArray, z]) w := by
 have hp' : tmps[p]?.getD undef = .pointer (some ⟨b, 0, none⟩) := by simpa using hp
 have hq' : tmps[q]?.getD undef = z := by simpa using hq
 have hl : (loadCells ⟨b, 0, none⟩ n).run Tryz.prog w = .ok xs.toArray w := by
  rw [← hn]
  exact run_loadCells_list (P := Tryz.prog) w ⟨b, 0, none⟩ xs (fun j v hv => by
   rw [add_none, Nat.zero_add]; exact hc j v hv)
 simp [results, h, hp', hq', asAddr, loadVar, Sem.run_bind, hagg, hsz, hl]

end Go.Proofs.YtjpekonfjihcoaaGreatDoor
/- A region that draws its order, walked by a plan: what only reads is taken first; where one operation alone may come up, it is walked. No condition. -/
namespace Go.My
open Go Go.RowKit

/-- A plan: 'take i': operation i yields a value in every world at hand, and is taken first; 'only i': operation i is the only one that may come up; 'two i j', 'three i j k': one of these comes up. -/
inductive Plan where
 | done
 | take (i : Nat) (p : Plan)
 | only (i : Nat) (p : Plan)
 | two (i j : Nat) (p q : Plan)
 | three (i j k : Nat) (p q r : Plan)

def Plan.size : Plan → Nat
 | .done => 0
 | .take _ p | .only _ p => p.size + 1
 | .two _ _ p q => max p.size q.size + 1
 | .three _ _ _ p q r => max p.size (max q.size r.size) + 1

def planOk (ops : Array Oper) : Plan → Array Bool → Bool
 | .done, listed => (Region.ready .any ops listed).isEmpty
 | .take i rest, listed => Region.free .any ops listed i && (Region.ready .any ops listed).contains i && planOk ops rest (listed.setIfInBounds i true)
 | .only i rest, listed => Region.ready .any ops listed == [i] && planOk ops rest (listed.setIfInBounds i true)
 | .two i j p q, listed => Region.ready .any ops listed == [i, j] && planOk ops p (listed.setIfInBounds i true) && planOk ops q (listed.setIfInBounds j true)
 | .three i j k p q r, listed => Region.ready .any ops listed == [i, j, k] && planOk ops p (listed.setIfInBounds i true) && planOk ops q (listed.setIfInBounds j true) && planOk ops r (listed.setIfInBounds k true)

def nthOp : List Oper → Nat → Option Oper
 | o :: _, 0 => some o
 | _ :: l, i + 1 => nthOp l i
 | [], _ => none

theorem nthOp_eq (l : List Oper) (i : Nat) : nthOp l i = l[i]? := by
 induction l generalizing i with
 | nil => cases i <;> rfl
 | cons o l ih => cases i with
  | zero => rfl
  | succ i => simp [nthOp, ih]

theorem nthOp_arr {ops : Array Oper} {i : Nat} {o : Oper} (h : nthOp ops.toList i = some o) : ops[i]? = some o := by
 rw [nthOp_eq] at h; simpa using h

theorem puts : (∀ (a : Act) (d : Tmp) (v : Value), a.put (some d) v = { a with tmps := a.tmps.setIfInBounds d v }) ∧ (∀ (a : Act) (v : Value), a.put none v = a) ∧ (∀ (l : List Value) (i : Nat) (v : Value), l.toArray.setIfInBounds i v = (l.set i v).toArray) ∧
  (∀ (x : Value) (l : List Value) (v : Value), (x :: l).set 0 v = v :: l) ∧ (∀ (x : Value) (l : List Value) (i : Nat) (v : Value), (x :: l).set (i + 1) v = x :: l.set i v) :=
 ⟨fun _ _ _ => rfl, fun _ _ => rfl, fun _ _ _ => by simp, fun _ _ _ => rfl, fun _ _ _ _ => rfl⟩

def planWalk (P : Program) (ops : Array Oper) (Q : Exit → Act → World → Prop) (S : World → Prop) : Plan → Act → World → Prop
 | .done, a, w => Q .normal a w
 | .take i rest, a, w => ∃ o v, nthOp ops.toList i = some o ∧ YieldsIf P ops S o v a ∧ planWalk P ops Q S rest (a.put o.dst v) w
 | .only i rest, a, w => ∃ o, nthOp ops.toList i = some o ∧ wpList P ops (Exit.then (fun a' w' => S w' ∧ planWalk P ops Q S rest a' w') Q) [o] a w
 | .two i j p q, a, w => (∃ o, nthOp ops.toList i = some o ∧ wpList P ops (Exit.then (fun a' w' => S w' ∧ planWalk P ops Q S p a' w') Q) [o] a w) ∧
   (∃ o, nthOp ops.toList j = some o ∧ wpList P ops (Exit.then (fun a' w' => S w' ∧ planWalk P ops Q S q a' w') Q) [o] a w)
 | .three i j k p q r, a, w => (∃ o, nthOp ops.toList i = some o ∧ wpList P ops (Exit.then (fun a' w' => S w' ∧ planWalk P ops Q S p a' w') Q) [o] a w) ∧
   (∃ o, nthOp ops.toList j = some o ∧ wpList P ops (Exit.then (fun a' w' => S w' ∧ planWalk P ops Q S q a' w') Q) [o] a w) ∧
   (∃ o, nthOp ops.toList k = some o ∧ wpList P ops (Exit.then (fun a' w' => S w' ∧ planWalk P ops Q S r a' w') Q) [o] a w)

theorem wp_posts {P : Program} {o : Oper} {a : Act} {w : World} {K : Act → World → Prop} {Q Q' : Exit → Act → World → Prop} (h1 : ∀ c a w, Q' (.panic c) a w → Q (.panic c) a w)
  (h2 : LetsOut Q' → LetsOut Q) (hh : o.wp P a w K Q') : o.wp P a w K Q := by
 unfold Oper.wp at *
 generalize (execOp a.eval o).run P w = r at *
 cases r with
 | ok n w' =>
  cases n <;> simp only [Oper.upon] at hh ⊢ <;>
   first
    | exact hh
    | exact Calls.mono hh (fun e w'' he => by cases e <;> first | exact he | exact h1 _ _ _ he | exact h2 he)
 | halt x w' => cases x <;> simp only [Oper.upon] at hh ⊢ <;> exact h1 _ _ _ hh

theorem wpOp_of_list {P : Program} {ops : Array Oper} {Q : Exit → Act → World → Prop} {K : Act → World → Prop} {a : Act} {w : World} {i : Nat} {o : Oper} (ho : ops[i]? = some o)
  (hw : wpList P ops (Exit.then K Q) [o] a w) : wpOp P ops Q i K a w := by
 unfold wpOp
 simp only [ho]
 simp only [wpList] at hw
 split
 ·rename_i hwt
  rw [if_pos hwt] at hw
  rcases hw with hw | hw
  ·exact .inl (Oper.wp_mono (fun a' w' h => h) (wp_posts (fun _ _ _ h => h) (fun h => h) hw))
  ·exact .inr ⟨hw.1, by obtain ⟨a0, w0, hq⟩ := hw.2; exact ⟨a0, w0, hq⟩⟩
 ·rename_i hwt
  rw [if_neg hwt] at hw
  exact hw

theorem planWalk_sound {P : Program} {ops : Array Oper} {Q : Exit → Act → World → Prop} {S : World → Prop} (hs : Region.noSelect ops = true)
  (hQ : ∀ c a d v w, Q (.panic c) (Act.put a d v) w → Q (.panic c) a w) : ∀ (p : Plan) (listed : Array Bool) (a : Act) (w : World) (fuel : Nat),
  planOk ops p listed = true → p.size ≤ fuel → S w → planWalk P ops Q S p a w → wpAnyH P .any ops Q S fuel listed a w := by
 intro p
 induction p with
 | done =>
  intro listed a w fuel hok _ _ h
  exact wpAnyH_done (by simpa [planOk, List.isEmpty_iff] using hok) h fuel
 | take i rest ih =>
  intro listed a w fuel hok hf hS h
  cases fuel with
  | zero => simp [Plan.size] at hf
  | succ fuel =>
   simp only [planOk, Bool.and_eq_true] at hok
   obtain ⟨⟨h1, h2⟩, h3⟩ := hok
   obtain ⟨o, v, ho, hy, hr⟩ := h
   exact wpAnyH_take (nthOp_arr ho) hs h1 h2 (fun c a w => hQ c a _ _ w) hy hS (ih _ _ _ _ h3 (by simpa [Plan.size] using hf) hS hr)
 | only i rest ih =>
  intro listed a w fuel hok hf hS h
  cases fuel with
  | zero => simp [Plan.size] at hf
  | succ fuel =>
   simp only [planOk, Bool.and_eq_true, beq_iff_eq] at hok
   obtain ⟨h1, h3⟩ := hok
   obtain ⟨o, ho, hw⟩ := h
   refine wpAnyH_all h1 (by simp) ?_
   intro j hj
   simp at hj
   subst hj
   exact wpOp_mono (fun a' w' ⟨hS', h'⟩ => ⟨hS', ih _ _ _ _ h3 (by simpa [Plan.size] using hf) hS' h'⟩) (wpOp_of_list (nthOp_arr ho) hw)
 | two i j p q ihp ihq =>
  intro listed a w fuel hok hf hS h
  cases fuel with
  | zero => simp [Plan.size] at hf
  | succ fuel =>
   simp only [planOk, Bool.and_eq_true, beq_iff_eq] at hok
   obtain ⟨⟨h1, h2⟩, h3⟩ := hok
   obtain ⟨⟨o, ho, hw⟩, ⟨o', ho', hw'⟩⟩ := h
   simp only [Plan.size] at hf
   refine wpAnyH_all h1 (by simp) ?_
   intro k hk
   simp at hk
   rcases hk with rfl | rfl
   ·exact wpOp_mono (fun a' w' ⟨hS', h'⟩ => ⟨hS', ihp _ _ _ _ h2 (by omega) hS' h'⟩) (wpOp_of_list (nthOp_arr ho) hw)
   ·exact wpOp_mono (fun a' w' ⟨hS', h'⟩ => ⟨hS', ihq _ _ _ _ h3 (by omega) hS' h'⟩) (wpOp_of_list (nthOp_arr ho') hw')
 | three i j k p q r ihp ihq ihr =>
  intro listed a w fuel hok hf hS h
  cases fuel with
  | zero => simp [Plan.size] at hf
  | succ fuel =>
   simp only [planOk, Bool.and_eq_true, beq_iff_eq] at hok
   obtain ⟨⟨⟨h1, h2⟩, h3⟩, h4⟩ := hok
   obtain ⟨⟨o, ho, hw⟩, ⟨o', ho', hw'⟩, ⟨o'', ho'', hw''⟩⟩ := h
   simp only [Plan.size] at hf
   refine wpAnyH_all h1 (by simp) ?_
   intro n hn
   simp at hn
   rcases hn with rfl | rfl | rfl
   ·exact wpOp_mono (fun a' w' ⟨hS', h'⟩ => ⟨hS', ihp _ _ _ _ h2 (by omega) hS' h'⟩) (wpOp_of_list (nthOp_arr ho) hw)
   ·exact wpOp_mono (fun a' w' ⟨hS', h'⟩ => ⟨hS', ihq _ _ _ _ h3 (by omega) hS' h'⟩) (wpOp_of_list (nthOp_arr ho') hw')
   ·exact wpOp_mono (fun a' w' ⟨hS', h'⟩ => ⟨hS', ihr _ _ _ _ h4 (by omega) hS' h'⟩) (wpOp_of_list (nthOp_arr ho'') hw'')

/-- The beginning. -/
theorem wp_region_plan {P : Program} {ops : Array Oper} {Q : Exit → Act → World → Prop} {id : Nat} {a : Act} {w : World} (p : Plan) (S : World → Prop) (hm : P.follows .mixedOrders = true)
  (hs : Region.noSelect ops = true) (hp : planOk ops p (Array.replicate ops.size false) = true) (hl : p.size = ops.size)
  (hQ : ∀ c a d v w, Q (.panic c) (Act.put a d v) w → Q (.panic c) a w) (hS : S w.drew) (h : planWalk P ops Q S p a w.drew) : (Code.region id ops true).wp P Q a w :=
 wp_region_held (S := S) hm (planWalk_sound hs hQ p _ a _ _ hp (by omega) hS h)

section
variable {P : Program} {ops : Array Oper} {Q : Exit → Act → World → Prop} {S : World → Prop} {rest : Plan} {a : Act} {w : World}
theorem plan_take {i : Nat} {o : Oper} {v : Value} (ho : nthOp ops.toList i = some o) (hw : Region.wanted o (yielded ops a.tmps) = true) (hr : ∀ w, S w → (execOp a.eval o).run P w = .ok (.value v) w)
  (h : planWalk P ops Q S rest (a.put o.dst v) w) : planWalk P ops Q S (.take i rest) a w := ⟨o, v, ho, .inl ⟨hw, hr⟩, h⟩
theorem plan_skip {i : Nat} {o : Oper} (ho : nthOp ops.toList i = some o) (hw : Region.wanted o (yielded ops a.tmps) = false)
  (h : planWalk P ops Q S rest (a.put o.dst undef) w) : planWalk P ops Q S (.take i rest) a w := ⟨o, undef, ho, .inr ⟨hw, rfl⟩, h⟩
theorem plan_walk {i : Nat} {o : Oper} (ho : nthOp ops.toList i = some o) (h : ∀ K : Act → World → Prop, (∀ a' w', S w' → planWalk P ops Q S rest a' w' → K a' w') → wpList P ops (Exit.then K Q) [o] a w) :
  planWalk P ops Q S (.only i rest) a w := ⟨o, ho, h _ fun _ _ h1 h2 => ⟨h1, h2⟩⟩
theorem plan_two {i j : Nat} {p q : Plan} {o o' : Oper} (ho : nthOp ops.toList i = some o) (ho' : nthOp ops.toList j = some o')
  (h : ∀ K : Act → World → Prop, (∀ a' w', S w' → planWalk P ops Q S p a' w' → K a' w') → wpList P ops (Exit.then K Q) [o] a w)
  (h' : ∀ K : Act → World → Prop, (∀ a' w', S w' → planWalk P ops Q S q a' w' → K a' w') → wpList P ops (Exit.then K Q) [o'] a w) :
  planWalk P ops Q S (.two i j p q) a w := ⟨⟨o, ho, h _ fun _ _ h1 h2 => ⟨h1, h2⟩⟩, ⟨o', ho', h' _ fun _ _ h1 h2 => ⟨h1, h2⟩⟩⟩
theorem plan_three {i j k : Nat} {p q r : Plan} {o o' o'' : Oper} (ho : nthOp ops.toList i = some o) (ho' : nthOp ops.toList j = some o') (ho'' : nthOp ops.toList k = some o'')
  (h : ∀ K : Act → World → Prop, (∀ a' w', S w' → planWalk P ops Q S p a' w' → K a' w') → wpList P ops (Exit.then K Q) [o] a w)
  (h' : ∀ K : Act → World → Prop, (∀ a' w', S w' → planWalk P ops Q S q a' w' → K a' w') → wpList P ops (Exit.then K Q) [o'] a w)
  (h'' : ∀ K : Act → World → Prop, (∀ a' w', S w' → planWalk P ops Q S r a' w' → K a' w') → wpList P ops (Exit.then K Q) [o''] a w) :
  planWalk P ops Q S (.three i j k p q r) a w := ⟨⟨o, ho, h _ fun _ _ h1 h2 => ⟨h1, h2⟩⟩, ⟨o', ho', h' _ fun _ _ h1 h2 => ⟨h1, h2⟩⟩, ⟨o'', ho'', h'' _ fun _ _ h1 h2 => ⟨h1, h2⟩⟩⟩
theorem plan_done (h : Q .normal a w) : planWalk P ops Q S .done a w := h
end
end Go.My
/- Contracts: left, Faded, board. No condition beyond sheets as defined. -/
namespace Go.Proofs.YtjpekonfjihcoaaGreatDoor
open Go.RowKit Go.My Go.TintM

theorem mul_small {y f : Nat} (hy : y ≤ 20) (hf : f ≤ 9) : y * f ≤ 180 := Nat.mul_le_mul hy hf
theorem left_any (o y f : Nat) (ho : o ≤ 99) (hy : y ≤ 20) (hf : f ≤ 9) (w : World) : Calls Tryz.prog 78 #[.int .i64 o, .int .i64 y, .int .i64 f] w fun e w' => e = .returned (.int .i64 (left o y f : Nat)) ∧ w = w' := by
 have hb := mul_small hy hf
 have hm : ((y * f : Nat) : Int) = (y : Int) * (f : Int) := Int.natCast_mul y f
 have q1 : IntKind.i64.wrap ((y : Int) * (f : Int)) = (y : Int) * (f : Int) := by rw [← hm, IntWalk.i64_in _ (by omega)]
 have q2 : IntKind.i64.wrap ((o : Int) - (y : Int) * (f : Int)) = (o : Int) - (y : Int) * (f : Int) := by rw [← hm, IntWalk.i64_in _ (by omega)]
 have Q3 := Lib.hid (left_int o y f)
 clear hm
 go_enter Tryz.func78, Tryz.ntmps78
 go_wp2
 all_goals go_ret
 all_goals exact ⟨ret_int (by first | (rw [← Q3.out]; done) | (rw [← Q3.out]; omega)), rfl⟩

theorem ofSh_old (s : Sh) {p : Nat} (hp : p < 3) : (ofSh s).oldI p = s.old p := by
 match p, hp with
 | 0, _ => rfl
 | 1, _ => rfl
 | 2, _ => rfl
theorem ofSh_lo (s : Sh) {p : Nat} (hp : p < 3) : (ofSh s).loI p = s.flo p := by
 match p, hp with
 | 0, _ => rfl
 | 1, _ => rfl
 | 2, _ => rfl
theorem ofSh_hi (s : Sh) {p : Nat} (hp : p < 3) : (ofSh s).hiI p = s.fhi p := by
 match p, hp with
 | 0, _ => rfl
 | 1, _ => rfl
 | 2, _ => rfl

theorem faded_any (s : Sh) (g : Fine s) (ot : Option Addr) (cap p y f : Nat) (hp : p < 3) (hy : y ≤ 20) (hf : f ≤ 9) (w : World) :
  Calls Tryz.prog 35 #[sheetV (ofSh s) ot cap, .int .i64 p, .int .i64 y, .int .i64 f] w fun e w' => e = .returned (.int .i64 (left (s.old p) y f : Nat)) ∧ Ext w w' := by
 have hb := mul_small hy hf
 have ho := g.old p hp
 have hc : ∀ (i : Nat) (v : Value), (sheetC (ofSh s) ot cap)[i]? = some v → (w.alloc (.cells (sheetC (ofSh s) ot cap) 28)).cell? ⟨w.heap.size, i, none⟩ = some v := fun i v hv => by rw [cell_of_row _ _ i _ _ _ (heap_alloc_new w _)]; exact hv
 have e1 : (w.alloc (.cells (sheetC (ofSh s) ot cap) 28)).cell? ⟨w.heap.size, p, none⟩ = some (.int .i64 (s.old p)) := by
  match p, hp with
  | 0, _ => exact hc 0 _ rfl
  | 1, _ => exact hc 1 _ rfl
  | 2, _ => exact hc 2 _ rfl
 have hm : ((y * f : Nat) : Int) = (y : Int) * (f : Int) := Int.natCast_mul y f
 have hpI : (p : Int) < 3 := by omega
 clear hc
 generalize s.old p = o at *
 have q1 : IntKind.i64.wrap ((y : Int) * (f : Int)) = (y : Int) * (f : Int) := by rw [← hm, IntWalk.i64_in _ (by omega)]
 have q2 : IntKind.i64.wrap ((o : Int) - (y : Int) * (f : Int)) = (o : Int) - (y : Int) * (f : Int) := by rw [← hm, IntWalk.i64_in _ (by omega)]
 have Q3 := Lib.hid (left_int o y f)
 clear hm
 go_enter Tryz.func35, Tryz.ntmps35
 go_wp2
 all_goals go_ret
 all_goals exact ⟨ret_int (by first | (rw [← Q3.out]; done) | (rw [← Q3.out]; omega)), (Ext.refl w).alloc _⟩

end Go.Proofs.YtjpekonfjihcoaaGreatDoor
/- Contracts: board, aim, Aim, the reference's Aim. No condition beyond sheets as defined. -/
namespace Go.Proofs.YtjpekonfjihcoaaGreatDoor
open Go.RowKit Go.My Go.TintM

theorem sheet_box (s : Sh) (ot : Option Addr) (cap : Nat) (w : World) : ∀ (i : Nat) (v : Value), (sheetC (ofSh s) ot cap)[i]? = some v → (w.alloc (.cells (sheetC (ofSh s) ot cap) 28)).cell? ⟨w.heap.size, i, none⟩ = some v := fun i v hv => by
 rw [cell_of_row _ _ i _ _ _ (heap_alloc_new w _)]; exact hv
theorem box_old {s : Sh} {ot : Option Addr} {cap q : Nat} {W : World} (hc : ∀ (i : Nat) (v : Value), (sheetC (ofSh s) ot cap)[i]? = some v → W.cell? ⟨q, i, none⟩ = some v) {p : Nat} (hp : p < 3) : W.cell? ⟨q, p, none⟩ = some (.int .i64 (s.old p)) := by
 match p, hp with
 | 0, _ => exact hc 0 _ rfl
 | 1, _ => exact hc 1 _ rfl
 | 2, _ => exact hc 2 _ rfl
theorem box_fade {s : Sh} {ot : Option Addr} {cap q : Nat} {W : World} (hc : ∀ (i : Nat) (v : Value), (sheetC (ofSh s) ot cap)[i]? = some v → W.cell? ⟨q, i, none⟩ = some v) {p : Nat} (hp : p < 3) : W.cell? ⟨q, 3 + p * 2, none⟩ = some (.int .i64 (s.flo p)) ∧ W.cell? ⟨q, 3 + p * 2 + 1, none⟩ = some (.int .i64 (s.fhi p)) := by
 match p, hp with
 | 0, _ => exact ⟨hc 3 _ rfl, hc 4 _ rfl⟩
 | 1, _ => exact ⟨hc 5 _ rfl, hc 6 _ rfl⟩
 | 2, _ => exact ⟨hc 7 _ rfl, hc 8 _ rfl⟩


theorem board_any (s : Sh) (g : Fine s) (ot : Option Addr) (cap p y : Nat) (hp : p < 3) (hy : y ≤ 20) (w : World) :
  Calls Tryz.prog 120 #[sheetV (ofSh s) ot cap, .int .i64 p, .int .i64 y] w fun e w' => e = .returned (spanV (left (s.old p) y (s.fhi p) : Nat) (left (s.old p) y (s.flo p) : Nat)) ∧ Ext w w' := by
 have ho := g.old p hp
 have hf2 := g.fhi p hp
 have hf1 : s.flo p ≤ 9 := Nat.le_trans (g.flo p hp) hf2
 have R1 := Lib.hid (fun W => left_any (s.old p) y (s.fhi p) ho hy hf2 W)
 have R2 := Lib.hid (fun W => left_any (s.old p) y (s.flo p) ho hy hf1 W)
 have T := Lib.hid trivial
 clear g
 match p, hp with
 | 0, _ =>
  have R1' := Lib.hid (fun W => (show Calls Tryz.prog 78 #[.int .i64 (ofSh s).o0, .int .i64 y, .int .i64 (ofSh s).b0] W fun e w' => e = .returned (.int .i64 (left (s.old 0) y (s.fhi 0) : Nat)) ∧ W = w' from R1.out W))
  have R2' := Lib.hid (fun W => (show Calls Tryz.prog 78 #[.int .i64 (ofSh s).o0, .int .i64 y, .int .i64 (ofSh s).a0] W fun e w' => e = .returned (.int .i64 (left (s.old 0) y (s.flo 0) : Nat)) ∧ W = w' from R2.out W))
  clear R1 R2
  go_enter Tryz.func120, Tryz.ntmps120
  go_wp2_with fail
  obtain ⟨wr, hwr⟩ : ∃ wr, wr = ((w.alloc (.cells (sheetC (ofSh s) ot cap) 28)).alloc (.cells #[.int .i64 0, .int .i64 0] 24)).alloc (.cells #[.int .i64 (ofSh s).a0, .int .i64 (ofSh s).b0] 24) := ⟨_, rfl⟩
  have hE : Ext w wr := by rw [hwr]; exact (((Ext.refl w).alloc _).alloc _).alloc _
  have e1 : wr.cell? ⟨w.heap.size, 0, none⟩ = some (.int .i64 (ofSh s).o0) := by rw [hwr]; go_simp
  have e2 : wr.cell? ⟨w.heap.size + 1 + 1, 0, none⟩ = some (.int .i64 (ofSh s).a0) := by rw [hwr]; go_simp
  have e3 : wr.cell? ⟨w.heap.size + 1 + 1, 1, none⟩ = some (.int .i64 (ofSh s).b0) := by rw [hwr]; go_simp
  have z0 : wr.cell? ⟨w.heap.size + 1, 0, none⟩ = some (.int .i64 0) := by rw [hwr]; go_simp
  have z1 : wr.cell? ⟨w.heap.size + 1, 1, none⟩ = some (.int .i64 0) := by rw [hwr]; go_simp
  have y0 : wr.frozen? ⟨w.heap.size + 1, 0, none⟩ = false := by rw [hwr]; go_simp
  have y1 : wr.frozen? ⟨w.heap.size + 1, 1, none⟩ = false := by rw [hwr]; go_simp
  rw [← hwr]
  clear hwr
  obtain ⟨L, hL⟩ : ∃ L, L = left (s.old 0) y (s.fhi 0) := ⟨_, rfl⟩
  obtain ⟨H, hH⟩ : ∃ H, H = left (s.old 0) y (s.flo 0) := ⟨_, rfl⟩
  rw [← hL] at R1'
  rw [← hH] at R2'
  have HL := Lib.hid hL
  have HH := Lib.hid hH
  clear hL hH
  refine wp_region_plan (.take 0 <| .take 1 <| .take 2 <| .take 3 <| .take 4 <| .take 5 <| .take 6 <| .take 8 <| .take 9 <| .take 10 <| .take 11 <| .take 12 <| .take 13 <| .take 14 <| .only 7 <| .only 15 <| .take 16 <| .only 17 <| .done) (fun W => Turned (w.heap.size + 1) wr W) mixed (by kernel_rfl) (by kernel_rfl) rfl (fun _ _ d _ _ h => by cases d <;> exact h) (Turned.of_ext (Ext.refl wr).drew) ?_
  repeat ((first | (refine plan_take (v := ?_) rfl rfl (fun W hW => ?_) ?_; rotate_left; (focus (have d1 := Turned.cell hW (by simp) e1; have d2 := Turned.cell hW (by simp) e2; have d3 := Turned.cell hW (by simp) e3; go_simp; first | exact rfl | (split <;> first | exact rfl | (exfalso; omega)) | done))) | refine plan_skip rfl rfl ?_); simp only [puts])
  refine plan_walk rfl ?_; intro K hK
  go_wp2_with (first | (go_at_call 78; refine (R1'.out _).mono ?_; rintro e w1 ⟨rfl, rfl⟩))
  refine hK _ _ (Turned.of_ext (Ext.refl wr).drew) ?_
  refine plan_walk rfl ?_; intro K hK
  go_wp2_with (first | (go_at_call 78; refine (R2'.out _).mono ?_; rintro e w1 ⟨rfl, rfl⟩))
  refine hK _ _ (Turned.of_ext (Ext.refl wr).drew) ?_
  repeat ((first | (refine plan_take (v := ?_) rfl rfl (fun W hW => ?_) ?_; rotate_left; (focus (skip; go_simp; first | exact rfl | (split <;> first | exact rfl | (exfalso; omega)) | done))) | refine plan_skip rfl rfl ?_); simp only [puts])
  refine plan_walk rfl ?_; intro K hK
  have z0' := cell_ext (Ext.refl wr).drew z0
  have z1' := cell_ext (Ext.refl wr).drew z1
  have y0' := ((Ext.refl wr).drew.frozen (World.block_lt_of_cell? _ _ z0)).trans y0
  have y1' := ((Ext.refl wr).drew.frozen (World.block_lt_of_cell? _ _ z1)).trans y1
  go_wp2
  refine hK _ _ (((Turned.of_ext (Ext.refl wr).drew).set 0 _).set 1 _) ?_
  refine plan_done ?_
  go_wp2
  refine bodyPost_ret (v := spanV L H) (results_cells (n := 2) rfl (by kernel_rfl) (by kernel_rfl) _ (w.heap.size + 1) [.int .i64 L, .int .i64 H] rfl (by simp) (fun j v hv => ?_)) (by simp) ⟨by rw [HL.out, HH.out], ext_own (ext_own hE.drew ((Turned.refl (w.heap.size + 1) _).set 0 _) (by omega)) ((Turned.refl (w.heap.size + 1) _).set 1 _) (by omega)⟩
  match j, hv with
  | 0, hv => cases hv; go_simp
  | 1, hv => cases hv; go_simp
 | 1, _ =>
  have R1' := Lib.hid (fun W => (show Calls Tryz.prog 78 #[.int .i64 (ofSh s).o1, .int .i64 y, .int .i64 (ofSh s).b1] W fun e w' => e = .returned (.int .i64 (left (s.old 1) y (s.fhi 1) : Nat)) ∧ W = w' from R1.out W))
  have R2' := Lib.hid (fun W => (show Calls Tryz.prog 78 #[.int .i64 (ofSh s).o1, .int .i64 y, .int .i64 (ofSh s).a1] W fun e w' => e = .returned (.int .i64 (left (s.old 1) y (s.flo 1) : Nat)) ∧ W = w' from R2.out W))
  clear R1 R2
  go_enter Tryz.func120, Tryz.ntmps120
  go_wp2_with fail
  obtain ⟨wr, hwr⟩ : ∃ wr, wr = ((w.alloc (.cells (sheetC (ofSh s) ot cap) 28)).alloc (.cells #[.int .i64 0, .int .i64 0] 24)).alloc (.cells #[.int .i64 (ofSh s).a1, .int .i64 (ofSh s).b1] 24) := ⟨_, rfl⟩
  have hE : Ext w wr := by rw [hwr]; exact (((Ext.refl w).alloc _).alloc _).alloc _
  have e1 : wr.cell? ⟨w.heap.size, 1, none⟩ = some (.int .i64 (ofSh s).o1) := by rw [hwr]; go_simp
  have e2 : wr.cell? ⟨w.heap.size + 1 + 1, 0, none⟩ = some (.int .i64 (ofSh s).a1) := by rw [hwr]; go_simp
  have e3 : wr.cell? ⟨w.heap.size + 1 + 1, 1, none⟩ = some (.int .i64 (ofSh s).b1) := by rw [hwr]; go_simp
  have z0 : wr.cell? ⟨w.heap.size + 1, 0, none⟩ = some (.int .i64 0) := by rw [hwr]; go_simp
  have z1 : wr.cell? ⟨w.heap.size + 1, 1, none⟩ = some (.int .i64 0) := by rw [hwr]; go_simp
  have y0 : wr.frozen? ⟨w.heap.size + 1, 0, none⟩ = false := by rw [hwr]; go_simp
  have y1 : wr.frozen? ⟨w.heap.size + 1, 1, none⟩ = false := by rw [hwr]; go_simp
  rw [← hwr]
  clear hwr
  obtain ⟨L, hL⟩ : ∃ L, L = left (s.old 1) y (s.fhi 1) := ⟨_, rfl⟩
  obtain ⟨H, hH⟩ : ∃ H, H = left (s.old 1) y (s.flo 1) := ⟨_, rfl⟩
  rw [← hL] at R1'
  rw [← hH] at R2'
  have HL := Lib.hid hL
  have HH := Lib.hid hH
  clear hL hH
  refine wp_region_plan (.take 0 <| .take 1 <| .take 2 <| .take 3 <| .take 4 <| .take 5 <| .take 6 <| .take 8 <| .take 9 <| .take 10 <| .take 11 <| .take 12 <| .take 13 <| .take 14 <| .only 7 <| .only 15 <| .take 16 <| .only 17 <| .done) (fun W => Turned (w.heap.size + 1) wr W) mixed (by kernel_rfl) (by kernel_rfl) rfl (fun _ _ d _ _ h => by cases d <;> exact h) (Turned.of_ext (Ext.refl wr).drew) ?_
  repeat ((first | (refine plan_take (v := ?_) rfl rfl (fun W hW => ?_) ?_; rotate_left; (focus (have d1 := Turned.cell hW (by simp) e1; have d2 := Turned.cell hW (by simp) e2; have d3 := Turned.cell hW (by simp) e3; go_simp; first | exact rfl | (split <;> first | exact rfl | (exfalso; omega)) | done))) | refine plan_skip rfl rfl ?_); simp only [puts])
  refine plan_walk rfl ?_; intro K hK
  go_wp2_with (first | (go_at_call 78; refine (R1'.out _).mono ?_; rintro e w1 ⟨rfl, rfl⟩))
  refine hK _ _ (Turned.of_ext (Ext.refl wr).drew) ?_
  refine plan_walk rfl ?_; intro K hK
  go_wp2_with (first | (go_at_call 78; refine (R2'.out _).mono ?_; rintro e w1 ⟨rfl, rfl⟩))
  refine hK _ _ (Turned.of_ext (Ext.refl wr).drew) ?_
  repeat ((first | (refine plan_take (v := ?_) rfl rfl (fun W hW => ?_) ?_; rotate_left; (focus (skip; go_simp; first | exact rfl | (split <;> first | exact rfl | (exfalso; omega)) | done))) | refine plan_skip rfl rfl ?_); simp only [puts])
  refine plan_walk rfl ?_; intro K hK
  have z0' := cell_ext (Ext.refl wr).drew z0
  have z1' := cell_ext (Ext.refl wr).drew z1
  have y0' := ((Ext.refl wr).drew.frozen (World.block_lt_of_cell? _ _ z0)).trans y0
  have y1' := ((Ext.refl wr).drew.frozen (World.block_lt_of_cell? _ _ z1)).trans y1
  go_wp2
  refine hK _ _ (((Turned.of_ext (Ext.refl wr).drew).set 0 _).set 1 _) ?_
  refine plan_done ?_
  go_wp2
  refine bodyPost_ret (v := spanV L H) (results_cells (n := 2) rfl (by kernel_rfl) (by kernel_rfl) _ (w.heap.size + 1) [.int .i64 L, .int .i64 H] rfl (by simp) (fun j v hv => ?_)) (by simp) ⟨by rw [HL.out, HH.out], ext_own (ext_own hE.drew ((Turned.refl (w.heap.size + 1) _).set 0 _) (by omega)) ((Turned.refl (w.heap.size + 1) _).set 1 _) (by omega)⟩
  match j, hv with
  | 0, hv => cases hv; go_simp
  | 1, hv => cases hv; go_simp
 | 2, _ =>
  have R1' := Lib.hid (fun W => (show Calls Tryz.prog 78 #[.int .i64 (ofSh s).o2, .int .i64 y, .int .i64 (ofSh s).b2] W fun e w' => e = .returned (.int .i64 (left (s.old 2) y (s.fhi 2) : Nat)) ∧ W = w' from R1.out W))
  have R2' := Lib.hid (fun W => (show Calls Tryz.prog 78 #[.int .i64 (ofSh s).o2, .int .i64 y, .int .i64 (ofSh s).a2] W fun e w' => e = .returned (.int .i64 (left (s.old 2) y (s.flo 2) : Nat)) ∧ W = w' from R2.out W))
  clear R1 R2
  go_enter Tryz.func120, Tryz.ntmps120
  go_wp2_with fail
  obtain ⟨wr, hwr⟩ : ∃ wr, wr = ((w.alloc (.cells (sheetC (ofSh s) ot cap) 28)).alloc (.cells #[.int .i64 0, .int .i64 0] 24)).alloc (.cells #[.int .i64 (ofSh s).a2, .int .i64 (ofSh s).b2] 24) := ⟨_, rfl⟩
  have hE : Ext w wr := by rw [hwr]; exact (((Ext.refl w).alloc _).alloc _).alloc _
  have e1 : wr.cell? ⟨w.heap.size, 2, none⟩ = some (.int .i64 (ofSh s).o2) := by rw [hwr]; go_simp
  have e2 : wr.cell? ⟨w.heap.size + 1 + 1, 0, none⟩ = some (.int .i64 (ofSh s).a2) := by rw [hwr]; go_simp
  have e3 : wr.cell? ⟨w.heap.size + 1 + 1, 1, none⟩ = some (.int .i64 (ofSh s).b2) := by rw [hwr]; go_simp
  have z0 : wr.cell? ⟨w.heap.size + 1, 0, none⟩ = some (.int .i64 0) := by rw [hwr]; go_simp
  have z1 : wr.cell? ⟨w.heap.size + 1, 1, none⟩ = some (.int .i64 0) := by rw [hwr]; go_simp
  have y0 : wr.frozen? ⟨w.heap.size + 1, 0, none⟩ = false := by rw [hwr]; go_simp
  have y1 : wr.frozen? ⟨w.heap.size + 1, 1, none⟩ = false := by rw [hwr]; go_simp
  rw [← hwr]
  clear hwr
  obtain ⟨L, hL⟩ : ∃ L, L = left (s.old 2) y (s.fhi 2) := ⟨_, rfl⟩
  obtain ⟨H, hH⟩ : ∃ H, H = left (s.old 2) y (s.flo 2) := ⟨_, rfl⟩
  rw [← hL] at R1'
  rw [← hH] at R2'
  have HL := Lib.hid hL
  have HH := Lib.hid hH
  clear hL hH
  refine wp_region_plan (.take 0 <| .take 1 <| .take 2 <| .take 3 <| .take 4 <| .take 5 <| .take 6 <| .take 8 <| .take 9 <| .take 10 <| .take 11 <| .take 12 <| .take 13 <| .take 14 <| .only 7 <| .only 15 <| .take 16 <| .only 17 <| .done) (fun W => Turned (w.heap.size + 1) wr W) mixed (by kernel_rfl) (by kernel_rfl) rfl (fun _ _ d _ _ h => by cases d <;> exact h) (Turned.of_ext (Ext.refl wr).drew) ?_
  repeat ((first | (refine plan_take (v := ?_) rfl rfl (fun W hW => ?_) ?_; rotate_left; (focus (have d1 := Turned.cell hW (by simp) e1; have d2 := Turned.cell hW (by simp) e2; have d3 := Turned.cell hW (by simp) e3; go_simp; first | exact rfl | (split <;> first | exact rfl | (exfalso; omega)) | done))) | refine plan_skip rfl rfl ?_); simp only [puts])
  refine plan_walk rfl ?_; intro K hK
  go_wp2_with (first | (go_at_call 78; refine (R1'.out _).mono ?_; rintro e w1 ⟨rfl, rfl⟩))
  refine hK _ _ (Turned.of_ext (Ext.refl wr).drew) ?_
  refine plan_walk rfl ?_; intro K hK
  go_wp2_with (first | (go_at_call 78; refine (R2'.out _).mono ?_; rintro e w1 ⟨rfl, rfl⟩))
  refine hK _ _ (Turned.of_ext (Ext.refl wr).drew) ?_
  repeat ((first | (refine plan_take (v := ?_) rfl rfl (fun W hW => ?_) ?_; rotate_left; (focus (skip; go_simp; first | exact rfl | (split <;> first | exact rfl | (exfalso; omega)) | done))) | refine plan_skip rfl rfl ?_); simp only [puts])
  refine plan_walk rfl ?_; intro K hK
  have z0' := cell_ext (Ext.refl wr).drew z0
  have z1' := cell_ext (Ext.refl wr).drew z1
  have y0' := ((Ext.refl wr).drew.frozen (World.block_lt_of_cell? _ _ z0)).trans y0
  have y1' := ((Ext.refl wr).drew.frozen (World.block_lt_of_cell? _ _ z1)).trans y1
  go_wp2
  refine hK _ _ (((Turned.of_ext (Ext.refl wr).drew).set 0 _).set 1 _) ?_
  refine plan_done ?_
  go_wp2
  refine bodyPost_ret (v := spanV L H) (results_cells (n := 2) rfl (by kernel_rfl) (by kernel_rfl) _ (w.heap.size + 1) [.int .i64 L, .int .i64 H] rfl (by simp) (fun j v hv => ?_)) (by simp) ⟨by rw [HL.out, HH.out], ext_own (ext_own hE.drew ((Turned.refl (w.heap.size + 1) _).set 0 _) (by omega)) ((Turned.refl (w.heap.size + 1) _).set 1 _) (by omega)⟩
  match j, hv with
  | 0, hv => cases hv; go_simp
  | 1, hv => cases hv; go_simp

end Go.Proofs.YtjpekonfjihcoaaGreatDoor
/- Contracts: aim, Aim, the reference's Aim. No condition beyond sheets as defined. -/
namespace Go.Proofs.YtjpekonfjihcoaaGreatDoor
open Go.RowKit Go.My Go.TintM

/-- What the board has of each pigment, the first k of them. -/
def aimL (s : Sh) (k : Nat) : List Int := (List.range 6).map fun j => if j / 2 < k then (if j % 2 = 0 then (aimLo s (j / 2) : Int) else aimHi s (j / 2)) else 0
abbrev aimV (s : Sh) : Value := .agg #[.int .i64 (aimLo s 0), .int .i64 (aimHi s 0), .int .i64 (aimLo s 1), .int .i64 (aimHi s 1), .int .i64 (aimLo s 2), .int .i64 (aimHi s 2)]

/-- A box of three spans that is filled. -/
structure OBx (b : Nat) (w0 W : World) (xs : List Int) : Prop where
 turned : Turned b w0 W
 c : ∀ (j : Nat) (x : Int), xs[j]? = some x → W.cell? ⟨b, j, none⟩ = some (.int .i64 x)
 f : ∀ j, j < 6 → W.frozen? ⟨b, j, none⟩ = false
theorem OBx.next {b : Nat} {w0 W W' : World} {xs : List Int} (h : OBx b w0 W xs) (hE : Ext W W') (hl : ∃ x, xs[0]? = some x) : OBx b w0 W' xs := by
 obtain ⟨x, hx⟩ := hl
 have hb := World.block_lt_of_cell? _ _ (h.c 0 x hx)
 exact ⟨h.turned.trans (Turned.of_ext hE), fun j y hy => cell_ext hE (h.c j y hy), fun j hj => (hE.frozen (by exact hb)).trans (h.f j hj)⟩
theorem OBx.set {b : Nat} {w0 W : World} {xs ys : List Int} (h : OBx b w0 W xs) (i : Nat) (u v : Int) (hi : i + 1 < 6) (hx : xs.length = 6) (hy : ys.length = 6) (h0 : ys[i]? = some u) (h1 : ys[i + 1]? = some v) (hs : ∀ j, j ≠ i → j ≠ i + 1 → ys[j]? = xs[j]?) :
  OBx b w0 ((W.setCell ⟨b, i, none⟩ (.int .i64 u)).setCell ⟨b, i + 1, none⟩ (.int .i64 v)) ys := by
 refine ⟨(h.turned.set i _).set (i + 1) _, fun j y hj => ?_, fun j hj => by rw [World.frozen?_setCell, World.frozen?_setCell]; exact h.f j hj⟩
 have ci : W.cell? ⟨b, i, none⟩ = some (.int .i64 xs[i]) := h.c i _ (by simp)
 have ci1 : W.cell? ⟨b, i + 1, none⟩ = some (.int .i64 xs[i + 1]) := h.c (i + 1) _ (by simp)
 by_cases e1 : j = i + 1
 ·subst e1
  rw [h1] at hj; cases hj
  exact World.cell?_setCell_same _ _ _ ((World.cell?_setCell_other _ _ _ _ (by simp)).trans ci1)
 ·rw [World.cell?_setCell_other _ _ _ _ (by simp <;> omega)]
  by_cases e0 : j = i
  ·subst e0
   rw [h0] at hj; cases hj
   exact World.cell?_setCell_same _ _ _ ci
  ·rw [World.cell?_setCell_other _ _ _ _ (by simp <;> omega)]
   exact h.c j y (by rw [← hs j e0 e1]; exact hj)

theorem ext_set {w W : World} {b o : Nat} {v : Value} (h : Ext w W) (hb : w.heap.size ≤ b) : Ext w (W.setCell ⟨b, o, none⟩ v) := ext_own h ((Turned.refl b W).set o v) hb
theorem aimL_len (s : Sh) (k : Nat) : (aimL s k).length = 6 := by simp [aimL]
theorem aimL_get (s : Sh) (k : Nat) {j : Nat} (hj : j < 6) : (aimL s k)[j]? = some (if j / 2 < k then (if j % 2 = 0 then (aimLo s (j / 2) : Int) else aimHi s (j / 2)) else 0) := by
 simp [aimL, hj]
theorem aimL_step (s : Sh) {k : Nat} (hk : k < 3) : (aimL s (k + 1))[k * 2]? = some (aimLo s k : Int) ∧ (aimL s (k + 1))[k * 2 + 1]? = some (aimHi s k : Int) ∧ ∀ j, j ≠ k * 2 → j ≠ k * 2 + 1 → (aimL s (k + 1))[j]? = (aimL s k)[j]? := by
 refine ⟨?_, ?_, fun j h1 h2 => ?_⟩
 ·rw [aimL_get s _ (by omega), if_pos (by omega), if_pos (by omega), show k * 2 / 2 = k by omega]
 ·rw [aimL_get s _ (by omega), if_pos (by omega), if_neg (by omega), show (k * 2 + 1) / 2 = k by omega]
 ·by_cases hj : j < 6
  ·rw [aimL_get s _ hj, aimL_get s _ hj]
   by_cases hq : j / 2 < k
   ·rw [if_pos (show j / 2 < k + 1 by omega), if_pos hq]
   ·rw [if_neg (show ¬ j / 2 < k + 1 by omega), if_neg hq]
  ·simp [aimL, hj]


theorem aim_any (s : Sh) (g : Fine s) (ot : Option Addr) (cap : Nat) (w : World) :
  Calls Tryz.prog 86 #[sheetV (ofSh s) ot cap] w fun e w' => e = .returned (aimV s) ∧ Ext w w' := by
 have R1 := Lib.hid (fun k (hk : k < 3) W => board_any s g ot cap k s.yhi hk g.yhi W)
 have R2 := Lib.hid (fun k (hk : k < 3) W => board_any s g ot cap k s.ylo hk (Nat.le_trans g.ylo g.yhi) W)
 clear g
 go_enter Tryz.func86, Tryz.ntmps86
 go_wp2
 obtain ⟨w0, hw0⟩ : ∃ w0, w0 = ((w.alloc (.cells (sheetC (ofSh s) ot cap) 28)).alloc (.cells #[.int .i64 0, .int .i64 0, .int .i64 0, .int .i64 0, .int .i64 0, .int .i64 0] 25)).alloc (.cells #[.int .i64 0, .int .i64 0, .int .i64 0, .int .i64 0, .int .i64 0, .int .i64 0] 25) := ⟨_, rfl⟩
 have hE0 : Ext w w0 := by rw [hw0]; exact (((Ext.refl w).alloc _).alloc _).alloc _
 have C0 := Lib.hid (show ∀ (i : Nat) (v : Value), (sheetC (ofSh s) ot cap)[i]? = some v → w0.cell? ⟨w.heap.size, i, none⟩ = some v from fun i v hv => by
  rw [hw0]; exact cell_ext (((Ext.refl _).alloc _).alloc _) (sheet_box s ot cap w i v hv))
 have hob : OBx (w.heap.size + 1 + 1) w0 w0 (aimL s 0) := by
  refine ⟨Turned.refl _ _, fun j x hj => ?_, fun j hj => ?_⟩
  ·have hj6 : j < 6 := by have := (List.getElem?_eq_some_iff.1 hj).1; rw [aimL_len] at this; exact this
   rw [aimL_get s 0 hj6] at hj
   rw [hw0]
   match j, hj6 with
   | 0, _ => cases hj; go_simp
   | 1, _ => cases hj; go_simp
   | 2, _ => cases hj; go_simp
   | 3, _ => cases hj; go_simp
   | 4, _ => cases hj; go_simp
   | 5, _ => cases hj; go_simp
  ·rw [hw0]; go_simp
 have Hob := Lib.hid hob
 have hr0 : ∀ j, j < 6 → w0.cell? ⟨w.heap.size + 1, j, none⟩ = some (.int .i64 0) := fun j hj => by
  rw [hw0]
  match j, hj with
  | 0, _ => go_simp
  | 1, _ => go_simp
  | 2, _ => go_simp
  | 3, _ => go_simp
  | 4, _ => go_simp
  | 5, _ => go_simp
 have hq0 : ∀ j, j < 6 → w0.frozen? ⟨w.heap.size + 1, j, none⟩ = false := fun j hj => by rw [hw0]; go_simp
 have Hr0 := Lib.hid hr0
 have Hq0 := Lib.hid hq0
 have HE0 := Lib.hid hE0
 have hw0l : w.heap.size + 2 < w0.heap.size := by rw [hw0]; simp
 rw [← hw0]
 clear hw0 hob hr0 hq0 hE0
 go_loopg [4, 5] 3 (fun g pp i wr => ∃ k : Nat, k + g = 3 ∧ i = .int .i64 k ∧ OBx (w.heap.size + 1 + 1) w0 wr (aimL s k))
 case atStart => exact ⟨0, by simp, rfl, Hob.out⟩
 case round =>
  obtain ⟨k, hk, rfl, hob⟩ := hrel
  have Ob := Lib.hid hob
  clear hob Hob
  by_cases hlt : k < 3
  ·have hkI : (k : Int) < 3 := by omega
   have c0 : wr.cell? ⟨w.heap.size, 0, none⟩ = some (.int .i64 (ofSh s).o0) := Turned.cell Ob.out.turned (by simp <;> omega) (C0.out 0 _ rfl)
   have c1 : wr.cell? ⟨w.heap.size, 1, none⟩ = some (.int .i64 (ofSh s).o1) := Turned.cell Ob.out.turned (by simp <;> omega) (C0.out 1 _ rfl)
   have c2 : wr.cell? ⟨w.heap.size, 2, none⟩ = some (.int .i64 (ofSh s).o2) := Turned.cell Ob.out.turned (by simp <;> omega) (C0.out 2 _ rfl)
   have c3 : wr.cell? ⟨w.heap.size, 3, none⟩ = some (.int .i64 (ofSh s).a0) := Turned.cell Ob.out.turned (by simp <;> omega) (C0.out 3 _ rfl)
   have c4 : wr.cell? ⟨w.heap.size, 4, none⟩ = some (.int .i64 (ofSh s).b0) := Turned.cell Ob.out.turned (by simp <;> omega) (C0.out 4 _ rfl)
   have c5 : wr.cell? ⟨w.heap.size, 5, none⟩ = some (.int .i64 (ofSh s).a1) := Turned.cell Ob.out.turned (by simp <;> omega) (C0.out 5 _ rfl)
   have c6 : wr.cell? ⟨w.heap.size, 6, none⟩ = some (.int .i64 (ofSh s).b1) := Turned.cell Ob.out.turned (by simp <;> omega) (C0.out 6 _ rfl)
   have c7 : wr.cell? ⟨w.heap.size, 7, none⟩ = some (.int .i64 (ofSh s).a2) := Turned.cell Ob.out.turned (by simp <;> omega) (C0.out 7 _ rfl)
   have c8 : wr.cell? ⟨w.heap.size, 8, none⟩ = some (.int .i64 (ofSh s).b2) := Turned.cell Ob.out.turned (by simp <;> omega) (C0.out 8 _ rfl)
   have c9 : wr.cell? ⟨w.heap.size, 9, none⟩ = some (.int .i64 (ofSh s).ylo) := Turned.cell Ob.out.turned (by simp <;> omega) (C0.out 9 _ rfl)
   have c10 : wr.cell? ⟨w.heap.size, 10, none⟩ = some (.int .i64 (ofSh s).yhi) := Turned.cell Ob.out.turned (by simp <;> omega) (C0.out 10 _ rfl)
   have c11 : wr.cell? ⟨w.heap.size, 11, none⟩ = some (.int .i64 (ofSh s).off) := Turned.cell Ob.out.turned (by simp <;> omega) (C0.out 11 _ rfl)
   have c12 : wr.cell? ⟨w.heap.size, 12, none⟩ = some (.slice ot (ofSh s).tins.length cap) := Turned.cell Ob.out.turned (by simp <;> omega) (C0.out 12 _ rfl)
   match k, hlt with
   | 0, _ =>
    obtain ⟨xa, ha⟩ : ∃ x, wr.cell? ⟨w.heap.size + 1 + 1, 0, none⟩ = some (.int .i64 x) := ⟨_, Ob.out.c 0 _ (aimL_get s 0 (by omega))⟩
    obtain ⟨xb, hb⟩ : ∃ x, wr.cell? ⟨w.heap.size + 1 + 1, 1, none⟩ = some (.int .i64 x) := ⟨_, Ob.out.c 1 _ (aimL_get s 0 (by omega))⟩
    have fa := Ob.out.f 0 (by omega)
    have fb := Ob.out.f 1 (by omega)
    go_wp2_with fail
    refine wp_region_plan (.take 0 <| .take 1 <| .take 2 <| .take 3 <| .take 4 <| .take 5 <| .take 8 <| .take 9 <| .take 10 <| .take 11 <| .take 12 <| .only 6 <| .take 7 <| .only 13 <| .take 14 <| .take 15 <| .take 16 <| .only 17 <| .done) (fun W => Turned (w.heap.size + 1 + 1) wr W) mixed (by kernel_rfl) (by kernel_rfl) rfl (fun _ _ d _ _ h => by cases d <;> exact h) (Turned.of_ext (Ext.refl wr).drew) ?_
    repeat ((first | (refine plan_take (v := ?_) rfl rfl (fun W hW => ?_) ?_; rotate_left; (focus (have d0 := Turned.cell hW (by simp <;> omega) c0; have d1 := Turned.cell hW (by simp <;> omega) c1; have d2 := Turned.cell hW (by simp <;> omega) c2; have d3 := Turned.cell hW (by simp <;> omega) c3; have d4 := Turned.cell hW (by simp <;> omega) c4; have d5 := Turned.cell hW (by simp <;> omega) c5; have d6 := Turned.cell hW (by simp <;> omega) c6; have d7 := Turned.cell hW (by simp <;> omega) c7; have d8 := Turned.cell hW (by simp <;> omega) c8; have d9 := Turned.cell hW (by simp <;> omega) c9; have d10 := Turned.cell hW (by simp <;> omega) c10; have d11 := Turned.cell hW (by simp <;> omega) c11; have d12 := Turned.cell hW (by simp <;> omega) c12; go_simp; first | exact rfl | (split <;> first | exact rfl | (exfalso; omega)) | done))) | refine plan_skip rfl rfl ?_); simp only [puts])
    refine plan_walk rfl ?_; intro K hK
    go_wp2_with (first | (go_at_call 120; refine (R1.out 0 (by omega) _).mono ?_; rintro e w1 ⟨rfl, hE1⟩))
    have hX1 := (Ext.refl wr).drew.trans hE1
    refine hK _ _ (Turned.of_ext hX1) ?_
    repeat ((first | (refine plan_take (v := ?_) rfl rfl (fun W hW => ?_) ?_; rotate_left; (focus (skip; go_simp; first | exact rfl | (split <;> first | exact rfl | (exfalso; omega)) | done))) | refine plan_skip rfl rfl ?_); simp only [puts])
    refine plan_walk rfl ?_; intro K hK
    go_wp2_with (first | (go_at_call 120; refine (R2.out 0 (by omega) _).mono ?_; rintro e w2 ⟨rfl, hE2⟩))
    have hX2 := hX1.trans hE2
    refine hK _ _ (Turned.of_ext hX2) ?_
    repeat ((first | (refine plan_take (v := ?_) rfl rfl (fun W hW => ?_) ?_; rotate_left; (focus (skip; go_simp; first | exact rfl | (split <;> first | exact rfl | (exfalso; omega)) | done))) | refine plan_skip rfl rfl ?_); simp only [puts])
    refine plan_walk rfl ?_; intro K hK
    have ha2 := cell_ext hX2 ha
    have hb2 := cell_ext hX2 hb
    have fa2 := (hX2.frozen (World.block_lt_of_cell? _ _ ha)).trans fa
    have fb2 := (hX2.frozen (World.block_lt_of_cell? _ _ hb)).trans fb
    have HX2 := Lib.hid hX2
    clear c0 c1 c2 c3 c4 c5 c6 c7 c8 c9 c10 c11 c12 ha hb fa fb hX1 hX2 hE1 hE2
    go_wp2
    refine hK _ _ (((Turned.of_ext HX2.out).set 0 _).set 1 _) ?_
    refine plan_done ?_
    go_wp2
    go_roundg (gk - 1)
    case measure => omega
    case rel => exact ⟨1, by omega, by go_num, (Ob.out.next HX2.out ⟨_, aimL_get s 0 (by omega)⟩).set 0 (aimLo s 0) (aimHi s 0) (by omega) (aimL_len _ _) (aimL_len _ _) (aimL_step s (k := 0) (by omega)).1 (aimL_step s (k := 0) (by omega)).2.1 (aimL_step s (k := 0) (by omega)).2.2⟩
   | 1, _ =>
    obtain ⟨xa, ha⟩ : ∃ x, wr.cell? ⟨w.heap.size + 1 + 1, 2, none⟩ = some (.int .i64 x) := ⟨_, Ob.out.c 2 _ (aimL_get s 1 (by omega))⟩
    obtain ⟨xb, hb⟩ : ∃ x, wr.cell? ⟨w.heap.size + 1 + 1, 3, none⟩ = some (.int .i64 x) := ⟨_, Ob.out.c 3 _ (aimL_get s 1 (by omega))⟩
    have fa := Ob.out.f 2 (by omega)
    have fb := Ob.out.f 3 (by omega)
    go_wp2_with fail
    refine wp_region_plan (.take 0 <| .take 1 <| .take 2 <| .take 3 <| .take 4 <| .take 5 <| .take 8 <| .take 9 <| .take 10 <| .take 11 <| .take 12 <| .only 6 <| .take 7 <| .only 13 <| .take 14 <| .take 15 <| .take 16 <| .only 17 <| .done) (fun W => Turned (w.heap.size + 1 + 1) wr W) mixed (by kernel_rfl) (by kernel_rfl) rfl (fun _ _ d _ _ h => by cases d <;> exact h) (Turned.of_ext (Ext.refl wr).drew) ?_
    repeat ((first | (refine plan_take (v := ?_) rfl rfl (fun W hW => ?_) ?_; rotate_left; (focus (have d0 := Turned.cell hW (by simp <;> omega) c0; have d1 := Turned.cell hW (by simp <;> omega) c1; have d2 := Turned.cell hW (by simp <;> omega) c2; have d3 := Turned.cell hW (by simp <;> omega) c3; have d4 := Turned.cell hW (by simp <;> omega) c4; have d5 := Turned.cell hW (by simp <;> omega) c5; have d6 := Turned.cell hW (by simp <;> omega) c6; have d7 := Turned.cell hW (by simp <;> omega) c7; have d8 := Turned.cell hW (by simp <;> omega) c8; have d9 := Turned.cell hW (by simp <;> omega) c9; have d10 := Turned.cell hW (by simp <;> omega) c10; have d11 := Turned.cell hW (by simp <;> omega) c11; have d12 := Turned.cell hW (by simp <;> omega) c12; go_simp; first | exact rfl | (split <;> first | exact rfl | (exfalso; omega)) | done))) | refine plan_skip rfl rfl ?_); simp only [puts])
    refine plan_walk rfl ?_; intro K hK
    go_wp2_with (first | (go_at_call 120; refine (R1.out 1 (by omega) _).mono ?_; rintro e w1 ⟨rfl, hE1⟩))
    have hX1 := (Ext.refl wr).drew.trans hE1
    refine hK _ _ (Turned.of_ext hX1) ?_
    repeat ((first | (refine plan_take (v := ?_) rfl rfl (fun W hW => ?_) ?_; rotate_left; (focus (skip; go_simp; first | exact rfl | (split <;> first | exact rfl | (exfalso; omega)) | done))) | refine plan_skip rfl rfl ?_); simp only [puts])
    refine plan_walk rfl ?_; intro K hK
    go_wp2_with (first | (go_at_call 120; refine (R2.out 1 (by omega) _).mono ?_; rintro e w2 ⟨rfl, hE2⟩))
    have hX2 := hX1.trans hE2
    refine hK _ _ (Turned.of_ext hX2) ?_
    repeat ((first | (refine plan_take (v := ?_) rfl rfl (fun W hW => ?_) ?_; rotate_left; (focus (skip; go_simp; first | exact rfl | (split <;> first | exact rfl | (exfalso; omega)) | done))) | refine plan_skip rfl rfl ?_); simp only [puts])
    refine plan_walk rfl ?_; intro K hK
    have ha2 := cell_ext hX2 ha
    have hb2 := cell_ext hX2 hb
    have fa2 := (hX2.frozen (World.block_lt_of_cell? _ _ ha)).trans fa
    have fb2 := (hX2.frozen (World.block_lt_of_cell? _ _ hb)).trans fb
    have HX2 := Lib.hid hX2
    clear c0 c1 c2 c3 c4 c5 c6 c7 c8 c9 c10 c11 c12 ha hb fa fb hX1 hX2 hE1 hE2
    go_wp2
    refine hK _ _ (((Turned.of_ext HX2.out).set 2 _).set 3 _) ?_
    refine plan_done ?_
    go_wp2
    go_roundg (gk - 1)
    case measure => omega
    case rel => exact ⟨2, by omega, by go_num, (Ob.out.next HX2.out ⟨_, aimL_get s 1 (by omega)⟩).set 2 (aimLo s 1) (aimHi s 1) (by omega) (aimL_len _ _) (aimL_len _ _) (aimL_step s (k := 1) (by omega)).1 (aimL_step s (k := 1) (by omega)).2.1 (aimL_step s (k := 1) (by omega)).2.2⟩
   | 2, _ =>
    obtain ⟨xa, ha⟩ : ∃ x, wr.cell? ⟨w.heap.size + 1 + 1, 4, none⟩ = some (.int .i64 x) := ⟨_, Ob.out.c 4 _ (aimL_get s 2 (by omega))⟩
    obtain ⟨xb, hb⟩ : ∃ x, wr.cell? ⟨w.heap.size + 1 + 1, 5, none⟩ = some (.int .i64 x) := ⟨_, Ob.out.c 5 _ (aimL_get s 2 (by omega))⟩
    have fa := Ob.out.f 4 (by omega)
    have fb := Ob.out.f 5 (by omega)
    go_wp2_with fail
    refine wp_region_plan (.take 0 <| .take 1 <| .take 2 <| .take 3 <| .take 4 <| .take 5 <| .take 8 <| .take 9 <| .take 10 <| .take 11 <| .take 12 <| .only 6 <| .take 7 <| .only 13 <| .take 14 <| .take 15 <| .take 16 <| .only 17 <| .done) (fun W => Turned (w.heap.size + 1 + 1) wr W) mixed (by kernel_rfl) (by kernel_rfl) rfl (fun _ _ d _ _ h => by cases d <;> exact h) (Turned.of_ext (Ext.refl wr).drew) ?_
    repeat ((first | (refine plan_take (v := ?_) rfl rfl (fun W hW => ?_) ?_; rotate_left; (focus (have d0 := Turned.cell hW (by simp <;> omega) c0; have d1 := Turned.cell hW (by simp <;> omega) c1; have d2 := Turned.cell hW (by simp <;> omega) c2; have d3 := Turned.cell hW (by simp <;> omega) c3; have d4 := Turned.cell hW (by simp <;> omega) c4; have d5 := Turned.cell hW (by simp <;> omega) c5; have d6 := Turned.cell hW (by simp <;> omega) c6; have d7 := Turned.cell hW (by simp <;> omega) c7; have d8 := Turned.cell hW (by simp <;> omega) c8; have d9 := Turned.cell hW (by simp <;> omega) c9; have d10 := Turned.cell hW (by simp <;> omega) c10; have d11 := Turned.cell hW (by simp <;> omega) c11; have d12 := Turned.cell hW (by simp <;> omega) c12; go_simp; first | exact rfl | (split <;> first | exact rfl | (exfalso; omega)) | done))) | refine plan_skip rfl rfl ?_); simp only [puts])
    refine plan_walk rfl ?_; intro K hK
    go_wp2_with (first | (go_at_call 120; refine (R1.out 2 (by omega) _).mono ?_; rintro e w1 ⟨rfl, hE1⟩))
    have hX1 := (Ext.refl wr).drew.trans hE1
    refine hK _ _ (Turned.of_ext hX1) ?_
    repeat ((first | (refine plan_take (v := ?_) rfl rfl (fun W hW => ?_) ?_; rotate_left; (focus (skip; go_simp; first | exact rfl | (split <;> first | exact rfl | (exfalso; omega)) | done))) | refine plan_skip rfl rfl ?_); simp only [puts])
    refine plan_walk rfl ?_; intro K hK
    go_wp2_with (first | (go_at_call 120; refine (R2.out 2 (by omega) _).mono ?_; rintro e w2 ⟨rfl, hE2⟩))
    have hX2 := hX1.trans hE2
    refine hK _ _ (Turned.of_ext hX2) ?_
    repeat ((first | (refine plan_take (v := ?_) rfl rfl (fun W hW => ?_) ?_; rotate_left; (focus (skip; go_simp; first | exact rfl | (split <;> first | exact rfl | (exfalso; omega)) | done))) | refine plan_skip rfl rfl ?_); simp only [puts])
    refine plan_walk rfl ?_; intro K hK
    have ha2 := cell_ext hX2 ha
    have hb2 := cell_ext hX2 hb
    have fa2 := (hX2.frozen (World.block_lt_of_cell? _ _ ha)).trans fa
    have fb2 := (hX2.frozen (World.block_lt_of_cell? _ _ hb)).trans fb
    have HX2 := Lib.hid hX2
    clear c0 c1 c2 c3 c4 c5 c6 c7 c8 c9 c10 c11 c12 ha hb fa fb hX1 hX2 hE1 hE2
    go_wp2
    refine hK _ _ (((Turned.of_ext HX2.out).set 4 _).set 5 _) ?_
    refine plan_done ?_
    go_wp2
    go_roundg (gk - 1)
    case measure => omega
    case rel => exact ⟨3, by omega, by go_num, (Ob.out.next HX2.out ⟨_, aimL_get s 2 (by omega)⟩).set 4 (aimLo s 2) (aimHi s 2) (by omega) (aimL_len _ _) (aimL_len _ _) (aimL_step s (k := 2) (by omega)).1 (aimL_step s (k := 2) (by omega)).2.1 (aimL_step s (k := 2) (by omega)).2.2⟩
  ·obtain rfl : k = 3 := by omega
   have b0 : wr.cell? ⟨w.heap.size + 1 + 1, 0, none⟩ = some (.int .i64 (aimLo s 0)) := Ob.out.c 0 _ (by rw [aimL_get s 3 (by omega)]; rfl)
   have b1 : wr.cell? ⟨w.heap.size + 1 + 1, 1, none⟩ = some (.int .i64 (aimHi s 0)) := Ob.out.c 1 _ (by rw [aimL_get s 3 (by omega)]; rfl)
   have b2 : wr.cell? ⟨w.heap.size + 1 + 1, 2, none⟩ = some (.int .i64 (aimLo s 1)) := Ob.out.c 2 _ (by rw [aimL_get s 3 (by omega)]; rfl)
   have b3 : wr.cell? ⟨w.heap.size + 1 + 1, 3, none⟩ = some (.int .i64 (aimHi s 1)) := Ob.out.c 3 _ (by rw [aimL_get s 3 (by omega)]; rfl)
   have b4 : wr.cell? ⟨w.heap.size + 1 + 1, 4, none⟩ = some (.int .i64 (aimLo s 2)) := Ob.out.c 4 _ (by rw [aimL_get s 3 (by omega)]; rfl)
   have b5 : wr.cell? ⟨w.heap.size + 1 + 1, 5, none⟩ = some (.int .i64 (aimHi s 2)) := Ob.out.c 5 _ (by rw [aimL_get s 3 (by omega)]; rfl)
   have z0 : wr.cell? ⟨w.heap.size + 1, 0, none⟩ = some (.int .i64 0) := Turned.cell Ob.out.turned (by simp <;> omega) (Hr0.out 0 (by omega))
   have y0 : wr.frozen? ⟨w.heap.size + 1, 0, none⟩ = false := (Turned.frozen Ob.out.turned (by simp <;> omega) (by simp; omega)).trans (Hq0.out 0 (by omega))
   have z1 : wr.cell? ⟨w.heap.size + 1, 1, none⟩ = some (.int .i64 0) := Turned.cell Ob.out.turned (by simp <;> omega) (Hr0.out 1 (by omega))
   have y1 : wr.frozen? ⟨w.heap.size + 1, 1, none⟩ = false := (Turned.frozen Ob.out.turned (by simp <;> omega) (by simp; omega)).trans (Hq0.out 1 (by omega))
   have z2 : wr.cell? ⟨w.heap.size + 1, 2, none⟩ = some (.int .i64 0) := Turned.cell Ob.out.turned (by simp <;> omega) (Hr0.out 2 (by omega))
   have y2 : wr.frozen? ⟨w.heap.size + 1, 2, none⟩ = false := (Turned.frozen Ob.out.turned (by simp <;> omega) (by simp; omega)).trans (Hq0.out 2 (by omega))
   have z3 : wr.cell? ⟨w.heap.size + 1, 3, none⟩ = some (.int .i64 0) := Turned.cell Ob.out.turned (by simp <;> omega) (Hr0.out 3 (by omega))
   have y3 : wr.frozen? ⟨w.heap.size + 1, 3, none⟩ = false := (Turned.frozen Ob.out.turned (by simp <;> omega) (by simp; omega)).trans (Hq0.out 3 (by omega))
   have z4 : wr.cell? ⟨w.heap.size + 1, 4, none⟩ = some (.int .i64 0) := Turned.cell Ob.out.turned (by simp <;> omega) (Hr0.out 4 (by omega))
   have y4 : wr.frozen? ⟨w.heap.size + 1, 4, none⟩ = false := (Turned.frozen Ob.out.turned (by simp <;> omega) (by simp; omega)).trans (Hq0.out 4 (by omega))
   have z5 : wr.cell? ⟨w.heap.size + 1, 5, none⟩ = some (.int .i64 0) := Turned.cell Ob.out.turned (by simp <;> omega) (Hr0.out 5 (by omega))
   have y5 : wr.frozen? ⟨w.heap.size + 1, 5, none⟩ = false := (Turned.frozen Ob.out.turned (by simp <;> omega) (by simp; omega)).trans (Hq0.out 5 (by omega))
   have hEw : Ext w wr := ext_own HE0.out Ob.out.turned (by omega)
   have HEw := Lib.hid hEw
   clear hEw Ob
   go_wp2
   refine bodyPost_ret (v := aimV s) (results_cells (n := 6) rfl (by kernel_rfl) (by kernel_rfl) _ (w.heap.size + 1) [.int .i64 (aimLo s 0), .int .i64 (aimHi s 0), .int .i64 (aimLo s 1), .int .i64 (aimHi s 1), .int .i64 (aimLo s 2), .int .i64 (aimHi s 2)] rfl (by simp) (fun j v hv => ?_)) (by simp) ⟨rfl, ?_⟩
   ·match j, hv with
    | 0, hv => cases hv; go_simp
    | 1, hv => cases hv; go_simp
    | 2, hv => cases hv; go_simp
    | 3, hv => cases hv; go_simp
    | 4, hv => cases hv; go_simp
    | 5, hv => cases hv; go_simp
   ·exact ext_set (ext_set (ext_set (ext_set (ext_set (ext_set HEw.out (by omega)) (by omega)) (by omega)) (by omega)) (by omega)) (by omega)

end Go.Proofs.YtjpekonfjihcoaaGreatDoor
/- A plan whose branches meet again: what holds behind all of them is said once. No condition. -/
namespace Go.My
open Go Go.RowKit

section
variable {P : Program} {ops : Array Oper} {Q : Exit → Act → World → Prop} {S : World → Prop}
theorem then_then (K R Q : Act → World → Prop) (Q0 : Exit → Act → World → Prop) : Exit.then K (Exit.then R Q0) = Exit.then K (Exit.then Q Q0) := by
 funext e a w; cases e <;> rfl
theorem wpList_one_mono {K K' : Act → World → Prop} {o : Oper} {a : Act} {w : World} (hk : ∀ a w, K a w → K' a w) (hw : wpList P ops (Exit.then K Q) [o] a w) : wpList P ops (Exit.then K' Q) [o] a w := by
 simp only [wpList] at hw ⊢
 split
 ·rename_i hwt
  rw [if_pos hwt] at hw
  rcases hw with hw | hw
  ·exact .inl (Oper.wp_mono hk (wp_posts (fun _ _ _ h => h) (fun h => h) hw))
  ·exact .inr ⟨hw.1, by obtain ⟨a0, w0, hq⟩ := hw.2; exact ⟨a0, w0, hq⟩⟩
 ·rename_i hwt
  rw [if_neg hwt] at hw
  exact hk _ _ hw
theorem plan_meet {R next : Act → World → Prop} {Q0 : Exit → Act → World → Prop} (h2 : ∀ a' w', R a' w' → next a' w') : ∀ (p : Plan) (a : Act) (w : World), planWalk P ops (Exit.then R Q0) S p a w → planWalk P ops (Exit.then next Q0) S p a w := by
 intro p
 induction p with
 | done => intro a w h; exact h2 _ _ h
 | take i rest ih =>
  intro a w h
  obtain ⟨o, v, ho, hy, hr⟩ := h
  exact ⟨o, v, ho, hy, ih _ _ hr⟩
 | only i rest ih =>
  intro a w h
  obtain ⟨o, ho, hw⟩ := h
  refine ⟨o, ho, ?_⟩
  rw [then_then _ next R Q0]
  exact wpList_one_mono (fun a' w' k => ⟨k.1, ih _ _ k.2⟩) hw
 | two i j p q ihp ihq =>
  intro a w h
  obtain ⟨⟨o, ho, hw⟩, ⟨o', ho', hw'⟩⟩ := h
  refine ⟨⟨o, ho, ?_⟩, ⟨o', ho', ?_⟩⟩
  ·rw [then_then _ next R Q0]; exact wpList_one_mono (fun a' w' k => ⟨k.1, ihp _ _ k.2⟩) hw
  ·rw [then_then _ next R Q0]; exact wpList_one_mono (fun a' w' k => ⟨k.1, ihq _ _ k.2⟩) hw'
 | three i j k p q r ihp ihq ihr =>
  intro a w h
  obtain ⟨⟨o, ho, hw⟩, ⟨o', ho', hw'⟩, ⟨o'', ho'', hw''⟩⟩ := h
  refine ⟨⟨o, ho, ?_⟩, ⟨o', ho', ?_⟩, ⟨o'', ho'', ?_⟩⟩
  ·rw [then_then _ next R Q0]; exact wpList_one_mono (fun a' w' k => ⟨k.1, ihp _ _ k.2⟩) hw
  ·rw [then_then _ next R Q0]; exact wpList_one_mono (fun a' w' k => ⟨k.1, ihq _ _ k.2⟩) hw'
  ·rw [then_then _ next R Q0]; exact wpList_one_mono (fun a' w' k => ⟨k.1, ihr _ _ k.2⟩) hw''
theorem plan_share {Q0 : Exit → Act → World → Prop} {next : Act → World → Prop} {p : Plan} {a : Act} {w : World} (R : Act → Act → World → Prop) (h1 : planWalk P ops (Exit.then (R a) Q0) S p a w) (h2 : ∀ a' w', R a a' w' → next a' w') : planWalk P ops (Exit.then next Q0) S p a w :=
 plan_meet h2 p a w h1
theorem plan_met {Q0 : Exit → Act → World → Prop} {R : Act → World → Prop} {a : Act} {w : World} (h : R a w) : planWalk P ops (Exit.then R Q0) S .done a w := h
end
end Go.My
