/- Contracts and mathematics, joined: Sheet, Sheet2, Mix, Has, RefSheet. Conditions stand with each. -/
import Derived.Below
import Derived.BigQuiet
import Derived.Deep.DeepCutAuto
import Derived.Deep.DeepFit
import Derived.Deep.LoopGhost
import Derived.Deep.QuietTactic
import Derived.Deep.RegionHeld
import Derived.Deep.RegionHeld3
import Derived.Deep.RegionWith
import Derived.Lib.Hide
import Derived.OrdersHeld
import Derived.Test.YtjpekonfjihcoaaGreatDoorProg
import Derived.WalkKit
import Derived.WalkLawsBesides
import Derived.WalkSpells
import Derived.Test.YtjpekonfjihcoaaGreatDoorM2
import Derived.Test.YtjpekonfjihcoaaGreatDoorM1
import Derived.Test.YtjpekonfjihcoaaGreatDoorM3
namespace Go.TintM
end Go.TintM
set_option maxRecDepth 100000
set_option maxHeartbeats 64000000
set_option linter.unusedVariables false
set_option linter.unusedSimpArgs false
/- Contracts: isSheet. No condition. -/
namespace Go.Proofs.YtjpekonfjihcoaaGreatDoor
open Go.RowKit Go.My

/-- The box of a sheet in a call. -/
structure SBx (s : SI) (ot : Option Addr) (cap : Nat) (w W : World) : Prop where
 ext : Ext w W
 tins : TinsAt W ot s.tins
 c : ∀ (i : Nat) (v : Value), (sheetC s ot cap)[i]? = some v → W.cell? ⟨w.heap.size, i, none⟩ = some v
theorem SBx.start {s : SI} {ot : Option Addr} {cap : Nat} {w : World} (h : TinsAt w ot s.tins) : SBx s ot cap w (w.alloc (.cells (sheetC s ot cap) 28)) :=
 ⟨(Ext.refl w).alloc _, h.ext ((Ext.refl w).alloc _), fun i v hv => by rw [cell_of_row _ _ i _ _ _ (heap_alloc_new w _)]; exact hv⟩
theorem SBx.next {s : SI} {ot : Option Addr} {cap : Nat} {w W W' : World} (h : SBx s ot cap w W) (hE : Ext W W') : SBx s ot cap w W' :=
 ⟨h.ext.trans hE, h.tins.ext hE, fun i v hv => cell_ext hE (h.c i v hv)⟩
theorem SBx.old {s : SI} {ot : Option Addr} {cap : Nat} {w W : World} (h : SBx s ot cap w W) {p : Nat} (hp : p < 3) : W.cell? ⟨w.heap.size, p, none⟩ = some (.int .i64 (s.oldI p)) := by
 match p, hp with
 | 0, _ => exact h.c 0 _ rfl
 | 1, _ => exact h.c 1 _ rfl
 | 2, _ => exact h.c 2 _ rfl
theorem SBx.lo {s : SI} {ot : Option Addr} {cap : Nat} {w W : World} (h : SBx s ot cap w W) {p : Nat} (hp : p < 3) : W.cell? ⟨w.heap.size, 3 + p * 2, none⟩ = some (.int .i64 (s.loI p)) ∧ W.cell? ⟨w.heap.size, 3 + p * 2 + 1, none⟩ = some (.int .i64 (s.hiI p)) := by
 match p, hp with
 | 0, _ => exact ⟨h.c 3 _ rfl, h.c 4 _ rfl⟩
 | 1, _ => exact ⟨h.c 5 _ rfl, h.c 6 _ rfl⟩
 | 2, _ => exact ⟨h.c 7 _ rfl, h.c 8 _ rfl⟩

abbrev tinV (x0 x1 x2 x3 x4 x5 : Int) : Value := .agg #[.int .i64 x0, .int .i64 x1, .int .i64 x2, .int .i64 x3, .int .i64 x4, .int .i64 x5]

theorem isSheet1_any (x0 x1 x2 x3 x4 x5 : Int) (B p : Nat) (hp : p < 3) (w : World) (c0 : w.cell? ⟨B, 0, none⟩ = some (.int .i64 p)) :
  Calls Tryz.prog 115 #[tinV x0 x1 x2 x3 x4 x5, .pointer (some ⟨B, 0, none⟩)] w fun e w' => e = .returned (.bool (!tinP p [x0, x1, x2, x3, x4, x5])) ∧ Ext w w' := by
 have hlt := World.block_lt_of_cell? _ _ c0
 have hne := Nat.ne_of_lt hlt
 simp only at hlt hne
 match p, hp with
 | 0, _ =>
  have R := Lib.hid (fun W => isSpan_any x0 x1 99 W)
  go_enter Tryz.func115, Tryz.ntmps115
  go_wp2_with (first | (go_at_call 113; refine (R.out _).mono ?_; rintro e w' ⟨rfl, hE⟩))
  go_ret
  exact ⟨rfl, ((Ext.refl w).alloc _).trans hE⟩
 | 1, _ =>
  have R := Lib.hid (fun W => isSpan_any x2 x3 99 W)
  go_enter Tryz.func115, Tryz.ntmps115
  go_wp2_with (first | (go_at_call 113; refine (R.out _).mono ?_; rintro e w' ⟨rfl, hE⟩))
  go_ret
  exact ⟨rfl, ((Ext.refl w).alloc _).trans hE⟩
 | 2, _ =>
  have R := Lib.hid (fun W => isSpan_any x4 x5 99 W)
  go_enter Tryz.func115, Tryz.ntmps115
  go_wp2_with (first | (go_at_call 113; refine (R.out _).mono ?_; rintro e w' ⟨rfl, hE⟩))
  go_ret
  exact ⟨rfl, ((Ext.refl w).alloc _).trans hE⟩

/-- The place of the first of a list of which something is not so, or -1. -/
def badIx {α : Type} (f : α → Bool) (l : List α) : Int := if l.all f then -1 else (l.findIdx (fun t => !f t) : Int)
theorem badIx_yes {α : Type} {f : α → Bool} {l : List α} {k : Nat} (hk : k < l.length) (h0 : (l.take k).all f = true) (h : f l[k] = false) : badIx f l = k := by
 have h1 : ¬ l.all f = true := fun h2 => by
  have := List.all_eq_true.1 h2 _ (List.getElem_mem hk); simp [h] at this
 rw [badIx, if_neg h1]
 congr 1
 rw [List.findIdx_eq hk]
 refine ⟨by simp [h], fun j hj => ?_⟩
 have := List.all_eq_true.1 h0 l[j] (by rw [List.mem_take_iff_getElem]; exact ⟨j, by omega, rfl⟩)
 simp [this]
theorem badIx_no {α : Type} {f : α → Bool} {l : List α} {k : Nat} (hk : l.length ≤ k) (h0 : (l.take k).all f = true) : badIx f l = -1 := by
 rw [List.take_of_length_le hk] at h0; rw [badIx, if_pos h0]
theorem all_take_succ {α : Type} {f : α → Bool} {l : List α} {k : Nat} (hk : k < l.length) (h0 : (l.take k).all f = true) (h : f l[k] = true) : (l.take (k + 1)).all f = true := by
 rw [List.take_succ_eq_append_getElem hk, List.all_append, h0]; simp [h]
theorem badIx_ge {α : Type} (f : α → Bool) (l : List α) : decide (0 ≤ badIx f l) = !l.all f := by
 unfold badIx
 split
 ·simp [*]
 ·rename_i h
  rw [Bool.not_eq_true] at h
  rw [h]; simp
theorem badIx_lt {α : Type} (f : α → Bool) (l : List α) : -1 ≤ badIx f l := by
 unfold badIx; split <;> omega

theorem indexTins_any (ts : List (List Int)) (ot : Option Addr) (cap B p : Nat) (hp : p < 3) (w : World) (h : TinsAt w ot ts) (hl : ts.length ≤ 9223372036854775807) (c0 : w.cell? ⟨B, 0, none⟩ = some (.int .i64 p)) :
  Calls Tryz.prog 140 #[.slice ot ts.length cap, .func (.func 115) #[] #[.pointer (some ⟨B, 0, none⟩)]] w fun e w' => e = .returned (.int .i64 (badIx (tinP p) ts)) ∧ Ext w w' := by
 have H := Lib.hid h; clear h
 go_enter Tryz.func140, Tryz.ntmps140
 go_wp2
 go_loopg [5, 8] ts.length (fun g j i wr => ∃ k : Nat, k + g = ts.length ∧ Ext w wr ∧ i = .int .i64 k ∧ (ts.take k).all (tinP p) = true)
 case atStart => exact ⟨0, by simp, Ext.refl w, rfl, by simp⟩
 case round =>
  obtain ⟨k, hk, hE, rfl, hx⟩ := hrel
  have Hx := Lib.hid hx; clear hx
  have Hr := Lib.hid (H.out.ext hE)
  by_cases hlt : k < ts.length
  ·obtain ⟨b, off, x0, x1, x2, x3, x4, x5, hot, hb, ht, k0, k1, k2, k3, k4, k5⟩ := Hr.out.at hlt
   subst hot
   have d0 := cell_ext hE c0
   have R := Lib.hid (fun W (hW : Ext wr W) => isSheet1_any x0 x1 x2 x3 x4 x5 B p hp W (cell_ext hW d0))
   rw [← ht] at R
   have Hd := Lib.hid d0
   clear ht d0
   cases hs : tinP p ts[k]
   ·rw [hs] at R
    go_wp2_with (first | (go_at_call 115; refine (R.out _ (Ext.refl _)).mono ?_; rintro e w' ⟨rfl, hE'⟩))
    go_ret
    exact ⟨ret_int (badIx_yes hlt Hx.out hs).symm, hE.trans hE'⟩
   ·rw [hs] at R
    go_wp2_with (first | (go_at_call 115; refine (R.out _ (Ext.refl _)).mono ?_; rintro e w' ⟨rfl, hE'⟩))
    go_roundg (gk - 1)
    case measure => omega
    case rel => exact ⟨k + 1, by omega, hE.trans hE', by go_num, all_take_succ hlt Hx.out hs⟩
  ·go_wp2
   go_ret
   exact ⟨ret_int (badIx_no (by omega) Hx.out).symm, hE⟩

end Go.Proofs.YtjpekonfjihcoaaGreatDoor
/- Contracts: isSheet, Check. No condition. -/
namespace Go.Proofs.YtjpekonfjihcoaaGreatDoor
open Go.RowKit Go.My

theorem containsTins_any (ts : List (List Int)) (ot : Option Addr) (cap B p : Nat) (hp : p < 3) (w : World) (h : TinsAt w ot ts) (hl : ts.length ≤ 9223372036854775807) (c0 : w.cell? ⟨B, 0, none⟩ = some (.int .i64 p)) :
  Calls Tryz.prog 114 #[.slice ot ts.length cap, .func (.func 115) #[] #[.pointer (some ⟨B, 0, none⟩)]] w fun e w' => e = .returned (.bool (!ts.all (tinP p))) ∧ Ext w w' := by
 have H := Lib.hid h; clear h
 have d0 := Lib.hid c0; clear c0
 have hi := badIx_lt (tinP p) ts
 have Hi := Lib.hid (badIx_ge (tinP p) ts)
 go_enter Tryz.func114, Tryz.ntmps114
 go_wp2_with (go_at_call 140; refine (indexTins_any ts ot cap B p hp _ H.out hl d0.out).mono ?_; rintro e w' ⟨rfl, hE⟩)
 go_ret
 exact ⟨ret_bool Hi.out, hE⟩

theorem sheetB_not {s : SI} {p : Nat} (hp : p < 3) (h : colB s p = false) : sheetB s = false := by
 unfold sheetB
 match p, hp with
 | 0, _ => rw [h]; rfl
 | 1, _ => rw [h]; simp
 | 2, _ => rw [h]; simp
theorem sheetB_rest {s : SI} (h : ∀ p, p < 3 → colB s p = true) : sheetB s = restB s := by
 unfold sheetB; rw [h 0 (by omega), h 1 (by omega), h 2 (by omega)]; rfl

theorem isSheet_any (s : SI) (ot : Option Addr) (cap : Nat) (w : World) (h : TinsAt w ot s.tins) (hl : s.tins.length ≤ 9223372036854775807) :
  Calls Tryz.prog 72 #[sheetV s ot cap] w fun e w' => e = .returned (.bool (sheetB s)) ∧ Ext w w' := by
 have S0 := Lib.hid (SBx.start (cap := cap) h)
 clear h
 go_enter Tryz.func72, Tryz.ntmps72
 go_wp2
 go_loopg [3, 4] 3 (fun g a i wr => ∃ k : Nat, k + g = 3 ∧ i = .int .i64 k ∧ SBx s ot cap w wr ∧ ∀ p, p < k → colB s p = true)
 case atStart => exact ⟨0, by simp, rfl, S0.out, fun p h => by omega⟩
 case round =>
  obtain ⟨k, hk, rfl, hS, hx⟩ := hrel
  have S := Lib.hid hS
  have Hx := Lib.hid hx
  clear hS hx S0
  have hqlt : w.heap.size < wr.heap.size := World.block_lt_of_cell? _ _ (S.out.c 0 _ rfl)
  have hqne : w.heap.size ≠ wr.heap.size := by omega
  by_cases hlt : k < 3
  ·have hkI : (k : Int) < 3 := by omega
   have e1 := S.out.old hlt
   have e2 := (S.out.lo hlt).1
   have e3 := (S.out.lo hlt).2
   have e4 : wr.cell? ⟨w.heap.size, 12, none⟩ = some (.slice ot s.tins.length cap) := S.out.c 12 _ rfl
   have Hc := Lib.hid (show colB s k = (inB (s.oldI k) 0 99 && (spanB (s.loI k) (s.hiI k) 9 && s.tins.all (tinP k))) from rfl)
   have Hn := Lib.hid (fun h => sheetB_not (s := s) hlt h)
   have R1 := Lib.hid (fun W => in_any (s.oldI k) 0 99 W)
   have R2 := Lib.hid (fun W => isSpan_any (s.loI k) (s.hiI k) 9 W)
   have R3 := Lib.hid (fun W (hE : Ext wr W) B (c0 : W.cell? ⟨B, 0, none⟩ = some (.int .i64 k)) => containsTins_any s.tins ot cap B k hlt W (S.out.tins.ext hE) hl c0)
   generalize s.oldI k = O at *
   generalize s.loI k = L at *
   generalize s.hiI k = H at *
   cases h1 : inB O 0 99
   ·rw [h1] at R1
    go_wp2_with (first | (go_at_call 79; refine (R1.out _).mono ?_; rintro e w1 ⟨rfl, rfl⟩))
    go_ret
    exact ⟨ret_bool (Hn.out (by rw [Hc.out, h1]; rfl)).symm, S.out.ext.alloc _⟩
   ·rw [h1] at R1
    cases h2 : spanB L H 9
    ·rw [h2] at R2
     go_wp2_with (first | (go_at_call 79; refine (R1.out _).mono ?_; rintro e w1 ⟨rfl, rfl⟩) | (go_at_call 113; refine (R2.out _).mono ?_; rintro e w2 ⟨rfl, hE2⟩; have e4p : w2.cell? ⟨w.heap.size, 12, none⟩ = some (.slice ot s.tins.length cap) := (cell_ext hE2 (by go_simp)); have cB : w2.cell? ⟨wr.heap.size, 0, none⟩ = some (.int .i64 k) := (cell_ext hE2 (by go_simp)); have CB := Lib.hid cB; have HE2 := Lib.hid (((Ext.refl wr).alloc (.cells #[.int .i64 k] 3)).trans hE2); clear hE2 cB))
     go_ret
     exact ⟨ret_bool (Hn.out (by rw [Hc.out, h1, h2]; rfl)).symm, S.out.ext.trans HE2.out⟩
    ·rw [h2] at R2
     cases h3 : s.tins.all (tinP k)
     ·rw [h3] at R3
      go_wp2_with (first | (go_at_call 79; refine (R1.out _).mono ?_; rintro e w1 ⟨rfl, rfl⟩) | (go_at_call 113; refine (R2.out _).mono ?_; rintro e w2 ⟨rfl, hE2⟩; have e4p : w2.cell? ⟨w.heap.size, 12, none⟩ = some (.slice ot s.tins.length cap) := (cell_ext hE2 (by go_simp)); have cB : w2.cell? ⟨wr.heap.size, 0, none⟩ = some (.int .i64 k) := (cell_ext hE2 (by go_simp)); have CB := Lib.hid cB; have HE2 := Lib.hid (((Ext.refl wr).alloc (.cells #[.int .i64 k] 3)).trans hE2); clear hE2 cB) | (go_at_call 114; refine (R3.out _ HE2.out _ CB.out).mono ?_; rintro e w3 ⟨rfl, hE3⟩; have HE3 := Lib.hid (HE2.out.trans hE3); clear hE3))
      go_ret
      exact ⟨ret_bool (Hn.out (by rw [Hc.out, h1, h2, h3]; rfl)).symm, S.out.ext.trans HE3.out⟩
     ·rw [h3] at R3
      have Ht := Lib.hid (show colB s k = true by rw [Hc.out, h1, h2, h3]; rfl)
      clear h1 h2 h3
      go_wp2_with (first | (go_at_call 79; refine (R1.out _).mono ?_; rintro e w1 ⟨rfl, rfl⟩) | (go_at_call 113; refine (R2.out _).mono ?_; rintro e w2 ⟨rfl, hE2⟩; have e4p : w2.cell? ⟨w.heap.size, 12, none⟩ = some (.slice ot s.tins.length cap) := (cell_ext hE2 (by go_simp)); have cB : w2.cell? ⟨wr.heap.size, 0, none⟩ = some (.int .i64 k) := (cell_ext hE2 (by go_simp)); have CB := Lib.hid cB; have HE2 := Lib.hid (((Ext.refl wr).alloc (.cells #[.int .i64 k] 3)).trans hE2); clear hE2 cB) | (go_at_call 114; refine (R3.out _ HE2.out _ CB.out).mono ?_; rintro e w3 ⟨rfl, hE3⟩; have HE3 := Lib.hid (HE2.out.trans hE3); clear hE3))
      go_roundg (gk - 1)
      case measure => omega
      case rel => exact ⟨k + 1, by omega, by go_num, S.out.next HE3.out, fun p hp => by
       rcases Nat.lt_or_eq_of_le (Nat.le_of_lt_succ hp) with hp | rfl
       ·exact Hx.out p hp
       ·exact Ht.out⟩
  ·obtain rfl : k = 3 := by omega
   have f9 : wr.cell? ⟨w.heap.size, 9, none⟩ = some (.int .i64 s.ylo) := S.out.c 9 _ rfl
   have f10 : wr.cell? ⟨w.heap.size, 10, none⟩ = some (.int .i64 s.yhi) := S.out.c 10 _ rfl
   have f11 : wr.cell? ⟨w.heap.size, 11, none⟩ = some (.int .i64 s.off) := S.out.c 11 _ rfl
   have f12 : wr.cell? ⟨w.heap.size, 12, none⟩ = some (.slice ot s.tins.length cap) := S.out.c 12 _ rfl
   have Hr := Lib.hid (show sheetB s = (spanB s.ylo s.yhi 20 && (inB s.off 1 20 && inB (s.tins.length : Int) 1 4)) from sheetB_rest Hx.out)
   have Q1 := Lib.hid (fun W => isSpan_any s.ylo s.yhi 20 W)
   have Q2 := Lib.hid (fun W => in_any s.off 1 20 W)
   have Q3 := Lib.hid (fun W => in_any (s.tins.length : Int) 1 4 W)
   have T2 := Lib.hid trivial
   generalize spanB s.ylo s.yhi 20 = b1 at *
   generalize inB s.off 1 20 = b2 at *
   generalize inB (s.tins.length : Int) 1 4 = b3 at *
   cases b1
   ·go_wp2_with (first | (go_at_call 113; refine (Q1.out _).mono ?_; rintro e w2 ⟨rfl, hE2⟩; have g11 := cell_ext hE2 f11; have g12 := cell_ext hE2 f12; have HE2 := Lib.hid (S.out.ext.trans hE2); clear hE2 f9 f10 f11 f12) | (go_at_call 79; have t0 := T2; clear t0 T2; refine (Q2.out _).mono ?_; rintro e w1 ⟨rfl, rfl⟩) | (go_at_call 79; refine (Q3.out _).mono ?_; rintro e w1 ⟨rfl, rfl⟩))
    go_ret
    exact ⟨ret_bool (by rw [Hr.out]; simp), HE2.out⟩
   ·cases b2
    ·go_wp2_with (first | (go_at_call 113; refine (Q1.out _).mono ?_; rintro e w2 ⟨rfl, hE2⟩; have g11 := cell_ext hE2 f11; have g12 := cell_ext hE2 f12; have HE2 := Lib.hid (S.out.ext.trans hE2); clear hE2 f9 f10 f11 f12) | (go_at_call 79; have t0 := T2; clear t0 T2; refine (Q2.out _).mono ?_; rintro e w1 ⟨rfl, rfl⟩) | (go_at_call 79; refine (Q3.out _).mono ?_; rintro e w1 ⟨rfl, rfl⟩))
     go_ret
     exact ⟨ret_bool (by rw [Hr.out]; simp), HE2.out⟩
    ·go_wp2_with (first | (go_at_call 113; refine (Q1.out _).mono ?_; rintro e w2 ⟨rfl, hE2⟩; have g11 := cell_ext hE2 f11; have g12 := cell_ext hE2 f12; have HE2 := Lib.hid (S.out.ext.trans hE2); clear hE2 f9 f10 f11 f12) | (go_at_call 79; have t0 := T2; clear t0 T2; refine (Q2.out _).mono ?_; rintro e w1 ⟨rfl, rfl⟩) | (go_at_call 79; refine (Q3.out _).mono ?_; rintro e w1 ⟨rfl, rfl⟩))
     go_ret
     exact ⟨ret_bool (by rw [Hr.out]; simp), HE2.out⟩

end Go.Proofs.YtjpekonfjihcoaaGreatDoor
/- Contracts: sums of parts, isMix, the reference's Parts and Mix. No condition beyond lists of at most 1000 numbers. -/
namespace Go.Proofs.YtjpekonfjihcoaaGreatDoor
open Go.RowKit Go.My

def in8 (x : Int) : Bool := inB x 0 8
/-- A mixture. -/
def mixB (s : SI) (l : List Int) : Bool := decide (l.length = s.tins.length) && (l.all in8 && inB l.sum 1 8)
theorem sum_take_succ {l : List Int} {k : Nat} (hk : k < l.length) : (l.take (k + 1)).sum = (l.take k).sum + l[k] := by
 rw [List.take_succ_eq_append_getElem hk, List.sum_append]; simp
theorem sum_small {l : List Int} (h : l.all in8 = true) : ∀ k, 0 ≤ (l.take k).sum ∧ (l.take k).sum ≤ 8 * k := by
 intro k
 induction k with
 | zero => simp
 | succ k ih =>
  by_cases hk : k < l.length
  ·have := List.all_eq_true.1 h _ (List.getElem_mem hk)
   simp only [in8, inB, Bool.and_eq_true, decide_eq_true_eq] at this
   rw [sum_take_succ hk]
   omega
  ·rw [List.take_of_length_le (by omega)]
   rw [List.take_of_length_le (by omega)] at ih
   omega

theorem parts_any (l : List Int) (oa : Option Addr) (cap : Nat) (w : World) (h : IntsAt w oa l) (hl : l.length ≤ 1000) (h8 : l.all in8 = true) :
  Calls Tryz.prog 59 #[.slice oa l.length cap] w fun e w' => e = .returned (.int .i64 l.sum) ∧ w = w' := by
 have H := Lib.hid h
 have H8 := Lib.hid (sum_small h8)
 clear h h8
 go_enter Tryz.func59, Tryz.ntmps59
 go_wp2
 go_loopg [3, 4] l.length (fun g v i wr => ∃ k : Nat, k + g = l.length ∧ wr = w ∧ i = .int .i64 k ∧ v = .int .i64 (l.take k).sum)
 case atStart => exact ⟨0, by simp, rfl, rfl, by simp⟩
 case round =>
  obtain ⟨k, hk, rfl, rfl, rfl⟩ := hrel
  have b1 := H8.out k
  by_cases hlt : k < l.length
  ·obtain ⟨b, off, hob, hb, hc⟩ := H.out.at hlt
   subst hob
   have b2 := H8.out (k + 1)
   have hs := sum_take_succ hlt
   rw [hs] at b2
   have Hs := Lib.hid hs
   clear hs
   generalize (l.take k).sum = S at *
   generalize l[k] = x at *
   have q1 : IntKind.i64.wrap (S + x) = S + x := by rw [IntWalk.i64_in _ (by omega)]
   go_wp2
   go_roundg (gk - 1)
   case measure => omega
   case rel => exact ⟨k + 1, by omega, rfl, by go_num, by rw [Hs.out]⟩
  ·have hs : (l.take k).sum = l.sum := by rw [List.take_of_length_le (by omega)]
   rw [hs]
   go_wp2
   go_ret
   exact ⟨rfl, rfl⟩

theorem sum_any (l : List Int) (oa : Option Addr) (cap : Nat) (w : World) (h : IntsAt w oa l) (hl : l.length ≤ 1000) (h8 : l.all in8 = true) :
  Calls Tryz.prog 75 #[.slice oa l.length cap] w fun e w' => e = .returned (.int .i64 l.sum) ∧ w = w' := by
 have H := Lib.hid h
 have H8 := Lib.hid (sum_small h8)
 clear h h8
 go_enter Tryz.func75, Tryz.ntmps75
 go_wp2
 go_loopg [3, 5, 8] l.length (fun g v x i wr => ∃ k : Nat, k + g = l.length ∧ wr = w ∧ i = .int .i64 k ∧ v = .int .i64 (l.take k).sum)
 case atStart => exact ⟨0, by simp, rfl, rfl, by simp⟩
 case round =>
  obtain ⟨k, hk, rfl, rfl, rfl⟩ := hrel
  have b1 := H8.out k
  by_cases hlt : k < l.length
  ·obtain ⟨b, off, hob, hb, hc⟩ := H.out.at hlt
   subst hob
   have b2 := H8.out (k + 1)
   have hs := sum_take_succ hlt
   rw [hs] at b2
   have Hs := Lib.hid hs
   clear hs
   generalize (l.take k).sum = S at *
   generalize l[k] = x at *
   have q1 : IntKind.i64.wrap (S + x) = S + x := by rw [IntWalk.i64_in _ (by omega)]
   go_wp2
   go_roundg (gk - 1)
   case measure => omega
   case rel => exact ⟨k + 1, by omega, rfl, by go_num, by rw [Hs.out]⟩
  ·have hs : (l.take k).sum = l.sum := by rw [List.take_of_length_le (by omega)]
   rw [hs]
   go_wp2
   go_ret
   exact ⟨rfl, rfl⟩

theorem isMix1_any (x : Int) (w : World) : Calls Tryz.prog 116 #[.int .i64 x] w fun e w' => e = .returned (.bool (!in8 x)) ∧ w = w' := by
 go_enter Tryz.func116, Tryz.ntmps116
 go_wp2_with (go_at_call 79; refine (in_any _ _ _ _).mono ?_; rintro e w' ⟨rfl, rfl⟩)
 go_ret
 exact ⟨rfl, rfl⟩

theorem indexInts_any (l : List Int) (oa : Option Addr) (cap : Nat) (w : World) (h : IntsAt w oa l) (hl : l.length ≤ 9223372036854775807) :
  Calls Tryz.prog 141 #[.slice oa l.length cap, .func (.func 116) #[] #[]] w fun e w' => e = .returned (.int .i64 (badIx in8 l)) ∧ w = w' := by
 have H := Lib.hid h; clear h
 go_enter Tryz.func141, Tryz.ntmps141
 go_wp2
 go_loopg [5, 8] l.length (fun g j i wr => ∃ k : Nat, k + g = l.length ∧ wr = w ∧ i = .int .i64 k ∧ (l.take k).all in8 = true)
 case atStart => exact ⟨0, by simp, rfl, rfl, by simp⟩
 case round =>
  obtain ⟨k, hk, rfl, rfl, hx⟩ := hrel
  have Hx := Lib.hid hx; clear hx
  by_cases hlt : k < l.length
  ·obtain ⟨b, off, hob, hb, hc⟩ := H.out.at hlt
   subst hob
   have R := Lib.hid (fun W => isMix1_any l[k] W)
   cases hs : in8 l[k]
   ·rw [hs] at R
    go_wp2_with (first | (go_at_call 116; refine (R.out _).mono ?_; rintro e w' ⟨rfl, rfl⟩))
    go_ret
    exact ⟨ret_int (badIx_yes hlt Hx.out hs).symm, rfl⟩
   ·rw [hs] at R
    go_wp2_with (first | (go_at_call 116; refine (R.out _).mono ?_; rintro e w' ⟨rfl, rfl⟩))
    go_roundg (gk - 1)
    case measure => omega
    case rel => exact ⟨k + 1, by omega, rfl, by go_num, all_take_succ hlt Hx.out hs⟩
  ·go_wp2
   go_ret
   exact ⟨ret_int (badIx_no (by omega) Hx.out).symm, rfl⟩
theorem containsInts_any (l : List Int) (oa : Option Addr) (cap : Nat) (w : World) (h : IntsAt w oa l) (hl : l.length ≤ 9223372036854775807) :
  Calls Tryz.prog 117 #[.slice oa l.length cap, .func (.func 116) #[] #[]] w fun e w' => e = .returned (.bool (!l.all in8)) ∧ w = w' := by
 have H := Lib.hid h; clear h
 have hi := badIx_lt in8 l
 have Hi := Lib.hid (badIx_ge in8 l)
 go_enter Tryz.func117, Tryz.ntmps117
 go_wp2_with (go_at_call 141; refine (indexInts_any l oa cap _ H.out hl).mono ?_; rintro e w' ⟨rfl, rfl⟩)
 go_ret
 exact ⟨ret_bool Hi.out, rfl⟩

theorem isMix_any (s : SI) (ot : Option Addr) (cap : Nat) (l : List Int) (ol : Option Addr) (cl : Nat) (w : World) (h : IntsAt w ol l) (hl : l.length ≤ 1000) :
  Calls Tryz.prog 73 #[sheetV s ot cap, .slice ol l.length cl] w fun e w' => e = .returned (.bool (mixB s l)) ∧ Ext w w' := by
 have R1 := Lib.hid (fun W (hE : Ext w W) => containsInts_any l ol cl W (h.ext hE) (by omega))
 have R2 := Lib.hid (fun (h8 : l.all in8 = true) W (hE : Ext w W) => sum_any l ol cl W (h.ext hE) hl h8)
 have R3 := Lib.hid (fun W => in_any l.sum 1 8 W)
 have Hd := Lib.hid (show mixB s l = (decide (l.length = s.tins.length) && (l.all in8 && inB l.sum 1 8)) from rfl)
 clear h
 by_cases hq : l.length = s.tins.length
 ·have hqI : ((l.length : Int) == (s.tins.length : Int)) = true := by simp [hq]
  have hqd : decide (l.length = s.tins.length) = true := decide_eq_true hq
  cases h8 : l.all in8
  ·rw [h8] at R1
   rw [hqd, h8] at Hd
   clear hq hqd R2 h8
   go_enter Tryz.func73, Tryz.ntmps73
   go_wp2_with (first | (go_at_call 117; refine (R1.out _ ((Ext.refl w).alloc _)).mono ?_; rintro e w' ⟨rfl, rfl⟩))
   go_ret
   exact ⟨ret_bool (by rw [Hd.out]; rfl), (Ext.refl w).alloc _⟩
  ·rw [h8] at R1
   rw [hqd, h8] at Hd
   replace R2 := Lib.hid (R2.out h8)
   clear hq hqd h8
   go_enter Tryz.func73, Tryz.ntmps73
   go_wp2_with (first | (go_at_call 117; refine (R1.out _ ((Ext.refl w).alloc _)).mono ?_; rintro e w' ⟨rfl, rfl⟩) | (go_at_call 75; refine (R2.out _ ((Ext.refl w).alloc _)).mono ?_; rintro e w' ⟨rfl, rfl⟩) | (go_at_call 79; refine (R3.out _).mono ?_; rintro e w' ⟨rfl, rfl⟩))
   go_ret
   exact ⟨ret_bool (by rw [Hd.out]; rfl), (Ext.refl w).alloc _⟩
 ·have hqI : ((l.length : Int) == (s.tins.length : Int)) = false := by simpa using (by omega : ¬ (l.length : Int) = (s.tins.length : Int))
  have hqd : decide (l.length = s.tins.length) = false := decide_eq_false hq
  rw [hqd] at Hd
  go_enter Tryz.func73, Tryz.ntmps73
  go_wp2
  go_ret
  exact ⟨ret_bool (by rw [Hd.out]; rfl), (Ext.refl w).alloc _⟩

end Go.Proofs.YtjpekonfjihcoaaGreatDoor
/- Contracts: sums of amounts, least, greatest. No condition beyond sheets and mixtures as defined. -/
namespace Go.Proofs.YtjpekonfjihcoaaGreatDoor
open Go.RowKit Go.My Go.TintM

theorem i3 : (Tryz.prog.info? 3).map (fun i => (i.zero, i.size, i.bytes)) = some (some (.int .i64 0), 1, 8) := by kernel_rfl
/-- A sheet with a mixture. -/
abbrev potC (s : Sh) (ot : Option Addr) (cap : Nat) (om : Option Addr) (n cm : Nat) : Array Value :=
 #[.int .i64 (ofSh s).o0, .int .i64 (ofSh s).o1, .int .i64 (ofSh s).o2, .int .i64 (ofSh s).a0, .int .i64 (ofSh s).b0, .int .i64 (ofSh s).a1, .int .i64 (ofSh s).b1, .int .i64 (ofSh s).a2, .int .i64 (ofSh s).b2, .int .i64 (ofSh s).ylo, .int .i64 (ofSh s).yhi, .int .i64 (ofSh s).off, .slice ot (ofSh s).tins.length cap, .slice om n cm]
abbrev potV (s : Sh) (ot : Option Addr) (cap : Nat) (om : Option Addr) (n cm : Nat) : Value := .agg (potC s ot cap om n cm)

theorem sum_grow {l : List Int} (h : ∀ x ∈ l, 0 ≤ x ∧ x ≤ 10000) : ∀ k, 0 ≤ (l.take k).sum ∧ (l.take k).sum ≤ 10000 * k := by
 intro k
 induction k with
 | zero => simp
 | succ k ih =>
  by_cases hk : k < l.length
  ·have := h _ (List.getElem_mem hk)
   rw [sum_take_succ hk]
   omega
  ·rw [List.take_of_length_le (by omega)]
   rw [List.take_of_length_le (by omega)] at ih
   omega
theorem sumB_any (l : List Int) (oa : Option Addr) (cap : Nat) (w : World) (h : IntsAt w oa l) (hl : l.length ≤ 1000) (h8 : ∀ x ∈ l, 0 ≤ x ∧ x ≤ 10000) :
  Calls Tryz.prog 75 #[.slice oa l.length cap] w fun e w' => e = .returned (.int .i64 l.sum) ∧ w = w' := by
 have H := Lib.hid h
 have H8 := Lib.hid (sum_grow h8)
 clear h h8
 go_enter Tryz.func75, Tryz.ntmps75
 go_wp2
 go_loopg [3, 5, 8] l.length (fun g v x i wr => ∃ k : Nat, k + g = l.length ∧ wr = w ∧ i = .int .i64 k ∧ v = .int .i64 (l.take k).sum)
 case atStart => exact ⟨0, by simp, rfl, rfl, by simp⟩
 case round =>
  obtain ⟨k, hk, rfl, rfl, rfl⟩ := hrel
  have b1 := H8.out k
  by_cases hlt : k < l.length
  ·obtain ⟨b, off, hob, hb, hc⟩ := H.out.at hlt
   subst hob
   have b2 := H8.out (k + 1)
   have hs := sum_take_succ hlt
   rw [hs] at b2
   have Hs := Lib.hid hs
   clear hs
   generalize (l.take k).sum = S at *
   generalize l[k] = x at *
   have q1 : IntKind.i64.wrap (S + x) = S + x := by rw [IntWalk.i64_in _ (by omega)]
   go_wp2
   go_roundg (gk - 1)
   case measure => omega
   case rel => exact ⟨k + 1, by omega, rfl, by go_num, by rw [Hs.out]⟩
  ·have hs : (l.take k).sum = l.sum := by rw [List.take_of_length_le (by omega)]
   rw [hs]
   go_wp2
   go_ret
   exact ⟨rfl, rfl⟩

theorem sum_up (l : List Nat) : (upL l).sum = (l.sum : Nat) := by
 induction l with
 | nil => rfl
 | cons x l ih => simp only [upL, List.map_cons, List.sum_cons, Int.natCast_add] at ih ⊢; rw [ih]
theorem tin_cell {s : Sh} {w : World} {ot : Option Addr} (h : TinsAt w ot (ofSh s).tins) (g : Fine s) {i p : Nat} (hi : i < s.tins.length) (hp : p < 3) :
  ∃ b off, ot = some ⟨b, off, none⟩ ∧ b < w.heap.size ∧ w.cell? ⟨b, off + i * 6 + p * 2, none⟩ = some (.int .i64 (tlo (s.tins.getD i []) p)) ∧ w.cell? ⟨b, off + i * 6 + p * 2 + 1, none⟩ = some (.int .i64 (thi (s.tins.getD i []) p)) := by
 have e : s.tins.getD i [] = s.tins[i] := by simp [List.getD, hi]
 obtain ⟨b, off, h1, h2, h3, h4⟩ := h i (upL s.tins[i]) (by simp [ofSh, hi])
 rw [upL_length] at h3
 rw [e]
 refine ⟨b, off, h1, h2, h4 (p * 2) _ ?_, h4 (p * 2 + 1) _ ?_⟩
 ·simp only [tlo, upL]
  rw [List.getElem?_map, List.getElem?_eq_getElem (show p * 2 < s.tins[i].length by omega)]
  simp only [Option.map_some, List.getD_eq_getElem?_getD, Nat.mul_comm 2 p, List.getElem?_eq_getElem (show p * 2 < s.tins[i].length by omega), Option.getD_some]
 ·simp only [thi, upL]
  rw [List.getElem?_map, List.getElem?_eq_getElem (show p * 2 + 1 < s.tins[i].length by omega)]
  simp only [Option.map_some, List.getD_eq_getElem?_getD, Nat.mul_comm 2 p, List.getElem?_eq_getElem (show p * 2 + 1 < s.tins[i].length by omega), Option.getD_some]
theorem tins_len (s : Sh) : (ofSh s).tins.length = s.tins.length := by simp [ofSh]

/-- The amounts of the first k tins. -/
def lowL (s : Sh) (m : List Nat) (p k : Nat) : List Nat := (List.range k).map fun i => m.getD i 0 * tlo (s.tins.getD i []) p
theorem lowL_succ (s : Sh) (m : List Nat) (p k : Nat) : lowL s m p (k + 1) = lowL s m p k ++ [m.getD k 0 * tlo (s.tins.getD k []) p] := by simp [lowL, List.range_succ]
theorem lowL_len (s : Sh) (m : List Nat) (p k : Nat) : (lowL s m p k).length = k := by simp [lowL]

theorem least_any (s : Sh) (g : Fine s) (m : List Nat) (hm : IsMix s m) (ot : Option Addr) (cap : Nat) (om : Option Addr) (cm p : Nat) (hp : p < 3) (w : World) (h : TinsAt w ot (ofSh s).tins) (hi : IntsAt w om (upL m)) :
  Calls Tryz.prog 121 #[potV s ot cap om m.length cm, .int .i64 p] w fun e w' => e = .returned (.int .i64 (lowS s m p : Nat)) ∧ Ext w w' := by
 have hm4 : m.length ≤ 4 := by have := g.len2; have := hm.len; omega
 have Hml := Lib.hid hm.len
 have H := Lib.hid h
 have Hi := Lib.hid hi
 have Hc := Lib.hid (fun W (hW : Ext w W) i (hi : i < m.length) => tin_cell (H.out.ext hW) g (i := i) (p := p) (by have := Hml.out; omega) hp)
 have Hm8 := Lib.hid (fun i (hi : i < m.length) => (show m.getD i 0 ≤ 8 from by have := hm.le m[i] (List.getElem_mem hi); simpa [List.getD, hi] using this))
 have Ht9 := Lib.hid (fun i (hi : i < m.length) => (show tlo (s.tins.getD i []) p ≤ 99 from by
  have hi' : i < s.tins.length := by have := Hml.out; omega
  have := g.tin (s.tins.getD i []) (by simp [List.getD, hi']) p hp
  omega))
 have hpI : (p : Int) < 3 := by omega
 clear h hi hm g
 go_enter Tryz.func121, Tryz.ntmps121
 go_wp2
 obtain ⟨w0, hw0⟩ : ∃ w0, w0 = w.alloc (.cells (potC s ot cap om m.length cm) 108) := ⟨_, rfl⟩
 have hE0 : Ext w w0 := by rw [hw0]; exact (Ext.refl w).alloc _
 have c12 : w0.cell? ⟨w.heap.size, 12, none⟩ = some (.slice ot (ofSh s).tins.length cap) := by rw [hw0]; go_simp
 have hw0l : w.heap.size + 1 ≤ w0.heap.size := by rw [hw0]; simp
 rw [← hw0]
 clear hw0
 rw [tins_len] at c12
 have C12 := Lib.hid c12
 have HE0 := Lib.hid hE0
 clear c12 hE0
 go_loopg [5, 6, 7, 11] m.length (fun g v a b c wr => ∃ k : Nat, k + g = m.length ∧ c = .int .i64 k ∧ Ext w0 wr ∧ My.Own wr w0.heap.size 3 v ((upL (lowL s m p k)).map (Value.int .i64)))
 case atStart => exact ⟨0, by simp, rfl, Ext.refl _, Own.nil _ _ _⟩
 case round =>
  obtain ⟨k, hk, rfl, hE, hown⟩ := hrel
  have Hown := Lib.hid hown
  have c12 := cell_ext hE C12.out
  have HE := Lib.hid hE
  have hsz := hE.size
  clear hown
  by_cases hlt : k < m.length
  ·obtain ⟨bm, om2, hbm, _, hcm⟩ := (Hi.out.ext (HE0.out.trans hE)).at (k := k) (by rw [upL_length]; exact hlt)
   subst hbm
   rw [show (upL m)[k]'(by rw [upL_length]; exact hlt) = ((m.getD k 0 : Nat) : Int) by simp [upL, List.getD, hlt]] at hcm
   obtain ⟨bt, ot2, hbt, _, u0, u1⟩ := Hc.out _ (HE0.out.trans hE) k hlt
   subst hbt
   have h8 := Hm8.out k hlt
   have h9 := Ht9.out k hlt
   have hmul := Nat.mul_le_mul h8 h9
   have Hs := Lib.hid (lowL_succ s m p k)
   have hll := lowL_len s m p k
   have htk : (k : Int) < (s.tins.length : Int) := by have := Hml.out; omega
   have htk2 : k < s.tins.length := by have := Hml.out; omega
   clear hE
   generalize m.getD k 0 = X at *
   obtain ⟨Y, hY⟩ : ∃ Y, Y = tlo (s.tins.getD k []) p := ⟨_, rfl⟩
   rw [← hY] at u0 h9 hmul Hs
   clear hY
   have hmi : ((X * Y : Nat) : Int) = (X : Int) * (Y : Int) := Int.natCast_mul X Y
   have q1 : IntKind.i64.wrap ((X : Int) * (Y : Int)) = ((X * Y : Nat) : Int) := by rw [← hmi, IntWalk.i64_in _ (by omega)]
   clear hmi
   generalize X * Y = Z at *
   go_wp2_with (first | (at_builtin; refine wpList_app1 _ rfl _ _ 29 rfl 3 Tryz.underlying29 (.int .i64 0) 8 i3 rfl (by decide) w0.heap.size _ _ rfl (Hown.out.ext ((Ext.refl _).alloc _)) wr.heap.size (.int .i64 Z) rfl (by go_simp) rfl ?_ ?_ ?_))
   ·rw [List.length_map, upL_length, hll]; omega
   ·simp; omega
   ·intro v' w2 hown2 hBl _
    have Ho2 := Lib.hid hown2; clear hown2
    go_wp2
    go_roundg (gk - 1)
    case measure => omega
    case rel => exact ⟨k + 1, by omega, by go_num, (HE.out.alloc _).below hBl (Nat.le_refl _), by rw [Hs.out]; simpa [upL] using Ho2.out⟩
  ·obtain rfl : k = m.length := by omega
   obtain ⟨oN, cN, hvN, n1, n2, n3, n4⟩ := Hown.out.slice
   have hint := (Hown.out.ints)
   rw [List.length_map, upL_length] at hvN n1
   subst hvN
   have hsum := fun W (hW : Ext wr W) => sumB_any (upL (lowL s m p m.length)) oN cN W (by
    obtain ⟨o', c', e, _, _, _, hh⟩ := hint
    simp only [Value.slice.injEq] at e
    rw [e.1]; exact hh.ext hW) (by rw [upL_length, lowL_len]; omega) (fun x hx => by
    obtain ⟨n, hn, rfl⟩ := List.mem_map.1 hx
    obtain ⟨i, hi, rfl⟩ := List.mem_map.1 hn
    have hi := List.mem_range.1 hi
    have := Nat.mul_le_mul (Hm8.out i hi) (Ht9.out i hi)
    omega)
   rw [upL_length, sum_up] at hsum
   have Hsum := Lib.hid hsum
   have Hto := Lib.hid (show lowS s m p = (lowL s m p m.length).sum from rfl)
   clear hsum n4 hint Hown hE
   rw [lowL_len] at *
   go_wp2_with (first | (go_at_call 75; refine (Hsum.out _ (Ext.refl wr)).mono ?_; rintro e w3 ⟨rfl, rfl⟩))
   go_ret
   exact ⟨by rw [Hto.out]; rfl, HE0.out.trans HE.out⟩

/-- The amounts of the first k tins. -/
def highL (s : Sh) (m : List Nat) (p k : Nat) : List Nat := (List.range k).map fun i => m.getD i 0 * thi (s.tins.getD i []) p
theorem highL_succ (s : Sh) (m : List Nat) (p k : Nat) : highL s m p (k + 1) = highL s m p k ++ [m.getD k 0 * thi (s.tins.getD k []) p] := by simp [highL, List.range_succ]
theorem highL_len (s : Sh) (m : List Nat) (p k : Nat) : (highL s m p k).length = k := by simp [highL]

theorem greatest_any (s : Sh) (g : Fine s) (m : List Nat) (hm : IsMix s m) (ot : Option Addr) (cap : Nat) (om : Option Addr) (cm p : Nat) (hp : p < 3) (w : World) (h : TinsAt w ot (ofSh s).tins) (hi : IntsAt w om (upL m)) :
  Calls Tryz.prog 122 #[potV s ot cap om m.length cm, .int .i64 p] w fun e w' => e = .returned (.int .i64 (highS s m p : Nat)) ∧ Ext w w' := by
 have hm4 : m.length ≤ 4 := by have := g.len2; have := hm.len; omega
 have Hml := Lib.hid hm.len
 have H := Lib.hid h
 have Hi := Lib.hid hi
 have Hc := Lib.hid (fun W (hW : Ext w W) i (hi : i < m.length) => tin_cell (H.out.ext hW) g (i := i) (p := p) (by have := Hml.out; omega) hp)
 have Hm8 := Lib.hid (fun i (hi : i < m.length) => (show m.getD i 0 ≤ 8 from by have := hm.le m[i] (List.getElem_mem hi); simpa [List.getD, hi] using this))
 have Ht9 := Lib.hid (fun i (hi : i < m.length) => (show thi (s.tins.getD i []) p ≤ 99 from by
  have hi' : i < s.tins.length := by have := Hml.out; omega
  have := g.tin (s.tins.getD i []) (by simp [List.getD, hi']) p hp
  omega))
 have hpI : (p : Int) < 3 := by omega
 clear h hi hm g
 go_enter Tryz.func122, Tryz.ntmps122
 go_wp2
 obtain ⟨w0, hw0⟩ : ∃ w0, w0 = w.alloc (.cells (potC s ot cap om m.length cm) 108) := ⟨_, rfl⟩
 have hE0 : Ext w w0 := by rw [hw0]; exact (Ext.refl w).alloc _
 have c12 : w0.cell? ⟨w.heap.size, 12, none⟩ = some (.slice ot (ofSh s).tins.length cap) := by rw [hw0]; go_simp
 have hw0l : w.heap.size + 1 ≤ w0.heap.size := by rw [hw0]; simp
 rw [← hw0]
 clear hw0
 rw [tins_len] at c12
 have C12 := Lib.hid c12
 have HE0 := Lib.hid hE0
 clear c12 hE0
 go_loopg [5, 6, 7, 11] m.length (fun g v a b c wr => ∃ k : Nat, k + g = m.length ∧ c = .int .i64 k ∧ Ext w0 wr ∧ My.Own wr w0.heap.size 3 v ((upL (highL s m p k)).map (Value.int .i64)))
 case atStart => exact ⟨0, by simp, rfl, Ext.refl _, Own.nil _ _ _⟩
 case round =>
  obtain ⟨k, hk, rfl, hE, hown⟩ := hrel
  have Hown := Lib.hid hown
  have c12 := cell_ext hE C12.out
  have HE := Lib.hid hE
  have hsz := hE.size
  clear hown
  by_cases hlt : k < m.length
  ·obtain ⟨bm, om2, hbm, _, hcm⟩ := (Hi.out.ext (HE0.out.trans hE)).at (k := k) (by rw [upL_length]; exact hlt)
   subst hbm
   rw [show (upL m)[k]'(by rw [upL_length]; exact hlt) = ((m.getD k 0 : Nat) : Int) by simp [upL, List.getD, hlt]] at hcm
   obtain ⟨bt, ot2, hbt, _, u0, u1⟩ := Hc.out _ (HE0.out.trans hE) k hlt
   subst hbt
   have h8 := Hm8.out k hlt
   have h9 := Ht9.out k hlt
   have hmul := Nat.mul_le_mul h8 h9
   have Hs := Lib.hid (highL_succ s m p k)
   have hll := highL_len s m p k
   have htk : (k : Int) < (s.tins.length : Int) := by have := Hml.out; omega
   have htk2 : k < s.tins.length := by have := Hml.out; omega
   clear hE
   generalize m.getD k 0 = X at *
   obtain ⟨Y, hY⟩ : ∃ Y, Y = thi (s.tins.getD k []) p := ⟨_, rfl⟩
   rw [← hY] at u1 h9 hmul Hs
   clear hY
   have hmi : ((X * Y : Nat) : Int) = (X : Int) * (Y : Int) := Int.natCast_mul X Y
   have q1 : IntKind.i64.wrap ((X : Int) * (Y : Int)) = ((X * Y : Nat) : Int) := by rw [← hmi, IntWalk.i64_in _ (by omega)]
   clear hmi
   generalize X * Y = Z at *
   go_wp2_with (first | (at_builtin; refine wpList_app1 _ rfl _ _ 29 rfl 3 Tryz.underlying29 (.int .i64 0) 8 i3 rfl (by decide) w0.heap.size _ _ rfl (Hown.out.ext ((Ext.refl _).alloc _)) wr.heap.size (.int .i64 Z) rfl (by go_simp) rfl ?_ ?_ ?_))
   ·rw [List.length_map, upL_length, hll]; omega
   ·simp; omega
   ·intro v' w2 hown2 hBl _
    have Ho2 := Lib.hid hown2; clear hown2
    go_wp2
    go_roundg (gk - 1)
    case measure => omega
    case rel => exact ⟨k + 1, by omega, by go_num, (HE.out.alloc _).below hBl (Nat.le_refl _), by rw [Hs.out]; simpa [upL] using Ho2.out⟩
  ·obtain rfl : k = m.length := by omega
   obtain ⟨oN, cN, hvN, n1, n2, n3, n4⟩ := Hown.out.slice
   have hint := (Hown.out.ints)
   rw [List.length_map, upL_length] at hvN n1
   subst hvN
   have hsum := fun W (hW : Ext wr W) => sumB_any (upL (highL s m p m.length)) oN cN W (by
    obtain ⟨o', c', e, _, _, _, hh⟩ := hint
    simp only [Value.slice.injEq] at e
    rw [e.1]; exact hh.ext hW) (by rw [upL_length, highL_len]; omega) (fun x hx => by
    obtain ⟨n, hn, rfl⟩ := List.mem_map.1 hx
    obtain ⟨i, hi, rfl⟩ := List.mem_map.1 hn
    have hi := List.mem_range.1 hi
    have := Nat.mul_le_mul (Hm8.out i hi) (Ht9.out i hi)
    omega)
   rw [upL_length, sum_up] at hsum
   have Hsum := Lib.hid hsum
   have Hto := Lib.hid (show highS s m p = (highL s m p m.length).sum from rfl)
   clear hsum n4 hint Hown hE
   rw [highL_len] at *
   go_wp2_with (first | (go_at_call 75; refine (Hsum.out _ (Ext.refl wr)).mono ?_; rintro e w3 ⟨rfl, rfl⟩))
   go_ret
   exact ⟨by rw [Hto.out]; rfl, HE0.out.trans HE.out⟩

end Go.Proofs.YtjpekonfjihcoaaGreatDoor
/- Contracts of the reference: Off, Sheet, Mix; Check. No condition beyond lists of at most 1000 numbers. -/
namespace Go.Proofs.YtjpekonfjihcoaaGreatDoor
open Go.RowKit Go.My

theorem roff_any (x : Int) (w : World) : Calls Tryz.prog 49 #[.int .i64 x] w fun e w' => e = .returned (.bool (inB x 1 20)) ∧ w = w' := by
 go_enter Tryz.func49, Tryz.ntmps49
 go_wp2_with (go_at_call 81; refine (rin_any _ _ _ _).mono ?_; rintro e w' ⟨rfl, rfl⟩)
 go_ret
 exact ⟨rfl, rfl⟩
theorem check_any (s : SI) (ot : Option Addr) (cap : Nat) (w : World) (h : TinsAt w ot s.tins) (hl : s.tins.length ≤ 9223372036854775807) :
  Calls Tryz.prog 60 #[sheetV s ot cap] w fun e w' => e = .returned (.int .i64 (if sheetB s = true then 0 else 2)) ∧ Ext w w' := by
 have R := Lib.hid (fun W (hE : Ext w W) => isSheet_any s ot cap W (h.ext hE) hl)
 clear h
 generalize sheetB s = b at *
 cases b
 ·go_enter Tryz.func60, Tryz.ntmps60
  go_wp2_with (go_at_call 72; refine (R.out _ ((Ext.refl w).alloc _)).mono ?_; rintro e w' ⟨rfl, hE⟩)
  go_ret
  exact ⟨rfl, ((Ext.refl w).alloc _).trans hE⟩
 ·go_enter Tryz.func60, Tryz.ntmps60
  go_wp2_with (go_at_call 72; refine (R.out _ ((Ext.refl w).alloc _)).mono ?_; rintro e w' ⟨rfl, hE⟩)
  go_ret
  exact ⟨rfl, ((Ext.refl w).alloc _).trans hE⟩

theorem sheetB_norest {s : SI} (h : restB s = false) : sheetB s = false := by
 unfold sheetB; rw [h, Bool.and_false]

theorem rSheet_any (s : SI) (ot : Option Addr) (cap : Nat) (w : World) (h : TinsAt w ot s.tins) (hl : s.tins.length ≤ 9223372036854775807) :
  Calls Tryz.prog 24 #[sheetV s ot cap] w fun e w' => e = .returned (.bool (sheetB s)) ∧ Ext w w' := by
 have S0 := Lib.hid (SBx.start (cap := cap) h)
 have Hr := Lib.hid (show restB s = (spanB s.ylo s.yhi 20 && (inB s.off 1 20 && inB (s.tins.length : Int) 1 4)) from rfl)
 have Hn := Lib.hid (fun h => sheetB_norest (s := s) h)
 have Hy := Lib.hid (fun h => sheetB_rest (s := s) h)
 have Q1 := Lib.hid (fun W => rspan_any s.ylo s.yhi 20 W)
 have Q2 := Lib.hid (fun W => roff_any s.off W)
 have Q3 := Lib.hid (fun W => rin_any (s.tins.length : Int) 1 4 W)
 have T2 := Lib.hid trivial
 clear h
 have f12 : (w.alloc (.cells (sheetC s ot cap) 28)).cell? ⟨w.heap.size, 12, none⟩ = some (.slice ot s.tins.length cap) := S0.out.c 12 _ rfl
 have f11 : (w.alloc (.cells (sheetC s ot cap) 28)).cell? ⟨w.heap.size, 11, none⟩ = some (.int .i64 s.off) := S0.out.c 11 _ rfl
 generalize h1 : spanB s.ylo s.yhi 20 = b1 at *
 generalize h2 : inB s.off 1 20 = b2 at *
 generalize h3 : inB (s.tins.length : Int) 1 4 = b3 at *
 cases b1
 ·clear h1 h2 h3
  go_enter Tryz.func24, Tryz.ntmps24; go_wp2_with (first | (go_at_call 80; refine (Q1.out _).mono ?_; rintro e w2 ⟨rfl, hE2⟩; have g11 := cell_ext hE2 f11; have g12 := cell_ext hE2 f12; have HE2 := Lib.hid (S0.out.ext.trans hE2); have S := Lib.hid (S0.out.next hE2); clear hE2 f11 f12) | (go_at_call 49; refine (Q2.out _).mono ?_; rintro e w1 ⟨rfl, rfl⟩) | (go_at_call 81; refine (Q3.out _).mono ?_; rintro e w1 ⟨rfl, rfl⟩))
  go_ret
  exact ⟨ret_bool (Hn.out (by rw [Hr.out]; rfl)).symm, HE2.out⟩
 ·cases b2
  ·clear h1 h2 h3
   go_enter Tryz.func24, Tryz.ntmps24; go_wp2_with (first | (go_at_call 80; refine (Q1.out _).mono ?_; rintro e w2 ⟨rfl, hE2⟩; have g11 := cell_ext hE2 f11; have g12 := cell_ext hE2 f12; have HE2 := Lib.hid (S0.out.ext.trans hE2); have S := Lib.hid (S0.out.next hE2); clear hE2 f11 f12) | (go_at_call 49; refine (Q2.out _).mono ?_; rintro e w1 ⟨rfl, rfl⟩) | (go_at_call 81; refine (Q3.out _).mono ?_; rintro e w1 ⟨rfl, rfl⟩))
   go_ret
   exact ⟨ret_bool (Hn.out (by rw [Hr.out]; rfl)).symm, HE2.out⟩
  ·cases b3
   ·clear h1 h2 h3
    go_enter Tryz.func24, Tryz.ntmps24; go_wp2_with (first | (go_at_call 80; refine (Q1.out _).mono ?_; rintro e w2 ⟨rfl, hE2⟩; have g11 := cell_ext hE2 f11; have g12 := cell_ext hE2 f12; have HE2 := Lib.hid (S0.out.ext.trans hE2); have S := Lib.hid (S0.out.next hE2); clear hE2 f11 f12) | (go_at_call 49; refine (Q2.out _).mono ?_; rintro e w1 ⟨rfl, rfl⟩) | (go_at_call 81; refine (Q3.out _).mono ?_; rintro e w1 ⟨rfl, rfl⟩))
    go_ret
    exact ⟨ret_bool (Hn.out (by rw [Hr.out]; rfl)).symm, HE2.out⟩
   ·clear h1 h2 h3
    go_enter Tryz.func24, Tryz.ntmps24; go_wp2_with (first | (go_at_call 80; refine (Q1.out _).mono ?_; rintro e w2 ⟨rfl, hE2⟩; have g11 := cell_ext hE2 f11; have g12 := cell_ext hE2 f12; have HE2 := Lib.hid (S0.out.ext.trans hE2); have S := Lib.hid (S0.out.next hE2); clear hE2 f11 f12) | (go_at_call 49; refine (Q2.out _).mono ?_; rintro e w1 ⟨rfl, rfl⟩) | (go_at_call 81; refine (Q3.out _).mono ?_; rintro e w1 ⟨rfl, rfl⟩))
    clear Q1 Q2 Q3 g11 g12
    replace Hy := Lib.hid (fun h => (Hy.out h).trans (Hr.out.trans rfl))
    go_loopg [3, 4] 3 (fun g i j wr => ∃ k : Nat, k + g = 3 ∧ i = .int .i64 k ∧ SBx s ot cap w wr ∧ ∀ p, p < k → colB s p = true)
    case atStart => exact ⟨0, by simp, rfl, S.out, fun p h => by omega⟩
    case round =>
     obtain ⟨k, hk, rfl, hS, hx⟩ := hrel
     replace S := Lib.hid hS
     have Hx := Lib.hid hx
     clear hS hx S0
     by_cases hlt : k < 3
     ·have hkI : (k : Int) < 3 := by omega
      have e1 := S.out.old hlt
      have e2 := (S.out.lo hlt).1
      have e3 := (S.out.lo hlt).2
      have e4 : wr.cell? ⟨w.heap.size, 12, none⟩ = some (.slice ot s.tins.length cap) := S.out.c 12 _ rfl
      have Hc := Lib.hid (show colB s k = (inB (s.oldI k) 0 99 && (spanB (s.loI k) (s.hiI k) 9 && s.tins.all (tinP k))) from rfl)
      have Hn2 := Lib.hid (fun h => sheetB_not (s := s) hlt h)
      have R1 := Lib.hid (fun W => rin_any (s.oldI k) 0 99 W)
      have R2 := Lib.hid (fun W => rspan_any (s.loI k) (s.hiI k) 9 W)
      generalize s.oldI k = O at *
      generalize s.loI k = L at *
      generalize s.hiI k = H at *
      cases h1 : inB O 0 99
      ·rw [h1] at R1
       go_wp2_with (first | (go_at_call 81; refine (R1.out _).mono ?_; rintro e w1 ⟨rfl, rfl⟩))
       go_ret
       exact ⟨ret_bool (Hn2.out (by rw [Hc.out, h1]; rfl)).symm, S.out.ext⟩
      ·rw [h1] at R1
       cases h2 : spanB L H 9
       ·rw [h2] at R2
        go_wp2_with (first | (go_at_call 81; refine (R1.out _).mono ?_; rintro e w1 ⟨rfl, rfl⟩) | (go_at_call 80; refine (R2.out _).mono ?_; rintro e w2 ⟨rfl, hE2⟩; have HE2 := Lib.hid (S.out.ext.trans hE2); clear hE2))
        go_ret
        exact ⟨ret_bool (Hn2.out (by rw [Hc.out, h1, h2]; rfl)).symm, HE2.out⟩
       ·rw [h2] at R2
        obtain ⟨go, rfl⟩ : ∃ g : Nat, g = gk := ⟨_, rfl⟩
        go_wp2_with (first | (go_at_call 81; refine (R1.out _).mono ?_; rintro e w1 ⟨rfl, rfl⟩) | (go_at_call 80; refine (R2.out _).mono ?_; rintro e w2 ⟨rfl, hE2⟩; replace S := Lib.hid (S.out.next hE2); clear hE2 e1 e2 e3 e4))
        go_loopg [4] s.tins.length (fun g j wr => ∃ i : Nat, i + g = s.tins.length ∧ j = .int .i64 i ∧ SBx s ot cap w wr ∧ (s.tins.take i).all (tinP k) = true)
        case atStart => exact ⟨0, by simp, rfl, S.out, by simp⟩
        case round =>
         obtain ⟨i, hi, rfl, hS, hall⟩ := hrel
         replace S := Lib.hid hS
         have Ha := Lib.hid hall
         clear hS hall
         have e4 : wr.cell? ⟨w.heap.size, 12, none⟩ = some (.slice ot s.tins.length cap) := S.out.c 12 _ rfl
         by_cases hil : i < s.tins.length
         ·obtain ⟨b, off, hot, hb, h6, hcell⟩ := S.out.tins i s.tins[i] (by simp [hil])
          subst hot
          have u0 := hcell (k * 2) (s.tins[i].getD (2 * k) 0) (by rw [Nat.mul_comm]; simp [List.getD, show 2 * k < s.tins[i].length by omega])
          have u1 := hcell (k * 2 + 1) (s.tins[i].getD (2 * k + 1) 0) (by rw [Nat.mul_comm]; simp [List.getD, show 2 * k + 1 < s.tins[i].length by omega])
          rw [← Nat.add_assoc] at u1
          have Hp := Lib.hid (show tinP k s.tins[i] = spanB (s.tins[i].getD (2 * k) 0) (s.tins[i].getD (2 * k + 1) 0) 99 from rfl)
          have R3 := Lib.hid (fun W => rspan_any (s.tins[i].getD (2 * k) 0) (s.tins[i].getD (2 * k + 1) 0) 99 W)
          have Hst := Lib.hid (fun h => all_take_succ (f := tinP k) hil Ha.out h)
          have Hbad := Lib.hid (fun (h : tinP k s.tins[i] = false) => Hn2.out (by
           have hq : s.tins.all (tinP k) = false := by
            cases ha : s.tins.all (tinP k)
            ·rfl
            ·have := List.all_eq_true.1 ha _ (List.getElem_mem hil); rw [h] at this; cases this
           rw [Hc.out, hq]; simp))
          rw [Hp.out] at Hst Hbad
          clear hcell Hp h6
          generalize s.tins[i].getD (2 * k) 0 = X at *
          generalize s.tins[i].getD (2 * k + 1) 0 = Y at *
          cases h5 : spanB X Y 99
          ·rw [h5] at R3
           go_wp2_with (first | (go_at_call 80; refine (R3.out _).mono ?_; rintro e w2 ⟨rfl, hE2⟩; have HE2 := Lib.hid (S.out.ext.trans hE2); clear hE2))
           go_ret
           exact ⟨ret_bool (Hbad.out h5).symm, HE2.out⟩
          ·rw [h5] at R3
           go_wp2_with (first | (go_at_call 80; refine (R3.out _).mono ?_; rintro e w2 ⟨rfl, hE2⟩; replace S := Lib.hid (S.out.next hE2); clear hE2))
           go_roundg (gk - 1)
           case measure => omega
           case rel => exact ⟨i + 1, by omega, by go_num, S.out, Hst.out h5⟩
         ·have Ht := Lib.hid (show colB s k = true by
           have := Ha.out
           rw [List.take_of_length_le (by omega)] at this
           rw [Hc.out, h1, h2, this]; rfl)
          go_wp2
          go_roundg (go - 1)
          case measure => omega
          case rel => exact ⟨k + 1, by omega, by go_num, S.out, fun p hp => by
           rcases Nat.lt_or_eq_of_le (Nat.le_of_lt_succ hp) with hp | rfl
           ·exact Hx.out p hp
           ·exact Ht.out⟩
     ·obtain rfl : k = 3 := by omega
      have Hq := Lib.hid (Hy.out Hx.out)
      clear Hx
      go_wp2
      go_ret
      exact ⟨ret_bool Hq.out.symm, S.out.ext⟩

theorem rMix_any (s : SI) (ot : Option Addr) (cap : Nat) (l : List Int) (ol : Option Addr) (cl : Nat) (w : World) (h : IntsAt w ol l) (hl : l.length ≤ 1000) :
  Calls Tryz.prog 25 #[sheetV s ot cap, .slice ol l.length cl] w fun e w' => e = .returned (.bool (mixB s l)) ∧ Ext w w' := by
 have H := Lib.hid h
 have f12 : (w.alloc (.cells (sheetC s ot cap) 28)).cell? ⟨w.heap.size, 12, none⟩ = some (.slice ot s.tins.length cap) := by rw [cell_of_row _ _ 12 _ _ _ (heap_alloc_new w _)]; rfl
 have F12 := Lib.hid f12
 have Hd := Lib.hid (show mixB s l = (decide (l.length = s.tins.length) && (l.all in8 && inB l.sum 1 8)) from rfl)
 clear h f12
 go_enter Tryz.func25, Tryz.ntmps25
 go_wp2
 go_loopg [5] l.length (fun g i wr => ∃ k : Nat, k + g = l.length ∧ i = .int .i64 k ∧ wr = w.alloc (.cells (sheetC s ot cap) 28) ∧ (l.take k).all in8 = true)
 case atStart => exact ⟨0, by simp, rfl, rfl, by simp⟩
 case round =>
  obtain ⟨k, hk, rfl, rfl, hall⟩ := hrel
  have Ha := Lib.hid hall
  clear hall
  by_cases hlt : k < l.length
  ·obtain ⟨b, off, hob, hb, hc⟩ := (H.out.ext ((Ext.refl w).alloc (.cells (sheetC s ot cap) 28))).at hlt
   subst hob
   have R := Lib.hid (fun W => rin_any l[k] 0 8 W)
   have Hst := Lib.hid (fun h => all_take_succ (f := in8) hlt Ha.out h)
   have Hbad := Lib.hid (fun (h : in8 l[k] = false) => (show mixB s l = false by
    have hq : l.all in8 = false := by
     cases ha : l.all in8
     ·rfl
     ·have := List.all_eq_true.1 ha _ (List.getElem_mem hlt); rw [h] at this; cases this
    rw [Hd.out, hq]; simp))
   have H8 := Lib.hid (show in8 l[k] = inB l[k] 0 8 from rfl)
   rw [H8.out] at Hst Hbad
   clear H8
   generalize l[k] = X at *
   cases h5 : inB X 0 8
   ·rw [h5] at R
    go_wp2_with (first | (go_at_call 81; refine (R.out _).mono ?_; rintro e w2 ⟨rfl, rfl⟩))
    go_ret
    exact ⟨ret_bool (Hbad.out h5).symm, (Ext.refl w).alloc _⟩
   ·rw [h5] at R
    go_wp2_with (first | (go_at_call 81; refine (R.out _).mono ?_; rintro e w2 ⟨rfl, rfl⟩))
    go_roundg (gk - 1)
    case measure => omega
    case rel => exact ⟨k + 1, by omega, by go_num, rfl, Hst.out h5⟩
  ·obtain rfl : k = l.length := by omega
   have h8 : l.all in8 = true := by have := Ha.out; rwa [List.take_of_length_le (Nat.le_refl _)] at this
   rw [h8] at Hd
   have R1 := Lib.hid (fun W (hE : Ext w W) => parts_any l ol cl W (H.out.ext hE) hl h8)
   have R2 := Lib.hid (fun W => rin_any l.sum 1 8 W)
   have f12 := F12.out
   clear h8 Ha
   by_cases hq : l.length = s.tins.length
   ·have hqI : ((l.length : Int) == (s.tins.length : Int)) = true := by simp [hq]
    have hqd : decide (l.length = s.tins.length) = true := decide_eq_true hq
    rw [hqd] at Hd
    clear hq hqd
    go_wp2_with (first | (go_at_call 59; refine (R1.out _ ((Ext.refl w).alloc _)).mono ?_; rintro e w2 ⟨rfl, rfl⟩) | (go_at_call 81; refine (R2.out _).mono ?_; rintro e w2 ⟨rfl, rfl⟩))
    go_ret
    exact ⟨ret_bool (by rw [Hd.out]; rfl), (Ext.refl w).alloc _⟩
   ·have hqI : ((l.length : Int) == (s.tins.length : Int)) = false := by simpa using (by omega : ¬ (l.length : Int) = (s.tins.length : Int))
    have hqd : decide (l.length = s.tins.length) = false := decide_eq_false hq
    rw [hqd] at Hd
    clear hq hqd
    go_wp2
    go_ret
    exact ⟨ret_bool (by rw [Hd.out]; rfl), (Ext.refl w).alloc _⟩

end Go.Proofs.YtjpekonfjihcoaaGreatDoor
