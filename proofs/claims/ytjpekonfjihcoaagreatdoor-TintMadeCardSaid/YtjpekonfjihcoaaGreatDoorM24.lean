/- Contracts and mathematics, joined: Parts2, ProofS, Needs. Conditions stand with each. -/
import Derived.ArgAppend
import Derived.Below
import Derived.BigQuiet
import Derived.Deep.DeepCutAuto
import Derived.Deep.DeepFit
import Derived.Deep.LoopGhost
import Derived.Deep.QuietTactic
import Derived.Deep.RegionHeld
import Derived.Deep.RegionHeld3
import Derived.Deep.RegionWith
import Derived.Defers
import Derived.Laws.EntriesVeiled
import Derived.Laws.OwnMore
import Derived.Lib.Hide
import Derived.Lib.IndexBytes
import Derived.Lib.ItoaNum
import Derived.Lib.SplitLaws
import Derived.LoopIn
import Derived.LoopNIn
import Derived.Maps.AppendAt
import Derived.Maps.Keyed
import Derived.Maps.OwnIn
import Derived.OrdersHeld
import Derived.OwnWalkIn
import Derived.RangeFuncBound
import Derived.RangeFuncCalls
import Derived.RangeFuncLeaves
import Derived.RangeFuncNested
import Derived.Recover
import Derived.RegionIn
import Derived.Shelf.Abstract
import Derived.TacticsIn
import Derived.TacticsInMore
import Derived.Test.YtjpekonfjihcoaaGreatDoorProg
import Derived.WalkKit
import Derived.WalkLawsBesides
import Derived.WalkSpells
import Derived.Test.YtjpekonfjihcoaaGreatDoorM2
import Derived.Test.YtjpekonfjihcoaaGreatDoorM3
import Derived.Test.YtjpekonfjihcoaaGreatDoorM14
import Derived.Test.YtjpekonfjihcoaaGreatDoorM1
import Derived.Test.YtjpekonfjihcoaaGreatDoorM17
import Derived.Test.YtjpekonfjihcoaaGreatDoorM23
import Derived.Test.YtjpekonfjihcoaaGreatDoorM5
import Derived.Test.YtjpekonfjihcoaaGreatDoorM4
import Derived.Test.YtjpekonfjihcoaaGreatDoorM12
import Derived.Test.YtjpekonfjihcoaaGreatDoorM9
import Derived.Test.YtjpekonfjihcoaaGreatDoorM25
import Derived.Test.YtjpekonfjihcoaaGreatDoorM21
import Derived.Test.YtjpekonfjihcoaaGreatDoorM10
import Derived.Test.YtjpekonfjihcoaaGreatDoorM11
import Derived.Test.YtjpekonfjihcoaaGreatDoorM35
import Derived.Test.YtjpekonfjihcoaaGreatDoorM22
import Derived.Test.YtjpekonfjihcoaaGreatDoorM29
import Derived.Test.YtjpekonfjihcoaaGreatDoorM34
namespace Go.TintM
end Go.TintM
set_option maxRecDepth 100000
set_option maxHeartbeats 64000000
set_option linter.unusedVariables false
set_option linter.unusedSimpArgs false
/- Contract: parts. No condition beyond sheets as defined. -/
namespace Go.Proofs.YtjpekonfjihcoaaGreatDoor
open Go.RowKit Go.My Go.TintM

/-- What parts says of a direction. -/
def partsB (s : Sh) (d : Nat → Int) : Bool := decide (sizeD d ≠ 0) && parted s d
abbrev absF (d : Nat → Int) (p : Nat) : Int := max (d p) (-d p)
theorem abs_in {d : Nat → Int} (hd : ∀ p, p < 3 → -2 ≤ d p ∧ d p ≤ 2) : ∀ p, p < 3 → -2 ≤ absF d p ∧ absF d p ≤ 2 := fun p hp => by
 have := hd p hp; simp only [absF]; omega
theorem size_in {d : Nat → Int} (hd : ∀ p, p < 3 → -2 ≤ d p ∧ d p ≤ 2) : 0 ≤ sizeD d ∧ sizeD d ≤ 6 := by
 have h0 := hd 0 (by omega)
 have h1 := hd 1 (by omega)
 have h2 := hd 2 (by omega)
 simp only [sizeD, tri]; omega
theorem aim_small {s : Sh} (g : Fine s) : ∀ p, p < 3 → aimLo s p ≤ 99 ∧ aimHi s p ≤ 99 := fun p hp =>
 ⟨Nat.le_trans (left_le _ _ _) (g.old p hp), Nat.le_trans (left_le _ _ _) (g.old p hp)⟩

theorem w64 {x : Int} (h : -9223372036854775808 ≤ x ∧ x ≤ 9223372036854775807) : wrap64 x = x := by unfold wrap64; omega

theorem parts_any' (s : Sh) (g : Fine s) (d : Nat → Int) (hd : ∀ p, p < 3 → -2 ≤ d p ∧ d p ≤ 2) (ot : Option Addr) (cap : Nat) (w : World) (h : TinsAt w ot (ofSh s).tins) :
  Calls Tryz.prog 101 #[sheetV (ofSh s) ot cap, dirV d] w fun e w' => e = .returned (.bool (partsB s d)) ∧ Ext w w' := by
 have R86 := Lib.hid (fun W => aim_any s g ot cap W)
 have R129 := Lib.hid (fun W => along_any d (aimLo s) (aimHi s) hd (aim_small g) W)
 have hz := size_in hd
 have R114 := Lib.hid (fun bd bs bz bl W (hW : Ext w W) (hb : PBx bd bs bz bl d s.off (sizeD d) (lessD d (aimLo s) (aimHi s)) W) => containsPart_any s g d hd bd bs bz bl s.off (sizeD d) (lessD d (aimLo s) (aimHi s)) g.off2 hz ot cap W (h.ext hW) hb)
 have Hp := Lib.hid (show partsB s d = (decide (sizeD d ≠ 0) && s.tins.all fun t => farB d s.off (sizeD d) (lessD d (aimLo s) (aimHi s)) (tlo t) (thi t)) from rfl)
 have Hd := Lib.hid hd
 have Hs := Lib.hid (triTo_small (abs_in hd))
 have He := Lib.hid (show triTo (absF d) 3 = sizeD d from triTo_3 _)
 have Hu := Lib.hid (fun k => (show triTo (absF d) (k + 1) = triTo (absF d) k + absF d k from rfl))
 have h0 : triTo (absF d) 0 = 0 := rfl
 clear h g hd hz
 go_enter Tryz.func101, Tryz.ntmps101
 go_wp2
 obtain ⟨w0, hw0⟩ : ∃ W, W = ((w.alloc (.cells (sheetC (ofSh s) ot cap) 28)).alloc (.cells #[.int .i64 (d 0), .int .i64 (d 1), .int .i64 (d 2)] 22)).alloc (.cells #[.int .i64 0] 3) := ⟨_, rfl⟩
 have HE0 := Lib.hid (show Ext w w0 by rw [hw0]; exact (((Ext.refl w).alloc _).alloc _).alloc _)
 have hs0 : w.heap.size + 2 < w0.heap.size := by rw [hw0]; simp
 have HS := Lib.hid (show SheetBox w0 w.heap.size (ofSh s) ot cap by rw [hw0]; exact (((SheetBox.new w (ofSh s) ot cap).ext ((Ext.refl _).alloc _)).ext ((Ext.refl _).alloc _)))
 have HD := Lib.hid (show OwnDir w0 (w.heap.size + 1) d by
  rw [hw0]
  have := (OwnDir.new (w.alloc (.cells (sheetC (ofSh s) ot cap) 28)) (d 0) (d 1) (d 2) d rfl rfl rfl).ext ((Ext.refl _).alloc (.cells #[.int .i64 0] 3))
  simpa only [World.size_alloc] using this)
 have hb0 : w0.cell? ⟨w.heap.size + 1 + 1, 0, none⟩ = some (.int .i64 0) ∧ w0.frozen? ⟨w.heap.size + 1 + 1, 0, none⟩ = false := by
  rw [hw0]
  exact ⟨cell3 _ _ _ _ _, frozen3 _ _ _ _ _⟩
 rw [← hw0]
 clear hw0
 go_loopg [7, 10] 3 (fun g a i wr => ∃ k : Nat, k + g = 3 ∧ i = .int .i64 k ∧ Turned (w.heap.size + 1 + 1) w0 wr ∧ wr.cell? ⟨w.heap.size + 1 + 1, 0, none⟩ = some (.int .i64 (triTo (absF d) k)) ∧ wr.frozen? ⟨w.heap.size + 1 + 1, 0, none⟩ = false)
 case atStart => exact ⟨0, by omega, rfl, Turned.refl _ _, by rw [h0]; exact hb0.1, hb0.2⟩
 case round =>
  obtain ⟨k, hk, rfl, hT, hc, hf⟩ := hrel
  have HT := Lib.hid hT
  clear hT h0 hb0
  by_cases hk3 : k < 3
  ·have hkI : (k : Int) < 3 := by omega
   have hix := index22 d hk3
   have hdk := Hd.out k hk3
   have hsm := Hs.out k (by omega)
   have Huk := Lib.hid (Hu.out k)
   simp only [absF] at Huk
   generalize triTo (absF d) k = V at *
   generalize d k = D at *
   have q1 : IntKind.i64.wrap (-D) = -D := by rw [IntWalk.i64_in _ (by omega)]
   have q2 : wrap64 (V + D) = V + D := w64 (by omega)
   have q3 : wrap64 (V + -D) = V + -D := w64 (by omega)
   clear hdk hsm
   have HT1 := Lib.hid (fun v => HT.out.trans ((Turned.refl (w.heap.size + 1 + 1) wr).set 0 v))
   go_wp2
   all_goals
    go_roundg (gk - 1)
    case measure => omega
    case rel => exact ⟨k + 1, by omega, by go_num, HT1.out _, by rw [Huk.out, World.cell?_setCell_same' _ _ _ (by rw [hc]; rfl)]; congr 2; omega, by go_simp⟩
  ·obtain rfl : k = 3 := by omega
   have hE1 : Ext w wr := ext_own HE0.out HT.out (by omega)
   have hS := Lib.hid (HS.out.turned HT.out (by omega))
   have hD : OwnDir wr (w.heap.size + 1) d := by
    obtain ⟨h0, h1, h2, g0, g1, g2⟩ := HD.out
    have hl := World.block_lt_of_cell? _ _ h0
    have hne : w.heap.size + 1 ≠ w.heap.size + 1 + 1 := by omega
    exact ⟨Turned.cell HT.out hne h0, Turned.cell HT.out hne h1, Turned.cell HT.out hne h2, (Turned.frozen (p := ⟨w.heap.size + 1, 0, none⟩) HT.out hne hl).trans g0, (Turned.frozen (p := ⟨w.heap.size + 1, 1, none⟩) HT.out hne hl).trans g1, (Turned.frozen (p := ⟨w.heap.size + 1, 2, none⟩) HT.out hne hl).trans g2⟩
   rw [He.out] at hc
   have HD1 := Lib.hid hD
   have HE1 := Lib.hid hE1
   have Hcz := Lib.hid hc
   clear hD hE1
   by_cases hz : sizeD d = 0
   ·have Hf := Lib.hid (show partsB s d = false by rw [Hp.out, decide_eq_false (by simpa using hz), Bool.false_and])
    rw [hz] at hc
    clear hz
    go_wp2
    go_ret
    exact ⟨by rw [Hf.out]; rfl, HE1.out⟩
   ·have Hf := Lib.hid (show partsB s d = _ by rw [Hp.out, decide_eq_true hz, Bool.true_and])
    have hz2 : (sizeD d == 0) = false := by simpa using hz
    generalize hZ : sizeD d = Z at *
    clear hZ hz
    go_wp2
    refine wp_region_plan (.take 0 <| .take 1 <| .two 2 4 (.two 3 4 (.only 4 <| .only 5 <| .done) (.only 3 <| .only 5 <| .done)) (.only 2 <| .only 3 <| .only 5 <| .done)) (fun W => Ext wr W) mixed (by kernel_rfl) (by kernel_rfl) rfl (fun _ _ d _ _ h => by cases d <;> exact h) ((Ext.refl wr).drew) ?_
    repeat ((first | (refine plan_take (v := ?_) rfl rfl (fun W hW => ?_) ?_; rotate_left; (focus (have c0 : World.cell? W ⟨w.heap.size, 0, none⟩ = some (.int .i64 (ofSh s).o0) := (hS.out.ext hW) 0 _ rfl; have c1 : World.cell? W ⟨w.heap.size, 1, none⟩ = some (.int .i64 (ofSh s).o1) := (hS.out.ext hW) 1 _ rfl; have c2 : World.cell? W ⟨w.heap.size, 2, none⟩ = some (.int .i64 (ofSh s).o2) := (hS.out.ext hW) 2 _ rfl; have c3 : World.cell? W ⟨w.heap.size, 3, none⟩ = some (.int .i64 (ofSh s).a0) := (hS.out.ext hW) 3 _ rfl; have c4 : World.cell? W ⟨w.heap.size, 4, none⟩ = some (.int .i64 (ofSh s).b0) := (hS.out.ext hW) 4 _ rfl; have c5 : World.cell? W ⟨w.heap.size, 5, none⟩ = some (.int .i64 (ofSh s).a1) := (hS.out.ext hW) 5 _ rfl; have c6 : World.cell? W ⟨w.heap.size, 6, none⟩ = some (.int .i64 (ofSh s).b1) := (hS.out.ext hW) 6 _ rfl; have c7 : World.cell? W ⟨w.heap.size, 7, none⟩ = some (.int .i64 (ofSh s).a2) := (hS.out.ext hW) 7 _ rfl; have c8 : World.cell? W ⟨w.heap.size, 8, none⟩ = some (.int .i64 (ofSh s).b2) := (hS.out.ext hW) 8 _ rfl; have c9 : World.cell? W ⟨w.heap.size, 9, none⟩ = some (.int .i64 (ofSh s).ylo) := (hS.out.ext hW) 9 _ rfl; have c10 : World.cell? W ⟨w.heap.size, 10, none⟩ = some (.int .i64 (ofSh s).yhi) := (hS.out.ext hW) 10 _ rfl; have c11 : World.cell? W ⟨w.heap.size, 11, none⟩ = some (.int .i64 (ofSh s).off) := (hS.out.ext hW) 11 _ rfl; have c12 : World.cell? W ⟨w.heap.size, 12, none⟩ = some (.slice ot (ofSh s).tins.length cap) := (hS.out.ext hW) 12 _ rfl; have y0 := cell_ext hW HD1.out.c0; have y1 := cell_ext hW HD1.out.c1; have y2 := cell_ext hW HD1.out.c2; go_simp; first | exact rfl | (split <;> first | exact rfl | (exfalso; omega)) | done))) | refine plan_skip rfl rfl ?_); simp only [puts])
    have HR4 := Lib.hid (fun q W (hW : Ext wr W) (hq : W.cell? ⟨q, 0, none⟩ = some (.int .i64 (lessD d (aimLo s) (aimHi s)))) => R114.out (w.heap.size + 1) w.heap.size (w.heap.size + 1 + 1) q W (HE1.out.trans hW) ⟨cell_ext hW HD1.out.c0, cell_ext hW HD1.out.c1, cell_ext hW HD1.out.c2, cell_ext hW hS.out.off, cell_ext hW Hcz.out, hq⟩)
    generalize hL : lessD d (aimLo s) (aimHi s) = L at *
    clear hL hc hf
    have nw := fun (W : World) => (show (W.alloc (.cells #[.int .i64 0] 3)).cell? ⟨W.heap.size, 0, none⟩ = some (.int .i64 0) by go_simp)
    have nf := fun (W : World) => (show (W.alloc (.cells #[.int .i64 0] 3)).frozen? ⟨W.heap.size, 0, none⟩ = false by go_simp)
    refine plan_share (fun A a' w' => ∃ q : Nat, a' = ((A.put (some 24) (aimV s)).put (some 25) (.int .i64 L)).put (some 8) (.pointer (some ⟨q, 0, none⟩)) ∧ Ext wr w' ∧ w'.cell? ⟨q, 0, none⟩ = some (.int .i64 L)) ?_ ?_
    ·have ed := (Ext.refl wr).drew
     refine plan_two rfl rfl ?_ ?_
     ·intro K hK
      go_wp2_with (first | (go_at_call 86; refine (R86.out _).mono ?_; rintro e wa ⟨rfl, ha⟩))
      have ea := ed.trans ha
      refine hK _ _ ea ?_
      refine plan_two rfl rfl ?_ ?_
      ·intro K hK
       go_wp2_with (first | (go_at_call 129; refine (R129.out _).mono ?_; rintro e wb ⟨rfl, hb⟩))
       have eb := ea.trans hb
       refine hK _ _ eb ?_
       refine plan_walk rfl ?_; intro K hK
       go_wp2
       refine hK _ _ (eb.alloc _) ?_
       refine plan_walk rfl ?_; intro K hK
       have z0 := nw wb
       have z1 := nf wb
       go_wp2
       refine hK _ _ (eb.alloc _) ?_
       refine plan_met ?_
       exact ⟨wb.heap.size, rfl, eb.alloc _, by go_simp⟩
      ·intro K hK
       go_wp2
       refine hK _ _ (ea.alloc _) ?_
       refine plan_walk rfl ?_; intro K hK
       go_wp2_with (first | (go_at_call 129; refine (R129.out _).mono ?_; rintro e wb ⟨rfl, hb⟩))
       have eb := (ea.alloc _).trans hb
       refine hK _ _ eb ?_
       refine plan_walk rfl ?_; intro K hK
       have z0 := cell_ext hb (nw wa)
       have z1 := (frozen_ext hb (by simp)).trans (nf wa)
       go_wp2
       refine hK _ _ (ext_set eb ea.size) ?_
       refine plan_met ?_
       exact ⟨wa.heap.size, rfl, ext_set eb ea.size, World.cell?_setCell_same' _ _ _ (by rw [z0]; rfl)⟩
     ·intro K hK
      go_wp2
      refine hK _ _ (ed.alloc _) ?_
      refine plan_walk rfl ?_; intro K hK
      go_wp2_with (first | (go_at_call 86; refine (R86.out _).mono ?_; rintro e wa ⟨rfl, ha⟩))
      have ea := (ed.alloc _).trans ha
      refine hK _ _ ea ?_
      refine plan_walk rfl ?_; intro K hK
      go_wp2_with (first | (go_at_call 129; refine (R129.out _).mono ?_; rintro e wb ⟨rfl, hb⟩))
      have eb := ea.trans hb
      refine hK _ _ eb ?_
      refine plan_walk rfl ?_; intro K hK
      have z0 : wb.cell? ⟨wr.heap.size, 0, none⟩ = some (.int .i64 0) := cell_ext (ha.trans hb) (nw wr.drew)
      have z1 : wb.frozen? ⟨wr.heap.size, 0, none⟩ = false := (frozen_ext (p := ⟨wr.drew.heap.size, 0, none⟩) (ha.trans hb) (by simp)).trans (nf wr.drew)
      go_wp2
      refine hK _ _ (ext_set eb (Nat.le_refl _)) ?_
      refine plan_met ?_
      exact ⟨wr.heap.size, rfl, ext_set eb (Nat.le_refl _), World.cell?_setCell_same' _ _ _ (by rw [z0]; rfl)⟩
    ·intro a' w4 ⟨q, ha', hE4, hq⟩
     subst ha'
     simp only [puts]
     have R := Lib.hid (HR4.out q w4 hE4 hq)
     have HE4 := Lib.hid (HE1.out.trans hE4)
     have c12 : w4.cell? ⟨w.heap.size, 12, none⟩ = some (.slice ot (ofSh s).tins.length cap) := cell_ext hE4 (hS.out 12 _ rfl)
     have l12 := World.block_lt_of_cell? _ _ c12
     clear HR4 hq hE4 nw nf
     generalize s.tins.all (fun t => farB d s.off Z L (tlo t) (thi t)) = V at *
     go_wp2_with (first | (go_at_call 114; refine R.out.mono ?_; rintro e w5 ⟨rfl, hE5⟩; have HE5 := Lib.hid (HE4.out.trans hE5); clear hE5))
     go_ret
     exact ⟨by rw [Hf.out]; simp, HE5.out⟩

end Go.Proofs.YtjpekonfjihcoaaGreatDoor
/- Contract: Proof. No condition beyond sheets as defined. -/
namespace Go.Proofs.YtjpekonfjihcoaaGreatDoor
open Go.RowKit Go.My Go.TintM

def dirOf (n : Nat) : Nat → Int
 | 0 => ((n / 5 / 5 : Nat) : Int) - 2
 | 1 => ((n / 5 % 5 : Nat) : Int) - 2
 | _ => ((n % 5 : Nat) : Int) - 2
theorem dirOf_in {n : Nat} (hn : n < 125) : ∀ p, p < 3 → -2 ≤ dirOf n p ∧ dirOf n p ≤ 2 := fun p hp => by
 match p, hp with
 | 0, _ => simp only [dirOf]; omega
 | 1, _ => simp only [dirOf]; omega
 | 2, _ => simp only [dirOf]; omega
def proofN (s : Sh) : Option Nat := (List.range 125).find? fun n => partsB s (dirOf n)
def proofV (s : Sh) : Value := match proofN s with
 | some n => .tuple #[dirV (dirOf n), .int .i64 0]
 | none => .tuple #[.agg #[.int .i64 0, .int .i64 0, .int .i64 0], .int .i64 5]
theorem proof_hit {s : Sh} {k : Nat} (hk : k < 125) (h : ∀ j, j < k → partsB s (dirOf j) = false) (h2 : partsB s (dirOf k) = true) : proofV s = .tuple #[dirV (dirOf k), .int .i64 0] := by
 have : proofN s = some k := by
  have h3 := find_hit (P := fun n => partsB s (dirOf n)) (L := List.range 125) (k := k) (by simpa using hk) (fun x hx => by
   rw [List.take_range] at hx
   exact h x (by have := List.mem_range.1 hx; omega)) (by simpa using h2)
  simpa [proofN] using h3
 simp only [proofV, this]
theorem proof_no {s : Sh} (h : ∀ j, j < 125 → partsB s (dirOf j) = false) : proofV s = .tuple #[.agg #[.int .i64 0, .int .i64 0, .int .i64 0], .int .i64 5] := by
 have : proofN s = none := find_no fun x hx => h x (List.mem_range.1 hx)
 simp only [proofV, this]

theorem DirBox3 (w : World) (x y z : Int) : OwnDir (w.alloc (.cells #[.int .i64 x, .int .i64 y, .int .i64 z] 22)) w.heap.size (fun p => match p with | 0 => x | 1 => y | _ => z) := OwnDir.new w x y z _ rfl rfl rfl

theorem sProof_any (s : Sh) (g : Fine s) (ot : Option Addr) (cap : Nat) (w : World) (h : TinsAt w ot (ofSh s).tins) :
  Calls Tryz.prog 55 #[sheetV (ofSh s) ot cap] w fun e w' => e = .returned (proofV s) ∧ Ext w w' := by
 have hl : (ofSh s).tins.length ≤ 9223372036854775807 := by rw [tins_len]; have := g.len2; omega
 have R72 := Lib.hid (fun W (hW : Ext w W) => isSheet_any (ofSh s) ot cap W (h.ext hW) hl)
 rw [sheet_of g] at R72
 have R101 := Lib.hid (fun n (hn : n < 125) W (hW : Ext w W) => parts_any' s g (dirOf n) (dirOf_in hn) ot cap W (h.ext hW))
 have Hhit := Lib.hid (fun k (hk : k < 125) h h2 => proof_hit (s := s) (k := k) hk h h2)
 have Hno := Lib.hid (fun h => proof_no (s := s) h)
 clear h hl g
 have hS0 := Lib.hid (SheetBox.new w (ofSh s) ot cap)
 go_enter Tryz.func55, Tryz.ntmps55
 go_wp2_with (first | (go_at_call 72; refine (R72.out _ (((Ext.refl w).alloc _).alloc _)).mono ?_; rintro e w1 ⟨rfl, hE1⟩; have HX := Lib.hid ((((Ext.refl w).alloc (.cells (sheetC (ofSh s) ot cap) 28)).alloc (.cells #[.int .i64 0, .int .i64 0, .int .i64 0] 22)).trans hE1); have HS := Lib.hid ((hS0.out.ext ((Ext.refl _).alloc (.cells #[.int .i64 0, .int .i64 0, .int .i64 0] 22))).ext hE1); have HZ := Lib.hid ((OwnDir.new (w.alloc (.cells (sheetC (ofSh s) ot cap) 28)) 0 0 0 (fun _ => 0) rfl rfl rfl).ext hE1); clear hE1))
 rw [World.size_alloc] at HZ
 go_loopg [4, 10] 125 (fun g a i wr => ∃ k : Nat, k + g = 125 ∧ i = .int .i64 k ∧ Ext w1 wr ∧ ∀ j, j < k → partsB s (dirOf j) = false)
 case atStart => exact ⟨0, by omega, rfl, Ext.refl _, fun j hj => by omega⟩
 case round =>
  obtain ⟨k, hk, rfl, hE, hall⟩ := hrel
  have HE := Lib.hid hE
  have Hall := Lib.hid hall
  clear hE hall
  by_cases hk3 : k < 125
  ·have hkI : (k : Int) < 125 := by omega
   have HS1 := Lib.hid (HS.out.ext HE.out)
   have HR := Lib.hid (R101.out k hk3)
   obtain ⟨a, ha⟩ : ∃ a, a = k / 5 := ⟨_, rfl⟩
   obtain ⟨b, hb⟩ : ∃ b, b = a / 5 := ⟨_, rfl⟩
   obtain ⟨c, hc⟩ : ∃ c, c = a % 5 := ⟨_, rfl⟩
   obtain ⟨d, hd⟩ : ∃ d, d = k % 5 := ⟨_, rfl⟩
   have e0 : IntKind.i64.wrap ((k : Int) / 5) = (a : Int) := by rw [IntWalk.i64_in _ (by omega)]; omega
   have e1 : IntKind.i64.wrap ((a : Int) / 5) = (b : Int) := by rw [IntWalk.i64_in _ (by omega)]; omega
   have e2 : (a : Int).tmod 5 = (c : Int) := by rw [Int.tmod_eq_emod_of_nonneg (by omega)]; omega
   have e3 : (k : Int).tmod 5 = (d : Int) := by rw [Int.tmod_eq_emod_of_nonneg (by omega)]; omega
   have e4 : IntKind.i64.wrap ((b : Int) - 2) = (b : Int) - 2 := by rw [IntWalk.i64_in _ (by omega)]
   have e5 : IntKind.i64.wrap ((c : Int) - 2) = (c : Int) - 2 := by rw [IntWalk.i64_in _ (by omega)]
   have e6 : IntKind.i64.wrap ((d : Int) - 2) = (d : Int) - 2 := by rw [IntWalk.i64_in _ (by omega)]
   have hdv : dirV (dirOf k) = .agg #[.int .i64 ((b : Int) - 2), .int .i64 ((c : Int) - 2), .int .i64 ((d : Int) - 2)] := by
    simp only [dirV, dirOf, hb, hc, hd, ha]
   have Hdv := Lib.hid hdv
   rw [hdv] at HR
   clear hdv ha hb hc hd
   have hHX := HX.out.size
   have hHE := HE.out.size
   have c0 := HS1.out 0 _ rfl; have c1 := HS1.out 1 _ rfl; have c2 := HS1.out 2 _ rfl; have c3 := HS1.out 3 _ rfl; have c4 := HS1.out 4 _ rfl; have c5 := HS1.out 5 _ rfl; have c6 := HS1.out 6 _ rfl; have c7 := HS1.out 7 _ rfl; have c8 := HS1.out 8 _ rfl; have c9 := HS1.out 9 _ rfl; have c10 := HS1.out 10 _ rfl; have c11 := HS1.out 11 _ rfl; have c12 := HS1.out 12 _ rfl
   have l12 := World.block_lt_of_cell? _ _ c12
   simp only at l12
   have HZ1 := Lib.hid (HZ.out.ext HE.out)
   have HEw := Lib.hid (HX.out.trans HE.out)
   clear hHX hHE
   cases hp : partsB s (dirOf k)
   ·have Hp := Lib.hid hp
    rw [hp] at HR
    clear hp
    go_wp2_with (first | (go_at_call 101; refine (HR.out _ (HEw.out.alloc _)).mono ?_; rintro e w5 ⟨rfl, hE5⟩; have HE5 := Lib.hid ((HE.out.alloc _).trans hE5); clear hE5))
    go_roundg (gk - 1)
    case measure => omega
    case rel => exact ⟨k + 1, by omega, by go_num, HE5.out, fun j hj => by
     rcases Nat.lt_succ_iff_lt_or_eq.1 hj with hj | rfl
     ·exact Hall.out j hj
     ·exact Hp.out⟩
   ·have Hp := Lib.hid (Hhit.out k hk3 Hall.out hp)
    rw [hp] at HR
    clear hp
    go_wp2_with (first | (go_at_call 101; refine (HR.out _ (HEw.out.alloc _)).mono ?_; rintro e w5 ⟨rfl, hE5⟩; have HE5 := Lib.hid ((HEw.out.alloc (.cells #[.int .i64 ((b : Int) - 2), .int .i64 ((c : Int) - 2), .int .i64 ((d : Int) - 2)] 22)).trans hE5); have hD5 := Lib.hid ((DirBox3 wr ((b : Int) - 2) ((c : Int) - 2) ((d : Int) - 2)).ext hE5); have hZ5 := Lib.hid ((HZ1.out.ext ((Ext.refl wr).alloc (.cells #[.int .i64 ((b : Int) - 2), .int .i64 ((c : Int) - 2), .int .i64 ((d : Int) - 2)] 22))).ext hE5); obtain ⟨y0, y1, y2, _, _, _⟩ := hD5.out; obtain ⟨r0, r1, r2, s0, s1, s2⟩ := hZ5.out; clear hE5))
    refine bodyPost_ret (v := .tuple #[.agg #[.int .i64 ((b : Int) - 2), .int .i64 ((c : Int) - 2), .int .i64 ((d : Int) - 2)], .int .i64 0]) (results_cellst (n := 3) rfl (by kernel_rfl) (by kernel_rfl) _ (w.heap.size + 1) [.int .i64 ((b : Int) - 2), .int .i64 ((c : Int) - 2), .int .i64 ((d : Int) - 2)] _ rfl (by simp) (by simp) (fun j v hv => ?_)) (by simp) ⟨by rw [Hp.out, Hdv.out], ext_set (ext_set (ext_set HE5.out (by omega)) (by omega)) (by omega)⟩
    match j, hv with
    | 0, hv => cases hv; go_simp
    | 1, hv => cases hv; go_simp
    | 2, hv => cases hv; go_simp
  ·obtain rfl : k = 125 := by omega
   have Hp := Lib.hid (Hno.out Hall.out)
   obtain ⟨r0, r1, r2, s0, s1, s2⟩ := HZ.out.ext HE.out
   have HEw := Lib.hid (HX.out.trans HE.out)
   go_wp2
   refine bodyPost_ret (v := .tuple #[.agg #[.int .i64 0, .int .i64 0, .int .i64 0], .int .i64 5]) (results_cellst (n := 3) rfl (by kernel_rfl) (by kernel_rfl) _ (w.heap.size + 1) [.int .i64 0, .int .i64 0, .int .i64 0] _ rfl (by simp) (by simp) (fun j v hv => ?_)) (by simp) ⟨by rw [Hp.out], ext_set (ext_set (ext_set HEw.out (by omega)) (by omega)) (by omega)⟩
   match j, hv with
   | 0, hv => cases hv; go_simp
   | 1, hv => cases hv; go_simp
   | 2, hv => cases hv; go_simp

theorem sProof_bad (S : SI) (ot : Option Addr) (cap : Nat) (w : World) (h : TinsAt w ot S.tins) (hl : S.tins.length ≤ 9223372036854775807) (hb : sheetB S = false) :
  Calls Tryz.prog 55 #[sheetV S ot cap] w fun e w' => e = .returned (.tuple #[.agg #[.int .i64 0, .int .i64 0, .int .i64 0], .int .i64 2]) ∧ Ext w w' := by
 have R72 := Lib.hid (fun W (hW : Ext w W) => isSheet_any S ot cap W (h.ext hW) hl)
 rw [hb] at R72
 clear h hl hb
 go_enter Tryz.func55, Tryz.ntmps55
 go_wp2_with (first | (go_at_call 72; refine (R72.out _ (((Ext.refl w).alloc _).alloc _)).mono ?_; rintro e w1 ⟨rfl, hE1⟩; have HX := Lib.hid ((((Ext.refl w).alloc (.cells (sheetC S ot cap) 28)).alloc (.cells #[.int .i64 0, .int .i64 0, .int .i64 0] 22)).trans hE1); have HZ := Lib.hid ((OwnDir.new (w.alloc (.cells (sheetC S ot cap) 28)) 0 0 0 (fun _ => 0) rfl rfl rfl).ext hE1); rw [World.size_alloc] at HZ; obtain ⟨r0, r1, r2, s0, s1, s2⟩ := HZ.out; clear hE1))
 refine bodyPost_ret (v := .tuple #[.agg #[.int .i64 0, .int .i64 0, .int .i64 0], .int .i64 2]) (results_cellst (n := 3) rfl (by kernel_rfl) (by kernel_rfl) _ (w.heap.size + 1) [.int .i64 0, .int .i64 0, .int .i64 0] _ rfl (by simp) (by simp) (fun j v hv => ?_)) (by simp) ⟨rfl, ext_set (ext_set (ext_set HX.out (by omega)) (by omega)) (by omega)⟩
 match j, hv with
 | 0, hv => cases hv; go_simp
 | 1, hv => cases hv; go_simp
 | 2, hv => cases hv; go_simp

end Go.Proofs.YtjpekonfjihcoaaGreatDoor
/- Contract: Needs. No condition beyond sheets as defined. -/
namespace Go.Proofs.YtjpekonfjihcoaaGreatDoor
open Go.RowKit Go.My Go.TintM Go.Shelf
attribute [local go_sem] Oper.semAt_some

theorem i29 : (Tryz.prog.info? 29).map (fun i => (i.zero, i.size, i.bytes)) = some (some (.slice none 0 0), 1, 24) := by kernel_rfl
theorem is_cell29 (w : World) (x : Value) (t : TypeId) : (w.alloc (.cells #[x] t)).cell? ⟨w.heap.size, 0, none⟩ = some x := by go_simp
abbrev needK (s : Sh) (k : Nat) : List (List Nat) := (((allMix s.tins.length).take k).filter (surely s)).map used
theorem needK_len (s : Sh) (k : Nat) : (needK s k).length ≤ (allMix s.tins.length).length := by
 have h1 := List.length_filter_le (surely s) ((allMix s.tins.length).take k)
 rw [List.length_take] at h1
 simp only [needK, List.length_map]
 omega
theorem needK_succ {s : Sh} {k : Nat} (hk : k < (allMix s.tins.length).length) {m : List Nat} (hm : (allMix s.tins.length)[k]? = some m) : needK s (k + 1) = needK s k ++ if surely s m = true then [used m] else [] := by
 have h1 : (allMix s.tins.length).take (k + 1) = (allMix s.tins.length).take k ++ [m] := by
  rw [List.take_succ_eq_append_getElem hk, (List.getElem?_eq_some_iff.1 hm).2]
 simp only [needK, h1, List.filter_append, List.map_append]
 cases h : surely s m <;> simp [h]
/-- The fewest tins, or none. -/
def NeedIn (s : Sh) (w : World) (e : Ending) (w' : World) : Prop :=
 Ext w w' ∧ (match needsOf s with
  | some m => ∃ v, e = .returned (.tuple #[v, .int .i64 0]) ∧ IsInts w' v (upL m)
  | none => e = .returned (.tuple #[.slice none 0 0, .int .i64 5]))

theorem sNeeds_any (s : Sh) (g : Fine s) (ot : Option Addr) (cap : Nat) (w : World) (h : TinsAt w ot (ofSh s).tins) :
  Calls Tryz.prog 50 #[sheetV (ofSh s) ot cap] w fun e w' => NeedIn s w e w' := by
 have hl : (ofSh s).tins.length ≤ 9223372036854775807 := by rw [tins_len]; have := g.len2; omega
 have R72 := Lib.hid (fun W (hW : Ext w W) => isSheet_any (ofSh s) ot cap W (h.ext hW) hl)
 rw [sheet_of g] at R72
 have RK := Lib.hid (fun m (hm : IsMix s m) om cm W (hW : TinsAt W ot (ofSh s).tins) (hi : IntsAt W om (upL m)) => surely_call s g m hm ot cap om cm W hW hi)
 have H := Lib.hid h
 have G := Lib.hid g
 have hall := (allMix_len ⟨s.tins.length, by have := g.len2; omega⟩ g.len1).1
 have h4 := g.len2
 simp only at hall
 clear h hl g
 refine (callsIn_wide (n := 3)).1 (callsIn_of_wp_marks Tryz.func50 rfl trivial (wpIn_wide.2 ?_))
 simp only [Tryz.ntmps50, List.size_toArray, List.length_cons, List.length_nil, Nat.reduceAdd, Nat.reduceSub, Array.replicate_succ, Array.replicate_zero, List.push_toArray, List.append_toArray, List.nil_append, List.cons_append]
 go_wp2_with (first | (go_at_call 72; refine (R72.out _ ((Ext.refl w).alloc _)).mono ?_; rintro e w1 ⟨rfl, hE1⟩; have HX := Lib.hid (((Ext.refl w).alloc (.cells (sheetC (ofSh s) ot cap) 28)).trans hE1); have HS := Lib.hid ((SheetBox.new w (ofSh s) ot cap).ext hE1); have l0 : w.heap.size < w1.heap.size := (by have := hE1.size; simp at this; omega); clear hE1; have c0 := HS.out 0 _ rfl; have c1 := HS.out 1 _ rfl; have c2 := HS.out 2 _ rfl; have c3 := HS.out 3 _ rfl; have c4 := HS.out 4 _ rfl; have c5 := HS.out 5 _ rfl; have c6 := HS.out 6 _ rfl; have c7 := HS.out 7 _ rfl; have c8 := HS.out 8 _ rfl; have c9 := HS.out 9 _ rfl; have c10 := HS.out 10 _ rfl; have c11 := HS.out 11 _ rfl; have c12 := HS.out 12 _ rfl) | (go_at_call 91; refine (mixes_any _ _).mono ?_; rintro e w2 ⟨rfl, rfl⟩))
 obtain ⟨wA, hwA⟩ : ∃ wA, wA = (w1.alloc (.cells #[.slice none 0 0] 119)).alloc (.cells (sheetC (ofSh s) ot cap) 28) := ⟨_, rfl⟩
 have hXA : Ext w1 wA := by rw [hwA]; exact ((Ext.refl w1).alloc _).alloc _
 have hq0 : wA.cell? ⟨w1.heap.size, 0, none⟩ = some (.slice none 0 0) := by rw [hwA]; go_simp
 have hqf : wA.frozen? ⟨w1.heap.size, 0, none⟩ = false := by rw [hwA]; go_simp
 have hsz : wA.heap.size = w1.heap.size + 2 := by rw [hwA]; simp
 have hsb : SheetBox wA (w1.heap.size + 1) (ofSh s) ot cap := by
  rw [hwA]
  have := SheetBox.new (w1.alloc (.cells #[.slice none 0 0] 119)) (ofSh s) ot cap
  rwa [World.size_alloc] at this
 have HA := Lib.hid (HX.out.trans hXA)
 have HIt := Lib.hid (iter_any s G.out ot cap (w1.heap.size + 1) (fun i => i = w1.heap.size) wA (by omega) (by omega) hsb)
 have h0 : TriedIn 29 (fun _ => []) 1 w1.heap.size wA (needK s 0) (fun _ => False) wA := ⟨Turned.refl _ _, fun _ h => h.elim, hqf, _, [], hq0, World.ownsRow_nil _ _ _ _, (fun b hb => by cases hb), fun j l hl => by simp at hl⟩
 have hszl : w1.heap.size < wA.heap.size := by omega
 rw [← hwA]
 clear hsz hwA hq0 hqf c0 c1 c2 c3 c4 c5 c6 c7 c8 c9 c10 c11 c12 hsb HS
 refine wp_rangeFunc_each (gf := 123) (lb := #[.pointer (some ⟨w1.heap.size + 1, 0, none⟩)]) rfl (enters_of Tryz.func123 (by kernel_rfl) rfl) (allMix s.tins.length).length (fun i => i = w1.heap.size) (MixP s ot cap wA.heap.size)
  (fun k => TriedIn 29 (fun _ => []) 1 w1.heap.size wA (needK s k)) (fun k I I' W W' h hM hI' => h.mv (by omega) hM hI') (fun k I W l o o' h hl ho hoc => h.put (by omega) hl ho hoc) (fun _ _ => False) (fun _ _ _ _ _ h => h.elim) h0 HIt.out
  (PotAtH s wA ot cap fun qb x => { tmps := #[sheetV (ofSh s) ot cap, .pointer (some ⟨w.heap.size, 0, none⟩), .slice none 0 0, .int .i64 0, .pointer (some ⟨w1.heap.size, 0, none⟩), .pointer (some ⟨qb, 0, none⟩), sheetV (ofSh s) ot cap, .bool true, .bool false, sheetV (ofSh s) ot cap, .func (.func 123) #[] #[.pointer (some ⟨w1.heap.size + 1, 0, none⟩)], x, undef, undef, undef, undef, undef, undef, undef, undef, undef, undef, undef, undef, undef], defers := [] })
  (PotAtH.put s wA ot cap _) ?assign ?body ?norm ?stop
 case assign =>
  rintro l m k I x W hk hj ⟨mm, base, om, cm, hm, rfl, ho, hI1, hb⟩ hI K hK
  have Hk := Lib.hid (hK _ _ (keeps_ext ((Ext.refl W).alloc (.cells (potC s ot cap om mm.length cm) 108))) (Mv.of_ext ((Ext.refl W).alloc (.cells (potC s ot cap om mm.length cm) 108))) (hj.mv (by omega) (Mv.of_ext ((Ext.refl W).alloc _)) fun i hi => ⟨.inl hi, Nat.lt_of_lt_of_le (hI i hi).2 (by simp)⟩) (PotAtH.start hm ho hI1 hb hI hj.turned.size))
  clear hK
  gi_wp2
  exact Hk.out
 case body =>
  intro l m k I x a' Wb hk hj hp hI
  obtain ⟨mm, base, om, cm, qb, hm, rfl, rfl, ho, hI1, hb, hpb, hqI, hqA⟩ := hp
  have hqW : qb < Wb.heap.size := (Array.getElem?_eq_some_iff.1 hpb).1
  have hmM : IsMix s mm := (mem_allMix G.out).1 (List.mem_of_getElem? hm)
  have hEW : Ext w Wb := ext_own HA.out hj.turned (by have := HX.out.size; omega)
  have R := Lib.hid (RK.out mm hmM om cm Wb (H.out.ext hEW) (own_ints ho))
  have hml : mm.length ≤ 1000 := by rw [hmM.len]; omega
  have R96 := Lib.hid (fun W (hW : Ext Wb W) => tins_any mm om cm W ((own_ints ho).ext hW) hml)
  have Hj0 := Lib.hid hj
  have hks := needK_succ hk hm
  have Hpb0 := Lib.hid (pot_heap hpb)
  have Hph := Lib.hid hpb
  have c0 := Hpb0.out 0 _ rfl; have c1 := Hpb0.out 1 _ rfl; have c2 := Hpb0.out 2 _ rfl; have c3 := Hpb0.out 3 _ rfl; have c4 := Hpb0.out 4 _ rfl; have c5 := Hpb0.out 5 _ rfl; have c6 := Hpb0.out 6 _ rfl; have c7 := Hpb0.out 7 _ rfl; have c8 := Hpb0.out 8 _ rfl; have c9 := Hpb0.out 9 _ rfl; have c10 := Hpb0.out 10 _ rfl; have c11 := Hpb0.out 11 _ rfl; have c12 := Hpb0.out 12 _ rfl; have c13 : World.cell? Wb ⟨qb, 13, none⟩ = some (.slice om mm.length cm) := Hpb0.out 13 _ rfl
  clear ho hm hpb hmM hEW hj hml
  cases hP : surely s mm
  ·rw [hP] at R
   rw [hP, if_neg (by simp), List.append_nil] at hks
   have Hks := Lib.hid hks
   clear hP hks
   gi_wp2_with (first | (refine ⟨trivial, (fun h => by cases h), ?_⟩; gi_at_call 89; refine (CallsIn.inRound l (callsIn_wide.2 R.out)).mono ?_; rintro e w5 ⟨rfl, hE5⟩; have HE5 := Lib.hid hE5; clear hE5))
   exact ⟨keeps_ext HE5.out, Mv.of_ext HE5.out, by rw [Hks.out]; exact Hj0.out.mv (by omega) (Mv.of_ext HE5.out) fun i hi => ⟨.inl hi, Nat.lt_of_lt_of_le (hI i hi).2 HE5.out.size⟩⟩
  ·rw [hP] at R
   rw [hP, if_pos rfl] at hks
   have Hk1 := Lib.hid hks
   clear hP hks
   gi_wp2_with (first | (refine ⟨trivial, (fun h => by cases h), ?_⟩; gi_at_call 89; refine (CallsIn.inRound l (callsIn_wide.2 R.out)).mono ?_; rintro e w5 ⟨rfl, hE5⟩; have HE5 := Lib.hid hE5; clear hE5; clear c0 c1 c2 c3 c4 c5 c6 c7 c8 c9 c10 c11 c12 c13))
   have hsW5 := HE5.out.size
   have hj := Hj0.out.mv (I' := I) (by omega) (Mv.of_ext HE5.out) fun i hi => ⟨.inl hi, Nat.lt_of_lt_of_le (hI i hi).2 hsW5⟩
   have Hj := Lib.hid hj
   have Hpb := Lib.hid (Hpb0.out.ext HE5.out)
   obtain ⟨v, xs, hv5, hrow, hvI, hel⟩ := hj.var
   have Hnp := Lib.hid (pot_row (((HE5.out.block qb hqW).trans Hph.out)) hrow (by decide))
   obtain ⟨N, hN⟩ : ∃ N, (needK s k).length = N := ⟨_, rfl⟩
   have hN5 : N ≤ 494 := by rw [← hN]; exact Nat.le_trans (needK_len s k) hall
   have hvc : ∃ oa c, v = .slice oa N c := by
    rcases hrow.2 with ⟨h1, h2⟩ | ⟨g, c, cur, h1, _⟩
    ·exact ⟨none, 0, by rw [h1, ← hN, h2]⟩
    ·exact ⟨_, c, by rw [h1, hN]⟩
   obtain ⟨oa, c, rfl⟩ := hvc
   have Hrow0 := Lib.hid hrow
   rw [hN] at hrow
   have Hrow := Lib.hid hrow
   have Hel := Lib.hid (And.intro hvI hel)
   have Hkl := Lib.hid hN
   have hqf := hj.frozen
   clear hj hrow hvI hel hN
   refine wpIn_region_planR (.take 1 <| .take 2 <| .two 0 3 (.only 3 <| .only 4 <| .only 5 <| .only 6 <| .done) (.two 0 4 (.only 4 <| .only 5 <| .only 6 <| .done) (.only 0 <| .only 5 <| .only 6 <| .done))) (fun W => PotBox W qb s ot cap om mm.length cm) mixed (by kernel_rfl) (by kernel_rfl) rfl (fun _ _ d _ _ h => by cases d <;> exact h) (fun _ h => h) (Hpb.out.ext (Ext.refl w5).drew) (by kernel_rfl) ?_
   repeat (refine planIn_take (v := ?_) rfl rfl (fun W hW => ?_) ?_; rotate_left; (focus (have c0 := hW 0 _ rfl; have c1 := hW 1 _ rfl; have c2 := hW 2 _ rfl; have c3 := hW 3 _ rfl; have c4 := hW 4 _ rfl; have c5 := hW 5 _ rfl; have c6 := hW 6 _ rfl; have c7 := hW 7 _ rfl; have c8 := hW 8 _ rfl; have c9 := hW 9 _ rfl; have c10 := hW 10 _ rfl; have c11 := hW 11 _ rfl; have c12 := hW 12 _ rfl; have c13 : World.cell? W ⟨qb, 13, none⟩ = some (.slice om mm.length cm) := hW 13 _ rfl; go_simp; first | exact rfl | (split <;> first | exact rfl | (exfalso; omega)) | done)); simp only [puts])
   refine planIn_two rfl rfl ?_ ?_
   ·intro K hK
    gi_wp2
    refine hK _ _ (Hpb.out.ext (Ext.refl w5).drew) ?_
    refine planIn_walk rfl ?_; intro K hK
    gi_wp2_with (first | (refine ⟨trivial, (fun h => by cases h), ?_⟩; gi_at_call 96; refine (callsIn_wide.2 (R96.out _ HE5.out.drew)).mono ?_; rintro e w6 ⟨v6, rfl, ho6, hE6⟩))
    have X1 := (Ext.refl w5).drew.trans hE6
    obtain ⟨ob, cb, hv6, _⟩ := ho6.slice
    rw [List.length_map, upL_length] at hv6
    subst hv6
    have Ho6 := Lib.hid ho6
    clear ho6 hE6
    refine hK _ _ (Hpb.out.ext X1) ?_
    refine planIn_walk rfl ?_; intro K hK
    gi_wp2
    have X2 := X1.alloc (.cells #[.slice ob (used mm).length cb] 29)
    refine hK _ _ (Hpb.out.ext X2) ?_
    refine planIn_walk rfl ?_; intro K hK
    obtain ⟨ii, hi1, hi2, hi3, hi4⟩ := info_parts i29
    have hn1 := is_cell29 w6 (.slice ob (used mm).length cb) 29
    gi_wp2_with (first | (gi_at_builtin; refine wpListIn_append_own_at _ rfl _ _ 119 rfl wA.heap.size 29 ii _ 1 24 Tryz.underlying119 hi1 hi2 hi3 hi4 rfl (by decide) _ N xs rfl (row_mv Hrow.out (Mv.of_ext (I := fun _ => False) X2) (fun _ _ h => h)) ⟨w6.heap.size, 0, none⟩ 1 1 [.slice ob (used mm).length cb] rfl rfl ?_ (by simp [Value.oneCell']) (by unfold maxLen; omega) (by omega) (Nat.le_trans Hj.out.turned.size X2.size) ?_))
    ·intro j u hu
     match j, hu with
     | 0, hu => simp at hu; subst hu; simp [Addr.add]
    ·intro v' w7 hr7 hg7 _ hat
     have hsX := X1.size
     have hm7 := TriedIn.more (e := 29) (tl := fun _ => []) (sz := 1) (l := used mm) (by decide) (by omega) Hj.out (fun i hi => Nat.lt_of_lt_of_le (hI i hi).2 hsW5) X2 hv5 Hrow0.out Hel.out.1 Hel.out.2 ((Ho6.out.ext ((Ext.refl w6).alloc _)).low (Nat.le_trans Hj.out.turned.size (by simp))) (fun b hb hi => by have h1 : w5.heap.size ≤ b := (Ho6.out.lt b hb).1; have h2 := (hI b hi).2; omega) (by rw [Hkl.out]; exact hr7) hg7 (by rw [World.size_alloc]; exact hat) (by decide)
     rw [← Hk1.out] at hm7
     obtain ⟨g7, c7, hv7⟩ : ∃ g c, v' = .slice (some ⟨g, 0, none⟩) (N + 1) c := by
      rcases hr7.2 with ⟨_, h2⟩ | ⟨g, c, cur, h1, _⟩
      ·omega
      ·exact ⟨g, c, h1⟩
     subst hv7
     have Hm7 := Lib.hid hm7
     have hE7 : Mv (fun i => (Value.slice oa N c).ownBlock = some i) (w6.alloc (.cells #[.slice ob (used mm).length cb] 29)) w7 := Mv.of_grown hg7 fun i h => h
     have hp7 : PotBox w7 qb s ot cap om mm.length cm := fun i u hu => hE7.cell Hnp.out ((Hpb.out.ext X2) i u hu)
     have hqb : ¬ (Value.slice oa N c).ownBlock = some w1.heap.size := fun h => by have := (World.ownsRow.lt Hrow.out _ h).1; omega
     have cq7 : w7.cell? ⟨w1.heap.size, 0, none⟩ = some (.slice oa N c) := hE7.cell hqb (cell_ext X2 hv5)
     have cf7 : w7.frozen? ⟨w1.heap.size, 0, none⟩ = false := (hE7.frozen hqb (Nat.lt_of_lt_of_le Hj.out.lt X2.size)).trans ((frozen_ext X2 Hj.out.lt).trans Hj.out.frozen)
     clear hm7 hr7 hg7 hat hn1 hE7 hqb
     refine hK _ _ hp7 ?_
     refine planIn_walk rfl ?_; intro K hK
     gi_wp2
     refine hK _ _ (hp7.turned ((Turned.refl w1.heap.size w7).set 0 _) (by omega)) ?_
     refine planIn_done ?_
     exact ⟨(keeps_ext HE5.out).trans Hm7.out.2.2, (Mv.of_ext HE5.out).trans Hm7.out.2.1, Hm7.out.1⟩
   ·intro K hK
    gi_wp2_with (first | (refine ⟨trivial, (fun h => by cases h), ?_⟩; gi_at_call 96; refine (callsIn_wide.2 (R96.out _ HE5.out.drew)).mono ?_; rintro e w6 ⟨v6, rfl, ho6, hE6⟩))
    have X1 := (Ext.refl w5).drew.trans hE6
    obtain ⟨ob, cb, hv6, _⟩ := ho6.slice
    rw [List.length_map, upL_length] at hv6
    subst hv6
    have Ho6 := Lib.hid ho6
    clear ho6 hE6
    refine hK _ _ (Hpb.out.ext X1) ?_
    have hv1 := cell_ext X1 hv5
    refine planIn_two rfl rfl ?_ ?_
    ·intro K hK
     gi_wp2
     refine hK _ _ (Hpb.out.ext X1) ?_
     clear hv1
     refine planIn_walk rfl ?_; intro K hK
     gi_wp2
     have X2 := X1.alloc (.cells #[.slice ob (used mm).length cb] 29)
     refine hK _ _ (Hpb.out.ext X2) ?_
     refine planIn_walk rfl ?_; intro K hK
     obtain ⟨ii, hi1, hi2, hi3, hi4⟩ := info_parts i29
     have hn1 := is_cell29 w6 (.slice ob (used mm).length cb) 29
     gi_wp2_with (first | (gi_at_builtin; refine wpListIn_append_own_at _ rfl _ _ 119 rfl wA.heap.size 29 ii _ 1 24 Tryz.underlying119 hi1 hi2 hi3 hi4 rfl (by decide) _ N xs rfl (row_mv Hrow.out (Mv.of_ext (I := fun _ => False) X2) (fun _ _ h => h)) ⟨w6.heap.size, 0, none⟩ 1 1 [.slice ob (used mm).length cb] rfl rfl ?_ (by simp [Value.oneCell']) (by unfold maxLen; omega) (by omega) (Nat.le_trans Hj.out.turned.size X2.size) ?_))
     ·intro j u hu
      match j, hu with
      | 0, hu => simp at hu; subst hu; simp [Addr.add]
     ·intro v' w7 hr7 hg7 _ hat
      have hsX := X1.size
      have hm7 := TriedIn.more (e := 29) (tl := fun _ => []) (sz := 1) (l := used mm) (by decide) (by omega) Hj.out (fun i hi => Nat.lt_of_lt_of_le (hI i hi).2 hsW5) X2 hv5 Hrow0.out Hel.out.1 Hel.out.2 ((Ho6.out.ext ((Ext.refl w6).alloc _)).low (Nat.le_trans Hj.out.turned.size (by simp))) (fun b hb hi => by have h1 : w5.heap.size ≤ b := (Ho6.out.lt b hb).1; have h2 := (hI b hi).2; omega) (by rw [Hkl.out]; exact hr7) hg7 (by rw [World.size_alloc]; exact hat) (by decide)
      rw [← Hk1.out] at hm7
      obtain ⟨g7, c7, hv7⟩ : ∃ g c, v' = .slice (some ⟨g, 0, none⟩) (N + 1) c := by
       rcases hr7.2 with ⟨_, h2⟩ | ⟨g, c, cur, h1, _⟩
       ·omega
       ·exact ⟨g, c, h1⟩
      subst hv7
      have Hm7 := Lib.hid hm7
      have hE7 : Mv (fun i => (Value.slice oa N c).ownBlock = some i) (w6.alloc (.cells #[.slice ob (used mm).length cb] 29)) w7 := Mv.of_grown hg7 fun i h => h
      have hp7 : PotBox w7 qb s ot cap om mm.length cm := fun i u hu => hE7.cell Hnp.out ((Hpb.out.ext X2) i u hu)
      have hqb : ¬ (Value.slice oa N c).ownBlock = some w1.heap.size := fun h => by have := (World.ownsRow.lt Hrow.out _ h).1; omega
      have cq7 : w7.cell? ⟨w1.heap.size, 0, none⟩ = some (.slice oa N c) := hE7.cell hqb (cell_ext X2 hv5)
      have cf7 : w7.frozen? ⟨w1.heap.size, 0, none⟩ = false := (hE7.frozen hqb (Nat.lt_of_lt_of_le Hj.out.lt X2.size)).trans ((frozen_ext X2 Hj.out.lt).trans Hj.out.frozen)
      clear hm7 hr7 hg7 hat hn1 hE7 hqb
      refine hK _ _ hp7 ?_
      refine planIn_walk rfl ?_; intro K hK
      gi_wp2
      refine hK _ _ (hp7.turned ((Turned.refl w1.heap.size w7).set 0 _) (by omega)) ?_
      refine planIn_done ?_
      exact ⟨(keeps_ext HE5.out).trans Hm7.out.2.2, (Mv.of_ext HE5.out).trans Hm7.out.2.1, Hm7.out.1⟩
    ·intro K hK
     clear hv1
     gi_wp2
     have X2 := X1.alloc (.cells #[.slice ob (used mm).length cb] 29)
     refine hK _ _ (Hpb.out.ext X2) ?_
     refine planIn_walk rfl ?_; intro K hK
     have hv1 := cell_ext X2 hv5
     gi_wp2
     refine hK _ _ (Hpb.out.ext X2) ?_
     clear hv1
     refine planIn_walk rfl ?_; intro K hK
     obtain ⟨ii, hi1, hi2, hi3, hi4⟩ := info_parts i29
     have hn1 := is_cell29 w6 (.slice ob (used mm).length cb) 29
     gi_wp2_with (first | (gi_at_builtin; refine wpListIn_append_own_at _ rfl _ _ 119 rfl wA.heap.size 29 ii _ 1 24 Tryz.underlying119 hi1 hi2 hi3 hi4 rfl (by decide) _ N xs rfl (row_mv Hrow.out (Mv.of_ext (I := fun _ => False) X2) (fun _ _ h => h)) ⟨w6.heap.size, 0, none⟩ 1 1 [.slice ob (used mm).length cb] rfl rfl ?_ (by simp [Value.oneCell']) (by unfold maxLen; omega) (by omega) (Nat.le_trans Hj.out.turned.size X2.size) ?_))
     ·intro j u hu
      match j, hu with
      | 0, hu => simp at hu; subst hu; simp [Addr.add]
     ·intro v' w7 hr7 hg7 _ hat
      have hsX := X1.size
      have hm7 := TriedIn.more (e := 29) (tl := fun _ => []) (sz := 1) (l := used mm) (by decide) (by omega) Hj.out (fun i hi => Nat.lt_of_lt_of_le (hI i hi).2 hsW5) X2 hv5 Hrow0.out Hel.out.1 Hel.out.2 ((Ho6.out.ext ((Ext.refl w6).alloc _)).low (Nat.le_trans Hj.out.turned.size (by simp))) (fun b hb hi => by have h1 : w5.heap.size ≤ b := (Ho6.out.lt b hb).1; have h2 := (hI b hi).2; omega) (by rw [Hkl.out]; exact hr7) hg7 (by rw [World.size_alloc]; exact hat) (by decide)
      rw [← Hk1.out] at hm7
      obtain ⟨g7, c7, hv7⟩ : ∃ g c, v' = .slice (some ⟨g, 0, none⟩) (N + 1) c := by
       rcases hr7.2 with ⟨_, h2⟩ | ⟨g, c, cur, h1, _⟩
       ·omega
       ·exact ⟨g, c, h1⟩
      subst hv7
      have Hm7 := Lib.hid hm7
      have hE7 : Mv (fun i => (Value.slice oa N c).ownBlock = some i) (w6.alloc (.cells #[.slice ob (used mm).length cb] 29)) w7 := Mv.of_grown hg7 fun i h => h
      have hp7 : PotBox w7 qb s ot cap om mm.length cm := fun i u hu => hE7.cell Hnp.out ((Hpb.out.ext X2) i u hu)
      have hqb : ¬ (Value.slice oa N c).ownBlock = some w1.heap.size := fun h => by have := (World.ownsRow.lt Hrow.out _ h).1; omega
      have cq7 : w7.cell? ⟨w1.heap.size, 0, none⟩ = some (.slice oa N c) := hE7.cell hqb (cell_ext X2 hv5)
      have cf7 : w7.frozen? ⟨w1.heap.size, 0, none⟩ = false := (hE7.frozen hqb (Nat.lt_of_lt_of_le Hj.out.lt X2.size)).trans ((frozen_ext X2 Hj.out.lt).trans Hj.out.frozen)
      clear hm7 hr7 hg7 hat hn1 hE7 hqb
      refine hK _ _ hp7 ?_
      refine planIn_walk rfl ?_; intro K hK
      gi_wp2
      refine hK _ _ (hp7.turned ((Turned.refl w1.heap.size w7).set 0 _) (by omega)) ?_
      refine planIn_done ?_
      exact ⟨(keeps_ext HE5.out).trans Hm7.out.2.2, (Mv.of_ext HE5.out).trans Hm7.out.2.1, Hm7.out.1⟩
 case norm =>
  intro D I W hj hD hK
  have hN : needK s (allMix s.tins.length).length = needL s := by simp only [needK, List.take_length]; rfl
  rw [hN] at hj
  have HW := Lib.hid (ext_own HA.out hj.turned (by have := HX.out.size; omega))
  have HK := Lib.hid hK
  have hA := HA.out.size
  have hlen : (needL s).length ≤ 494 := by rw [← hN]; exact Nat.le_trans (needK_len s _) hall
  have hq1 := hj.var
  have hnd : needsOf s = bestO (needL s) := rfl
  by_cases hz : (needL s).length = 0
  ·obtain ⟨v, xs, hq, hrow, _⟩ := hq1
   have hvc : ∃ oa c, v = .slice oa 0 c := by
    rcases hrow.2 with ⟨h1, h2⟩ | ⟨g, c, cur, h1, _⟩
    ·exact ⟨none, 0, by rw [h1]⟩
    ·exact ⟨_, c, by rw [h1, hz]⟩
   obtain ⟨oa, c, rfl⟩ := hvc
   have hn : needsOf s = none := by rw [hnd, List.eq_nil_of_length_eq_zero hz]; rfl
   have Hn := Lib.hid hn
   clear hN hrow hj hK hn hnd hz hlen
   go_wp2
   refine ⟨by simp, .inl ⟨_, _, rfl, run_takeDeferred HK.out, ?_⟩⟩
   exact ⟨_, results_tmp2 rfl _ _ _, Mv.ext HW.out (putObj_mv W D _) fun i e => by rw [e]; exact Nat.le_trans hA hD, by rw [Hn.out]; rfl⟩
  ·obtain ⟨g, c, hq, hgl, hlc, hcm, E, hE⟩ := hj.cells (by omega)
   obtain ⟨n, hn⟩ : ∃ n, (needL s).length = n + 1 := ⟨(needL s).length - 1, by omega⟩
   have hl4 : ∀ j, j < (needL s).length → ((needL s).getD j []).length ≤ 4 := fun j hj => by
    have hmem : (needL s).getD j [] ∈ needL s := by simp [List.getD, hj]
    obtain ⟨m, hm, hu⟩ := List.mem_map.1 hmem
    rw [← hu]
    have h5 := (mem_allMix G.out).1 (List.mem_filter.1 hm).1
    have h6 := used_le (m := m)
    rw [h5.len] at h6
    omega
   have hbest : needsOf s = some ((needL s).getD (argB (fun i j => lessT ((needL s).getD i []) ((needL s).getD j [])) n) []) := by
    rw [← argB_best (needL s) n (by omega), hnd]
    cases hL : needL s with
    | nil => rw [hL] at hn; simp at hn
    | cons x l =>
     rw [hL] at hn
     simp only [List.length_cons, Nat.add_right_cancel_iff] at hn
     subst hn
     simp [List.getD, bestO]
   have hi := argB_le (fun i j => lessT ((needL s).getD i []) ((needL s).getD j [])) n
   have Hi := Lib.hid ((hE (argB (fun i j => lessT ((needL s).getD i []) ((needL s).getD j [])) n) (by omega)).2)
   have e0 := eq29n
   have hb : Calls Tryz.prog 97 #[.slice (some ⟨g, 0, none⟩) (n + 1 : Nat) c, .func (.func 98) #[] #[]] W fun e w' => e = .returned (.slice (E (argB (fun i j => lessT ((needL s).getD i []) ((needL s).getD j [])) n)).1 ((needL s).getD (argB (fun i j => lessT ((needL s).getD i []) ((needL s).getD j [])) n) []).length (E (argB (fun i j => lessT ((needL s).getD i []) ((needL s).getD j [])) n)).2) ∧ Ext W w' := by
    by_cases h1 : 1 ≤ n
    ·exact bestL_any n g c (fun j => (needL s).getD j []) (fun j => (E j).1) (fun j => (E j).2) W hgl (fun j hj => by have := (hE j (by omega)).1 0 _ rfl; rwa [Nat.mul_one] at this) (fun j hj => own_ints (hE j (by omega)).2) (fun j hj => by have := hl4 j (by omega); omega) (by omega) hcm h1
    ·obtain rfl : n = 0 := by omega
     exact bestL_one g c (E 0).1 ((needL s).getD 0 []).length (E 0).2 W hgl (by have := (hE 0 (by omega)).1 0 _ rfl; rwa [Nat.mul_one] at this) (by omega) hcm
   generalize argB (fun i j => lessT ((needL s).getD i []) ((needL s).getD j [])) n = i at *
   have Hb := Lib.hid hb
   have Hbest := Lib.hid hbest
   rw [hn] at hq
   have hnz : ¬ ((n : Int) + 1) = 0 := by omega
   clear hbest hN hE hb hj hK hi hnd hq1 hl4 hlc hcm hlen hz hn
   generalize (needL s).getD i [] = u at *
   generalize (E i).1 = eo at *
   generalize (E i).2 = ec at *
   go_wp2_with (first | (go_at_call 97; refine Hb.out.mono ?_; rintro e w9 ⟨rfl, hE9⟩; have HE9 := Lib.hid hE9; clear hE9))
   have hKd : w9.heap[D]? = some (.deferred (some [])) := (HE9.out.block D (Array.getElem?_eq_some_iff.1 HK.out).1).trans HK.out
   refine ⟨by simp, .inl ⟨_, _, rfl, run_takeDeferred hKd, ?_⟩⟩
   exact ⟨_, results_tmp2 rfl _ _ _, Mv.ext (HW.out.trans HE9.out) (putObj_mv _ D _) (fun i e => by rw [e]; exact Nat.le_trans hA hD), by rw [Hbest.out]; exact ⟨_, rfl, (own_put (Hi.out.ext HE9.out) hKd rfl).ints⟩⟩
 case stop =>
  rintro D c W h
  exact h.elim
theorem sNeeds_bad (S : SI) (ot : Option Addr) (cap : Nat) (w : World) (h : TinsAt w ot S.tins) (hl : S.tins.length ≤ 9223372036854775807) (hb : sheetB S = false) :
  Calls Tryz.prog 50 #[sheetV S ot cap] w fun e w' => e = .returned (.tuple #[.slice none 0 0, .int .i64 2]) ∧ Ext w w' := by
 have R72 := Lib.hid (fun W (hW : Ext w W) => isSheet_any S ot cap W (h.ext hW) hl)
 rw [hb] at R72
 clear h hl hb
 refine (callsIn_wide (n := 3)).1 (callsIn_of_wp_marks Tryz.func50 rfl trivial (wpIn_wide.2 ?_))
 simp only [Tryz.ntmps50, List.size_toArray, List.length_cons, List.length_nil, Nat.reduceAdd, Nat.reduceSub, Array.replicate_succ, Array.replicate_zero, List.push_toArray, List.append_toArray, List.nil_append, List.cons_append]
 go_wp2_with (first | (go_at_call 72; refine (R72.out _ ((Ext.refl w).alloc _)).mono ?_; rintro e w1 ⟨rfl, hE1⟩; have HX := Lib.hid (((Ext.refl w).alloc _).trans hE1); clear hE1))
 exact ⟨_, results_tmp2 rfl _ _ _, rfl, HX.out⟩

end Go.Proofs.YtjpekonfjihcoaaGreatDoor
