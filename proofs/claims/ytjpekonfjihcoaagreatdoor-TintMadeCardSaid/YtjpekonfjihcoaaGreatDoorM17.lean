/- Contracts and mathematics, joined: Words. Conditions stand with each. -/
import Derived.Below
import Derived.BigQuiet
import Derived.Deep.DeepCutAuto
import Derived.Deep.DeepFit
import Derived.Deep.LoopGhost
import Derived.Deep.QuietTactic
import Derived.Deep.RegionHeld
import Derived.Deep.RegionHeld3
import Derived.Deep.RegionWith
import Derived.Laws.EntriesVeiled
import Derived.Lib.Hide
import Derived.Maps.Keyed
import Derived.OrdersHeld
import Derived.Test.YtjpekonfjihcoaaGreatDoorProg
import Derived.WalkKit
import Derived.WalkLawsBesides
import Derived.WalkSpells
import Derived.Test.YtjpekonfjihcoaaGreatDoorM2
import Derived.Test.YtjpekonfjihcoaaGreatDoorM5
import Derived.Test.YtjpekonfjihcoaaGreatDoorM15
import Derived.Test.YtjpekonfjihcoaaGreatDoorM4
import Derived.Test.YtjpekonfjihcoaaGreatDoorM16
import Derived.Test.YtjpekonfjihcoaaGreatDoorM3
import Derived.Test.YtjpekonfjihcoaaGreatDoorM10
import Derived.Test.YtjpekonfjihcoaaGreatDoorM1
namespace Go.TintM
end Go.TintM
set_option maxRecDepth 100000
set_option maxHeartbeats 64000000
set_option linter.unusedVariables false
set_option linter.unusedSimpArgs false
/- Contracts: word, surely, Word. No condition beyond lists of at most 1000 numbers. -/
namespace Go.Proofs.YtjpekonfjihcoaaGreatDoor
open Go.RowKit Go.My Go.TintM

/-- A box that holds a sheet. -/
def SheetBox (W : World) (b : Nat) (s : SI) (ot : Option Addr) (cap : Nat) : Prop :=
 ∀ (i : Nat) (v : Value), (sheetC s ot cap)[i]? = some v → W.cell? ⟨b, i, none⟩ = some v
theorem SheetBox.new (w : World) (s : SI) (ot : Option Addr) (cap : Nat) : SheetBox (w.alloc (.cells (sheetC s ot cap) 28)) w.heap.size s ot cap :=
 fun i v hv => by rw [cell_of_row _ _ i _ _ _ (heap_alloc_new w _)]; exact hv
theorem SheetBox.ext {W W' : World} {b : Nat} {s : SI} {ot : Option Addr} {cap : Nat} (h : SheetBox W b s ot cap) (hE : Ext W W') : SheetBox W' b s ot cap :=
 fun i v hv => cell_ext hE (h i v hv)
theorem SheetBox.turned {W W' : World} {b q : Nat} {s : SI} {ot : Option Addr} {cap : Nat} (h : SheetBox W b s ot cap) (hT : Turned q W W') (hne : b ≠ q) : SheetBox W' b s ot cap :=
 fun i v hv => Turned.cell hT (by simpa using hne) (h i v hv)
theorem SheetBox.off {W : World} {b : Nat} {s : Sh} {ot : Option Addr} {cap : Nat} (h : SheetBox W b (ofSh s) ot cap) : W.cell? ⟨b, 11, none⟩ = some (.int .i64 (s.off : Nat)) := h 11 _ rfl

theorem surely_any (s : Sh) (g : Fine s) (m : List Nat) (hm : IsMix s m) (ot : Option Addr) (cap : Nat) (om : Option Addr) (cm : Nat) (w : World) (h : TinsAt w ot (ofSh s).tins) (hi : IntsAt w om (upL m)) :
  Calls Tryz.prog 89 #[potV s ot cap om m.length cm] w fun e w' => e = .returned (.bool (decide (offOf s m ≤ s.off))) ∧ Ext w w' := by
 have R93 := Lib.hid (fun W (hW : Ext w W) => off_any s g m hm ot cap om cm W (h.ext hW) (hi.ext hW))
 clear h hi hm g
 generalize offOf s m = O at *
 go_enter Tryz.func89, Tryz.ntmps89
 go_wp2_with fail
 obtain ⟨wr, hwr⟩ : ∃ wr, wr = w.alloc (.cells (potC s ot cap om m.length cm) 108) := ⟨_, rfl⟩
 have HWr := Lib.hid (show Ext w wr by rw [hwr]; exact (Ext.refl w).alloc _)
 have HP := Lib.hid (show PotBox wr w.heap.size s ot cap om m.length cm by rw [hwr]; exact PotBox.new _ _ _ _ _ _ _)
 rw [← hwr]
 clear hwr
 refine wp_region_plan (.take 0 <| .take 2 <| .take 3 <| .take 4 <| .only 1 <| .take 5 <| .take 6 <| .done) (fun W => Ext wr W) mixed (by kernel_rfl) (by kernel_rfl) rfl (fun _ _ d _ _ h => by cases d <;> exact h) ((Ext.refl wr).drew) ?_
 repeat ((first | (refine plan_take (v := ?_) rfl rfl (fun W hW => ?_) ?_; rotate_left; (focus (have c0 : World.cell? W ⟨w.heap.size, 0, none⟩ = some (.int .i64 (ofSh s).o0) := (HP.out.ext hW) 0 _ rfl; have c1 : World.cell? W ⟨w.heap.size, 1, none⟩ = some (.int .i64 (ofSh s).o1) := (HP.out.ext hW) 1 _ rfl; have c2 : World.cell? W ⟨w.heap.size, 2, none⟩ = some (.int .i64 (ofSh s).o2) := (HP.out.ext hW) 2 _ rfl; have c3 : World.cell? W ⟨w.heap.size, 3, none⟩ = some (.int .i64 (ofSh s).a0) := (HP.out.ext hW) 3 _ rfl; have c4 : World.cell? W ⟨w.heap.size, 4, none⟩ = some (.int .i64 (ofSh s).b0) := (HP.out.ext hW) 4 _ rfl; have c5 : World.cell? W ⟨w.heap.size, 5, none⟩ = some (.int .i64 (ofSh s).a1) := (HP.out.ext hW) 5 _ rfl; have c6 : World.cell? W ⟨w.heap.size, 6, none⟩ = some (.int .i64 (ofSh s).b1) := (HP.out.ext hW) 6 _ rfl; have c7 : World.cell? W ⟨w.heap.size, 7, none⟩ = some (.int .i64 (ofSh s).a2) := (HP.out.ext hW) 7 _ rfl; have c8 : World.cell? W ⟨w.heap.size, 8, none⟩ = some (.int .i64 (ofSh s).b2) := (HP.out.ext hW) 8 _ rfl; have c9 : World.cell? W ⟨w.heap.size, 9, none⟩ = some (.int .i64 (ofSh s).ylo) := (HP.out.ext hW) 9 _ rfl; have c10 : World.cell? W ⟨w.heap.size, 10, none⟩ = some (.int .i64 (ofSh s).yhi) := (HP.out.ext hW) 10 _ rfl; have c11 : World.cell? W ⟨w.heap.size, 11, none⟩ = some (.int .i64 (ofSh s).off) := (HP.out.ext hW) 11 _ rfl; have c12 : World.cell? W ⟨w.heap.size, 12, none⟩ = some (.slice ot (ofSh s).tins.length cap) := (HP.out.ext hW) 12 _ rfl; have c13 : World.cell? W ⟨w.heap.size, 13, none⟩ = some (.slice om m.length cm) := (HP.out.ext hW) 13 _ rfl; go_simp; first | exact rfl | (split <;> first | exact rfl | (exfalso; omega)) | done))) | refine plan_skip rfl rfl ?_); simp only [puts])
 refine plan_walk rfl ?_; intro K hK
 go_wp2_with (first | (go_at_call 93; refine (R93.out _ HWr.out.drew).mono ?_; rintro e w1 ⟨rfl, hE1⟩))
 have hX1 := (Ext.refl wr).drew.trans hE1
 refine hK _ _ hX1 ?_
 repeat ((first | (refine plan_take (v := ?_) rfl rfl (fun W hW => ?_) ?_; rotate_left; (focus (skip; go_simp; first | exact rfl | (split <;> first | exact rfl | (exfalso; omega)) | done))) | refine plan_skip rfl rfl ?_); simp only [puts])
 refine plan_done ?_
 go_wp2
 go_ret
 exact ⟨rfl, HWr.out.trans hX1⟩

theorem word_sure {s : Sh} {m : List Nat} (h : offOf s m ≤ s.off) : wordOf s m = 3 := if_pos h
theorem word_may {s : Sh} {m : List Nat} (h : ¬ offOf s m ≤ s.off) (h2 : (yearsOf s m).length > 0) : wordOf s m = 2 := by
 rw [wordOf, if_neg h, if_pos]; intro e; rw [e] at h2; simp at h2
theorem word_never {s : Sh} {m : List Nat} (h : ¬ offOf s m ≤ s.off) (h2 : ¬ (yearsOf s m).length > 0) : wordOf s m = 1 := by
 rw [wordOf, if_neg h, if_neg]; intro e; exact h2 (List.length_pos_iff.2 e)


theorem word_any (s : Sh) (g : Fine s) (m : List Nat) (hm : IsMix s m) (ot : Option Addr) (cap : Nat) (om : Option Addr) (cm : Nat) (w : World) (h : TinsAt w ot (ofSh s).tins) (hi : IntsAt w om (upL m)) :
  Calls Tryz.prog 82 #[potV s ot cap om m.length cm] w fun e w' => e = .returned (.int .i64 (wordOf s m)) ∧ Ext w w' := by
 have R93 := Lib.hid (fun W (hW : Ext w W) => off_any s g m hm ot cap om cm W (h.ext hW) (hi.ext hW))
 have R83 := Lib.hid (fun W (hW : Ext w W) => years_any s g m hm ot cap om cm W (h.ext hW) (hi.ext hW))
 have h1 := fun h => word_sure (s := s) (m := m) h
 have h2 := fun h => word_may (s := s) (m := m) h
 have h3 := fun h => word_never (s := s) (m := m) h
 have hlen : (yearsOf s m).length ≤ 21 := by
  have := yearsTo_len s m (s.yhi + 1 - s.ylo)
  rw [yearsTo_end] at this
  have := g.yhi
  omega
 clear h hi hm g
 generalize offOf s m = O at *
 generalize yearsOf s m = Y at *
 have hcase : (O ≤ (s.off : Int)) ∨ (¬ O ≤ (s.off : Int) ∧ Y.length > 0) ∨ (¬ O ≤ (s.off : Int) ∧ ¬ Y.length > 0) := by omega
 rcases hcase with hO | ⟨hO, hY⟩ | ⟨hO, hY⟩
 ·have H1 := Lib.hid (h1 hO)
  have hOf : O ≤ (ofSh s).off := hO
  clear h1 h2 h3 R83 hO
  go_enter Tryz.func82, Tryz.ntmps82
  go_wp2_with fail
  obtain ⟨wr, hwr⟩ : ∃ wr, wr = w.alloc (.cells (potC s ot cap om m.length cm) 108) := ⟨_, rfl⟩
  have HWr := Lib.hid (show Ext w wr by rw [hwr]; exact (Ext.refl w).alloc _)
  have HP := Lib.hid (show PotBox wr w.heap.size s ot cap om m.length cm by rw [hwr]; exact PotBox.new _ _ _ _ _ _ _)
  rw [← hwr]
  clear hwr
  refine wp_region_plan (.take 0 <| .take 2 <| .take 3 <| .take 4 <| .only 1 <| .take 5 <| .take 6 <| .done) (fun W => Ext wr W) mixed (by kernel_rfl) (by kernel_rfl) rfl (fun _ _ d _ _ h => by cases d <;> exact h) ((Ext.refl wr).drew) ?_
  repeat ((first | (refine plan_take (v := ?_) rfl rfl (fun W hW => ?_) ?_; rotate_left; (focus (have c0 : World.cell? W ⟨w.heap.size, 0, none⟩ = some (.int .i64 (ofSh s).o0) := (HP.out.ext hW) 0 _ rfl; have c1 : World.cell? W ⟨w.heap.size, 1, none⟩ = some (.int .i64 (ofSh s).o1) := (HP.out.ext hW) 1 _ rfl; have c2 : World.cell? W ⟨w.heap.size, 2, none⟩ = some (.int .i64 (ofSh s).o2) := (HP.out.ext hW) 2 _ rfl; have c3 : World.cell? W ⟨w.heap.size, 3, none⟩ = some (.int .i64 (ofSh s).a0) := (HP.out.ext hW) 3 _ rfl; have c4 : World.cell? W ⟨w.heap.size, 4, none⟩ = some (.int .i64 (ofSh s).b0) := (HP.out.ext hW) 4 _ rfl; have c5 : World.cell? W ⟨w.heap.size, 5, none⟩ = some (.int .i64 (ofSh s).a1) := (HP.out.ext hW) 5 _ rfl; have c6 : World.cell? W ⟨w.heap.size, 6, none⟩ = some (.int .i64 (ofSh s).b1) := (HP.out.ext hW) 6 _ rfl; have c7 : World.cell? W ⟨w.heap.size, 7, none⟩ = some (.int .i64 (ofSh s).a2) := (HP.out.ext hW) 7 _ rfl; have c8 : World.cell? W ⟨w.heap.size, 8, none⟩ = some (.int .i64 (ofSh s).b2) := (HP.out.ext hW) 8 _ rfl; have c9 : World.cell? W ⟨w.heap.size, 9, none⟩ = some (.int .i64 (ofSh s).ylo) := (HP.out.ext hW) 9 _ rfl; have c10 : World.cell? W ⟨w.heap.size, 10, none⟩ = some (.int .i64 (ofSh s).yhi) := (HP.out.ext hW) 10 _ rfl; have c11 : World.cell? W ⟨w.heap.size, 11, none⟩ = some (.int .i64 (ofSh s).off) := (HP.out.ext hW) 11 _ rfl; have c12 : World.cell? W ⟨w.heap.size, 12, none⟩ = some (.slice ot (ofSh s).tins.length cap) := (HP.out.ext hW) 12 _ rfl; have c13 : World.cell? W ⟨w.heap.size, 13, none⟩ = some (.slice om m.length cm) := (HP.out.ext hW) 13 _ rfl; go_simp; first | exact rfl | (split <;> first | exact rfl | (exfalso; omega)) | done))) | refine plan_skip rfl rfl ?_); simp only [puts])
  refine plan_walk rfl ?_; intro K hK
  go_wp2_with (first | (go_at_call 93; refine (R93.out _ HWr.out.drew).mono ?_; rintro e w1 ⟨rfl, hE1⟩))
  have hX1 := (Ext.refl wr).drew.trans hE1
  refine hK _ _ hX1 ?_
  repeat ((first | (refine plan_take (v := ?_) rfl rfl (fun W hW => ?_) ?_; rotate_left; (focus (skip; go_simp; first | exact rfl | (split <;> first | exact rfl | (exfalso; omega)) | done))) | refine plan_skip rfl rfl ?_); simp only [puts])
  refine plan_done ?_
  have HX := Lib.hid (HWr.out.trans hX1)
  have HP1 := Lib.hid (HP.out.ext hX1)
  clear hE1 hX1 HP
  go_wp2
  go_ret
  exact ⟨by rw [H1.out]; rfl, HX.out⟩
 ·have H2 := Lib.hid (h2 hO hY)
  have hOf : ¬ O ≤ (ofSh s).off := hO
  clear h1 h2 h3 hO
  go_enter Tryz.func82, Tryz.ntmps82
  go_wp2_with fail
  obtain ⟨wr, hwr⟩ : ∃ wr, wr = w.alloc (.cells (potC s ot cap om m.length cm) 108) := ⟨_, rfl⟩
  have HWr := Lib.hid (show Ext w wr by rw [hwr]; exact (Ext.refl w).alloc _)
  have HP := Lib.hid (show PotBox wr w.heap.size s ot cap om m.length cm by rw [hwr]; exact PotBox.new _ _ _ _ _ _ _)
  rw [← hwr]
  clear hwr
  refine wp_region_plan (.take 0 <| .take 2 <| .take 3 <| .take 4 <| .only 1 <| .take 5 <| .take 6 <| .done) (fun W => Ext wr W) mixed (by kernel_rfl) (by kernel_rfl) rfl (fun _ _ d _ _ h => by cases d <;> exact h) ((Ext.refl wr).drew) ?_
  repeat ((first | (refine plan_take (v := ?_) rfl rfl (fun W hW => ?_) ?_; rotate_left; (focus (have c0 : World.cell? W ⟨w.heap.size, 0, none⟩ = some (.int .i64 (ofSh s).o0) := (HP.out.ext hW) 0 _ rfl; have c1 : World.cell? W ⟨w.heap.size, 1, none⟩ = some (.int .i64 (ofSh s).o1) := (HP.out.ext hW) 1 _ rfl; have c2 : World.cell? W ⟨w.heap.size, 2, none⟩ = some (.int .i64 (ofSh s).o2) := (HP.out.ext hW) 2 _ rfl; have c3 : World.cell? W ⟨w.heap.size, 3, none⟩ = some (.int .i64 (ofSh s).a0) := (HP.out.ext hW) 3 _ rfl; have c4 : World.cell? W ⟨w.heap.size, 4, none⟩ = some (.int .i64 (ofSh s).b0) := (HP.out.ext hW) 4 _ rfl; have c5 : World.cell? W ⟨w.heap.size, 5, none⟩ = some (.int .i64 (ofSh s).a1) := (HP.out.ext hW) 5 _ rfl; have c6 : World.cell? W ⟨w.heap.size, 6, none⟩ = some (.int .i64 (ofSh s).b1) := (HP.out.ext hW) 6 _ rfl; have c7 : World.cell? W ⟨w.heap.size, 7, none⟩ = some (.int .i64 (ofSh s).a2) := (HP.out.ext hW) 7 _ rfl; have c8 : World.cell? W ⟨w.heap.size, 8, none⟩ = some (.int .i64 (ofSh s).b2) := (HP.out.ext hW) 8 _ rfl; have c9 : World.cell? W ⟨w.heap.size, 9, none⟩ = some (.int .i64 (ofSh s).ylo) := (HP.out.ext hW) 9 _ rfl; have c10 : World.cell? W ⟨w.heap.size, 10, none⟩ = some (.int .i64 (ofSh s).yhi) := (HP.out.ext hW) 10 _ rfl; have c11 : World.cell? W ⟨w.heap.size, 11, none⟩ = some (.int .i64 (ofSh s).off) := (HP.out.ext hW) 11 _ rfl; have c12 : World.cell? W ⟨w.heap.size, 12, none⟩ = some (.slice ot (ofSh s).tins.length cap) := (HP.out.ext hW) 12 _ rfl; have c13 : World.cell? W ⟨w.heap.size, 13, none⟩ = some (.slice om m.length cm) := (HP.out.ext hW) 13 _ rfl; go_simp; first | exact rfl | (split <;> first | exact rfl | (exfalso; omega)) | done))) | refine plan_skip rfl rfl ?_); simp only [puts])
  refine plan_walk rfl ?_; intro K hK
  go_wp2_with (first | (go_at_call 93; refine (R93.out _ HWr.out.drew).mono ?_; rintro e w1 ⟨rfl, hE1⟩))
  have hX1 := (Ext.refl wr).drew.trans hE1
  refine hK _ _ hX1 ?_
  repeat ((first | (refine plan_take (v := ?_) rfl rfl (fun W hW => ?_) ?_; rotate_left; (focus (skip; go_simp; first | exact rfl | (split <;> first | exact rfl | (exfalso; omega)) | done))) | refine plan_skip rfl rfl ?_); simp only [puts])
  refine plan_done ?_
  have HX := Lib.hid (HWr.out.trans hX1)
  have HP1 := Lib.hid (HP.out.ext hX1)
  clear hE1 hX1 HP
  have c0 := HP1.out 0 _ rfl; have c1 := HP1.out 1 _ rfl; have c2 := HP1.out 2 _ rfl; have c3 := HP1.out 3 _ rfl; have c4 := HP1.out 4 _ rfl; have c5 := HP1.out 5 _ rfl; have c6 := HP1.out 6 _ rfl; have c7 := HP1.out 7 _ rfl; have c8 := HP1.out 8 _ rfl; have c9 := HP1.out 9 _ rfl; have c10 := HP1.out 10 _ rfl; have c11 := HP1.out 11 _ rfl; have c12 := HP1.out 12 _ rfl; have c13 : World.cell? w1 ⟨w.heap.size, 13, none⟩ = some (.slice om m.length cm) := HP1.out 13 _ rfl
  go_wp2_with (first | (go_at_call 83; refine (R83.out _ HX.out).mono ?_; rintro e w2 ⟨⟨oy, cy, rfl, hy⟩, hE2⟩; have HX2 := Lib.hid (HX.out.trans hE2); clear hy hE2; clear c0 c1 c2 c3 c4 c5 c6 c7 c8 c9 c10 c11 c12 c13))
  go_ret
  exact ⟨by rw [H2.out]; rfl, HX2.out⟩
 ·have H3 := Lib.hid (h3 hO hY)
  have hOf : ¬ O ≤ (ofSh s).off := hO
  clear h1 h2 h3 hO
  have hY0 : Y.length = 0 := by omega
  go_enter Tryz.func82, Tryz.ntmps82
  go_wp2_with fail
  obtain ⟨wr, hwr⟩ : ∃ wr, wr = w.alloc (.cells (potC s ot cap om m.length cm) 108) := ⟨_, rfl⟩
  have HWr := Lib.hid (show Ext w wr by rw [hwr]; exact (Ext.refl w).alloc _)
  have HP := Lib.hid (show PotBox wr w.heap.size s ot cap om m.length cm by rw [hwr]; exact PotBox.new _ _ _ _ _ _ _)
  rw [← hwr]
  clear hwr
  refine wp_region_plan (.take 0 <| .take 2 <| .take 3 <| .take 4 <| .only 1 <| .take 5 <| .take 6 <| .done) (fun W => Ext wr W) mixed (by kernel_rfl) (by kernel_rfl) rfl (fun _ _ d _ _ h => by cases d <;> exact h) ((Ext.refl wr).drew) ?_
  repeat ((first | (refine plan_take (v := ?_) rfl rfl (fun W hW => ?_) ?_; rotate_left; (focus (have c0 : World.cell? W ⟨w.heap.size, 0, none⟩ = some (.int .i64 (ofSh s).o0) := (HP.out.ext hW) 0 _ rfl; have c1 : World.cell? W ⟨w.heap.size, 1, none⟩ = some (.int .i64 (ofSh s).o1) := (HP.out.ext hW) 1 _ rfl; have c2 : World.cell? W ⟨w.heap.size, 2, none⟩ = some (.int .i64 (ofSh s).o2) := (HP.out.ext hW) 2 _ rfl; have c3 : World.cell? W ⟨w.heap.size, 3, none⟩ = some (.int .i64 (ofSh s).a0) := (HP.out.ext hW) 3 _ rfl; have c4 : World.cell? W ⟨w.heap.size, 4, none⟩ = some (.int .i64 (ofSh s).b0) := (HP.out.ext hW) 4 _ rfl; have c5 : World.cell? W ⟨w.heap.size, 5, none⟩ = some (.int .i64 (ofSh s).a1) := (HP.out.ext hW) 5 _ rfl; have c6 : World.cell? W ⟨w.heap.size, 6, none⟩ = some (.int .i64 (ofSh s).b1) := (HP.out.ext hW) 6 _ rfl; have c7 : World.cell? W ⟨w.heap.size, 7, none⟩ = some (.int .i64 (ofSh s).a2) := (HP.out.ext hW) 7 _ rfl; have c8 : World.cell? W ⟨w.heap.size, 8, none⟩ = some (.int .i64 (ofSh s).b2) := (HP.out.ext hW) 8 _ rfl; have c9 : World.cell? W ⟨w.heap.size, 9, none⟩ = some (.int .i64 (ofSh s).ylo) := (HP.out.ext hW) 9 _ rfl; have c10 : World.cell? W ⟨w.heap.size, 10, none⟩ = some (.int .i64 (ofSh s).yhi) := (HP.out.ext hW) 10 _ rfl; have c11 : World.cell? W ⟨w.heap.size, 11, none⟩ = some (.int .i64 (ofSh s).off) := (HP.out.ext hW) 11 _ rfl; have c12 : World.cell? W ⟨w.heap.size, 12, none⟩ = some (.slice ot (ofSh s).tins.length cap) := (HP.out.ext hW) 12 _ rfl; have c13 : World.cell? W ⟨w.heap.size, 13, none⟩ = some (.slice om m.length cm) := (HP.out.ext hW) 13 _ rfl; go_simp; first | exact rfl | (split <;> first | exact rfl | (exfalso; omega)) | done))) | refine plan_skip rfl rfl ?_); simp only [puts])
  refine plan_walk rfl ?_; intro K hK
  go_wp2_with (first | (go_at_call 93; refine (R93.out _ HWr.out.drew).mono ?_; rintro e w1 ⟨rfl, hE1⟩))
  have hX1 := (Ext.refl wr).drew.trans hE1
  refine hK _ _ hX1 ?_
  repeat ((first | (refine plan_take (v := ?_) rfl rfl (fun W hW => ?_) ?_; rotate_left; (focus (skip; go_simp; first | exact rfl | (split <;> first | exact rfl | (exfalso; omega)) | done))) | refine plan_skip rfl rfl ?_); simp only [puts])
  refine plan_done ?_
  have HX := Lib.hid (HWr.out.trans hX1)
  have HP1 := Lib.hid (HP.out.ext hX1)
  clear hE1 hX1 HP
  have c0 := HP1.out 0 _ rfl; have c1 := HP1.out 1 _ rfl; have c2 := HP1.out 2 _ rfl; have c3 := HP1.out 3 _ rfl; have c4 := HP1.out 4 _ rfl; have c5 := HP1.out 5 _ rfl; have c6 := HP1.out 6 _ rfl; have c7 := HP1.out 7 _ rfl; have c8 := HP1.out 8 _ rfl; have c9 := HP1.out 9 _ rfl; have c10 := HP1.out 10 _ rfl; have c11 := HP1.out 11 _ rfl; have c12 := HP1.out 12 _ rfl; have c13 : World.cell? w1 ⟨w.heap.size, 13, none⟩ = some (.slice om m.length cm) := HP1.out 13 _ rfl
  go_wp2_with (first | (go_at_call 83; refine (R83.out _ HX.out).mono ?_; rintro e w2 ⟨⟨oy, cy, rfl, hy⟩, hE2⟩; have HX2 := Lib.hid (HX.out.trans hE2); clear hy hE2; clear c0 c1 c2 c3 c4 c5 c6 c7 c8 c9 c10 c11 c12 c13))
  go_ret
  exact ⟨by rw [H3.out]; rfl, HX2.out⟩


theorem sWord_bad (S : SI) (ot : Option Addr) (cap : Nat) (l : List Int) (ol : Option Addr) (cl : Nat) (w : World) (h : TinsAt w ot S.tins) (hl : S.tins.length ≤ 9223372036854775807) (hi : IntsAt w ol l) (hll : l.length ≤ 1000) (hb : (sheetB S && mixB S l) = false) :
  Calls Tryz.prog 28 #[sheetV S ot cap, .slice ol l.length cl] w fun e w' => e = .returned (.tuple #[.int .i64 0, .int .i64 2]) ∧ Ext w w' := by
 have R72 := Lib.hid (fun W (hW : Ext w W) => isSheet_any S ot cap W (h.ext hW) hl)
 have R73 := Lib.hid (fun W (hW : Ext w W) => isMix_any S ot cap l ol cl W (hi.ext hW) hll)
 clear h hi hl hll
 cases h1 : sheetB S
 ·rw [h1] at R72
  clear h1 hb R73
  go_enter Tryz.func28, Tryz.ntmps28
  go_wp2_with (first | (go_at_call 72; refine (R72.out _ (((Ext.refl w).alloc _))).mono ?_; rintro e w1 ⟨rfl, hE1⟩; have HE1 := Lib.hid ((((Ext.refl w).alloc _)).trans hE1); have HS := Lib.hid ((SheetBox.new w S ot cap).ext hE1); clear hE1; have c0 := HS.out 0 _ rfl; have c1 := HS.out 1 _ rfl; have c2 := HS.out 2 _ rfl; have c3 := HS.out 3 _ rfl; have c4 := HS.out 4 _ rfl; have c5 := HS.out 5 _ rfl; have c6 := HS.out 6 _ rfl; have c7 := HS.out 7 _ rfl; have c8 := HS.out 8 _ rfl; have c9 := HS.out 9 _ rfl; have c10 := HS.out 10 _ rfl; have c11 := HS.out 11 _ rfl; have c12 := HS.out 12 _ rfl))
  go_ret2
  exact ⟨rfl, HE1.out⟩
 ·rw [h1] at R72 hb
  rw [Bool.true_and] at hb
  rw [hb] at R73
  clear h1 hb
  go_enter Tryz.func28, Tryz.ntmps28
  go_wp2_with (first | (go_at_call 72; refine (R72.out _ (((Ext.refl w).alloc _))).mono ?_; rintro e w1 ⟨rfl, hE1⟩; have HE1 := Lib.hid ((((Ext.refl w).alloc _)).trans hE1); have HS := Lib.hid ((SheetBox.new w S ot cap).ext hE1); clear hE1; have c0 := HS.out 0 _ rfl; have c1 := HS.out 1 _ rfl; have c2 := HS.out 2 _ rfl; have c3 := HS.out 3 _ rfl; have c4 := HS.out 4 _ rfl; have c5 := HS.out 5 _ rfl; have c6 := HS.out 6 _ rfl; have c7 := HS.out 7 _ rfl; have c8 := HS.out 8 _ rfl; have c9 := HS.out 9 _ rfl; have c10 := HS.out 10 _ rfl; have c11 := HS.out 11 _ rfl; have c12 := HS.out 12 _ rfl) | (go_at_call 73; refine (R73.out _ HE1.out).mono ?_; rintro e w2 ⟨rfl, hE2⟩; replace HS := Lib.hid (HS.out.ext hE2); clear c0 c1 c2 c3 c4 c5 c6 c7 c8 c9 c10 c11 c12; have c0 := HS.out 0 _ rfl; have c1 := HS.out 1 _ rfl; have c2 := HS.out 2 _ rfl; have c3 := HS.out 3 _ rfl; have c4 := HS.out 4 _ rfl; have c5 := HS.out 5 _ rfl; have c6 := HS.out 6 _ rfl; have c7 := HS.out 7 _ rfl; have c8 := HS.out 8 _ rfl; have c9 := HS.out 9 _ rfl; have c10 := HS.out 10 _ rfl; have c11 := HS.out 11 _ rfl; have c12 := HS.out 12 _ rfl; replace HE1 := Lib.hid (HE1.out.trans hE2); clear hE2))
  go_ret2
  exact ⟨rfl, HE1.out⟩

theorem sWord_ok (s : Sh) (g : Fine s) (m : List Nat) (hm : IsMix s m) (ot : Option Addr) (cap : Nat) (ol : Option Addr) (cl : Nat) (w : World) (h : TinsAt w ot (ofSh s).tins) (hi : IntsAt w ol (upL m)) :
  Calls Tryz.prog 28 #[sheetV (ofSh s) ot cap, .slice ol m.length cl] w fun e w' => e = .returned (.tuple #[.int .i64 (wordOf s m), .int .i64 0]) ∧ Ext w w' := by
 have hl : (ofSh s).tins.length ≤ 9223372036854775807 := by rw [tins_len]; have := g.len2; omega
 have hll : (upL m).length ≤ 1000 := by rw [upL_length, hm.len]; have := g.len2; omega
 have R72 := Lib.hid (fun W (hW : Ext w W) => isSheet_any (ofSh s) ot cap W (h.ext hW) hl)
 rw [sheet_of g] at R72
 have R73 := Lib.hid (fun W (hW : Ext w W) => isMix_any (ofSh s) ot cap (upL m) ol cl W (hi.ext hW) hll)
 rw [mix_of hm, upL_length] at R73
 have R82 := Lib.hid (fun W (hW : Ext w W) => word_any s g m hm ot cap ol cl W (h.ext hW) (hi.ext hW))
 obtain ⟨S, hS⟩ : ∃ S, S = ofSh s := ⟨_, rfl⟩
 rw [← hS] at R72 R73 ⊢
 have HSS := Lib.hid hS
 clear h hi hl hll g hm hS
 go_enter Tryz.func28, Tryz.ntmps28
 go_wp2_with (first | (go_at_call 72; refine (R72.out _ (((Ext.refl w).alloc _))).mono ?_; rintro e w1 ⟨rfl, hE1⟩; have HE1 := Lib.hid ((((Ext.refl w).alloc _)).trans hE1); have HS := Lib.hid ((SheetBox.new w S ot cap).ext hE1); clear hE1; have c0 := HS.out 0 _ rfl; have c1 := HS.out 1 _ rfl; have c2 := HS.out 2 _ rfl; have c3 := HS.out 3 _ rfl; have c4 := HS.out 4 _ rfl; have c5 := HS.out 5 _ rfl; have c6 := HS.out 6 _ rfl; have c7 := HS.out 7 _ rfl; have c8 := HS.out 8 _ rfl; have c9 := HS.out 9 _ rfl; have c10 := HS.out 10 _ rfl; have c11 := HS.out 11 _ rfl; have c12 := HS.out 12 _ rfl) | (go_at_call 73; refine (R73.out _ HE1.out).mono ?_; rintro e w2 ⟨rfl, hE2⟩; replace HS := Lib.hid (HS.out.ext hE2); clear c0 c1 c2 c3 c4 c5 c6 c7 c8 c9 c10 c11 c12; have c0 := HS.out 0 _ rfl; have c1 := HS.out 1 _ rfl; have c2 := HS.out 2 _ rfl; have c3 := HS.out 3 _ rfl; have c4 := HS.out 4 _ rfl; have c5 := HS.out 5 _ rfl; have c6 := HS.out 6 _ rfl; have c7 := HS.out 7 _ rfl; have c8 := HS.out 8 _ rfl; have c9 := HS.out 9 _ rfl; have c10 := HS.out 10 _ rfl; have c11 := HS.out 11 _ rfl; have c12 := HS.out 12 _ rfl; replace HE1 := Lib.hid (HE1.out.trans hE2); clear hE2) | (go_at_call 82; rw [HSS.out]; refine (R82.out _ HE1.out).mono ?_; rintro e w3 ⟨rfl, hE3⟩; have HE3 := Lib.hid (HE1.out.trans hE3); clear hE3))
 go_ret2
 exact ⟨rfl, HE3.out⟩

end Go.Proofs.YtjpekonfjihcoaaGreatDoor
