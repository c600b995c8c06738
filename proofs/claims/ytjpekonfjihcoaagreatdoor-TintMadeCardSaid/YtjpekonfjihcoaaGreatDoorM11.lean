/- Contracts and mathematics, joined: Clone. Conditions stand with each. -/
import Derived.Below
import Derived.BigQuiet
import Derived.Deep.DeepCutAuto
import Derived.Deep.DeepFit
import Derived.Deep.LoopGhost
import Derived.Deep.QuietTactic
import Derived.Deep.RegionHeld
import Derived.Deep.RegionHeld3
import Derived.Deep.RegionWith
import Derived.Lib.Hide
import Derived.OrdersHeld
import Derived.OwnWalkIn
import Derived.RangeFuncBound
import Derived.RangeFuncCalls
import Derived.RangeFuncLeaves
import Derived.RangeFuncNested
import Derived.Test.YtjpekonfjihcoaaGreatDoorProg
import Derived.WalkKit
import Derived.WalkLawsBesides
import Derived.WalkSpells
import Derived.Test.YtjpekonfjihcoaaGreatDoorM9
import Derived.Test.YtjpekonfjihcoaaGreatDoorM4
import Derived.Test.YtjpekonfjihcoaaGreatDoorM2
import Derived.Test.YtjpekonfjihcoaaGreatDoorM1
namespace Go.TintM
end Go.TintM
set_option maxRecDepth 100000
set_option maxHeartbeats 64000000
set_option linter.unusedVariables false
set_option linter.unusedSimpArgs false
/- Contract: slices.Clone. Numbers of one's own. No condition. -/
namespace Go.Proofs.YtjpekonfjihcoaaGreatDoor
open Go.RowKit Go.My Go.TintM

theorem eq29n (w : World) : (binOp BinOp.eql 29 (.slice none 0 0) (.slice none 0 0)).run Tryz.prog w = .ok (.bool true) w := by kernel_rfl
theorem eq29s (ad : Addr) (n c : Nat) (w : World) : (binOp BinOp.eql 29 (.slice (some ad) n c) (.slice none 0 0)).run Tryz.prog w = .ok (.bool false) w := by kernel_rfl

theorem clone_any (xs : List Value) (oa : Option Addr) (cap : Nat) (w : World) (hx : ∀ (ad : Addr) (i : Nat) (u : Value), oa = some ad → xs[i]? = some u → w.cell? (ad.add i) = some u) (h1 : ∀ u ∈ xs, u.oneCell' = true) (hl : xs.length ≤ 1000)
  (hn : oa = none → xs = [] ∧ cap = 0) : Calls Tryz.prog 125 #[.slice oa xs.length cap] w fun e w' => ∃ v, e = .returned v ∧ My.Own w' w.heap.size 3 v xs ∧ Ext w w' := by
 cases oa with
 | none =>
  obtain ⟨rfl, rfl⟩ := hn rfl
  clear hx h1 hn hl
  have e0 := eq29n
  have e1 := eq29s
  go_enter Tryz.func125, Tryz.ntmps125
  go_wp2
  go_ret
  exact ⟨_, rfl, My.Own.nil _ _ _, Ext.refl _⟩
 | some ad =>
  have hx' := Lib.hid (fun i u h => hx ad i u rfl h); clear hx
  have H1 := Lib.hid h1; clear h1
  have hE := (Ext.refl w).alloc (.cells #[] 3)
  have hown : My.Own (w.alloc (.cells #[] 3)) w.heap.size 3 (.slice (some ⟨w.heap.size, 0, none⟩) 0 0) [] := ⟨rfl, .inr ⟨w.heap.size, 0, #[], rfl, Nat.le_refl _, heap_alloc_new _ _, Nat.le_refl _, by decide, rfl, rfl⟩⟩
  have Hown := Lib.hid hown; clear hown
  obtain ⟨ii, hi1, hi2, hi3, hi4⟩ := info_parts i3
  have e0 := eq29n
  have e1 := eq29s
  go_enter Tryz.func125, Tryz.ntmps125
  go_wp2_with (first | (at_builtin; refine wpList_append_own _ rfl _ _ 29 rfl w.heap.size 3 ii (.int .i64 0) 1 8 Tryz.underlying29 hi1 hi2 hi3 hi4 rfl (by decide) _ 0 [] rfl Hown.out ad xs.length cap xs rfl (by simp) (fun j u hj => cell_ext hE (hx'.out j u hj)) H1.out (by unfold maxLen; omega) (by omega) hE.size ?_; intro v' w2 ho hg _))
  go_ret
  rw [Nat.zero_add] at ho
  exact ⟨_, rfl, by simpa [My.Own] using ho, ext_own hE hg (Nat.le_refl _)⟩

theorem oneInts (l : List Int) : ∀ u ∈ l.map (Value.int .i64), u.oneCell' = true := fun u hu => by
 obtain ⟨x, _, rfl⟩ := List.mem_map.1 hu; rfl
theorem clone_ints {l : List Int} {oa : Option Addr} {cap : Nat} {w : World} (h : IntsAt w oa l) (hl : l.length ≤ 1000) (hn : oa = none → cap = 0) (hc : l.length ≤ cap) :
  Calls Tryz.prog 125 #[.slice oa l.length cap] w fun e w' => ∃ v, e = .returned v ∧ My.Own w' w.heap.size 3 v (l.map (Value.int .i64)) ∧ Ext w w' := by
 have := clone_any (l.map (Value.int .i64)) oa cap w (fun ad i u ha hu => by
  rw [List.getElem?_map] at hu
  cases hx : l[i]? with
  | none => rw [hx] at hu; cases hu
  | some x =>
   rw [hx] at hu
   simp only [Option.map_some, Option.some.injEq] at hu
   subst hu
   obtain ⟨b, off, h1, _, h2⟩ := h i x hx
   rw [ha, Option.some.injEq] at h1
   subst h1
   rw [add_none]; exact h2) (oneInts l) (by rw [List.length_map]; exact hl) (fun h0 => by
    have := hn h0
    exact ⟨by rw [List.map_eq_nil_iff]; exact List.eq_nil_of_length_eq_zero (by omega), this⟩)
 rwa [List.length_map] at this

/-! one's own numbers -/
theorem _root_.Go.My.Own.mv {I : Nat → Prop} {w w' : World} {B : Nat} {e : TypeId} {v : Value} {xs : List Value} (h : My.Own w B e v xs) (hM : Mv I w w') (hI : ∀ b, v.ownBlock = some b → ¬ I b) : My.Own w' B e v xs := by
 refine ⟨h.1, ?_⟩
 rcases h.2 with h2 | ⟨g, cap, cur, hv, hb, hg, r⟩
 ·exact .inl h2
 ·exact .inr ⟨g, cap, cur, hv, hb, hM.heap (hI g (by rw [hv]; rfl)) hg, r⟩
theorem _root_.Go.My.Own.lt {w : World} {B : Nat} {e : TypeId} {v : Value} {xs : List Value} (h : My.Own w B e v xs) : ∀ b, v.ownBlock = some b → B ≤ b ∧ b < w.heap.size := World.ownsRow.lt h
theorem _root_.Go.My.Own.low {w : World} {b b' : Nat} {e : TypeId} {v : Value} {xs : List Value} (h : My.Own w b e v xs) (hb : b' ≤ b) : My.Own w b' e v xs := by
 refine ⟨h.1, ?_⟩
 rcases h.2 with h2 | ⟨g, cap, cur, hv, hg, r⟩
 ·exact .inl h2
 ·exact .inr ⟨g, cap, cur, hv, Nat.le_trans hb hg, r⟩
theorem own_put {W : World} {B l : Nat} {e : TypeId} {x : Value} {xs : List Value} {o o' : Obj} (h : My.Own W B e x xs) (hl : W.heap[l]? = some o) (ho : o.isCells = false) : My.Own (W.putObj l o') B e x xs := by
 refine ⟨h.1, ?_⟩
 rcases h.2 with h2 | ⟨g, cap, cur, hv, hb, hg, r⟩
 ·exact .inl h2
 ·refine .inr ⟨g, cap, cur, hv, hb, (World.putObj_heap_other ?_).trans hg, r⟩
  rintro rfl
  rw [hl] at hg
  cases hg
  simp [Obj.isCells] at ho
theorem _root_.Go.My.Own.cut {w : World} {B : Nat} {e : TypeId} {oa : Option Addr} {n cap : Nat} {xs : List Value} {x : Value} (h : My.Own w B e (.slice oa (n + 1) cap) (xs ++ [x])) (hn : xs.length = n) : My.Own w B e (.slice oa n cap) xs := by
 refine ⟨by simp, ?_⟩
 rcases h.2 with ⟨h2, _⟩ | ⟨g, cap', cur, hv, hb, hg, h1, h2, h3, h4⟩
 ·cases h2
 ·simp only [Value.slice.injEq] at hv
  obtain ⟨rfl, _, rfl⟩ := hv
  rw [List.length_append, List.length_singleton] at h1 h4
  refine .inr ⟨g, cap, cur, by rw [hn], hb, hg, by omega, h2, h3, ?_⟩
  have h5 := congrArg (List.take xs.length) h4
  rw [List.take_take, Nat.min_eq_left (by omega), List.take_append_of_le_length (Nat.le_refl _), List.take_length] at h5
  rw [Nat.mul_one]; exact h5

end Go.Proofs.YtjpekonfjihcoaaGreatDoor
