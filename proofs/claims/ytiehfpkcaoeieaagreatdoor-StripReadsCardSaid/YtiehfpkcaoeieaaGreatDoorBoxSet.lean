/- A board's box is written; a slice of one number. No condition. -/
import Derived.Test.YtiehfpkcaoeieaaGreatDoorRowSet
import Derived.Test.YtiehfpkcaoeieaaGreatDoorRefOnly2
import Derived.Test.YtiehfpkcaoeieaaGreatDoorShare
set_option linter.unusedVariables false
set_option linter.unusedSimpArgs false
namespace Go.Proofs.YtiehfpkcaoeieaaGreatDoor
open Go.RowKit Go.My Go.StripM

theorem one_ints (W : World) (x : Nat) : IntsAt (W.alloc (.cells #[.int .i64 x] 3)) (some ⟨W.heap.size, 0, none⟩) (up [x]) := by
  intro i y hy
  have h0 : i = 0 := by
    have := (List.getElem?_eq_some_iff.1 hy).1
    simp [up] at this; omega
  subst h0
  simp only [up, List.map_cons, List.map_nil, List.getElem?_cons_zero, Option.some.injEq] at hy
  subst hy
  exact ⟨_, _, rfl, by simp, by go_simp⟩
theorem OwnR.rowsAt {w : World} {B base len cap : Nat} {o : Option Addr} {rows : List (List Nat)} (h : OwnR w B base (.slice o len cap) rows) : RowsAt w o (upp rows) := by
  obtain ⟨o4, c4, hv4, _, _, _, hr4⟩ := h.slice
  simp only [Value.slice.injEq] at hv4
  rw [← hv4.1] at hr4
  exact hr4
/-- What the box of a board holds. -/
structure YBox (W : World) (q : Nat) (n : Nat) (len cap : Nat) (oy : Option Addr) : Prop where
  c0 : W.cell? ⟨q, 0, none⟩ = some (.int .i64 n)
  c1 : W.cell? ⟨q, 1, none⟩ = some (.slice oy len cap)
theorem YBox.ext {W W' : World} {q n len cap : Nat} {oy : Option Addr} (h : YBox W q n len cap oy) (hE : Ext W W') : YBox W' q n len cap oy := ⟨cell_ext hE h.c0, cell_ext hE h.c1⟩
/-- An empty box of a board, alone its own. -/
structure ZBox (W : World) (q : Nat) : Prop where
  c0 : W.cell? ⟨q, 0, none⟩ = some (.int .i64 0)
  c1 : W.cell? ⟨q, 1, none⟩ = some (.slice none 0 0)
  f0 : W.frozen? ⟨q, 0, none⟩ = false
  f1 : W.frozen? ⟨q, 1, none⟩ = false
  tag : ∃ c, W.heap[q]? = some (.cells c 24 (0, 0))
theorem ZBox.new (W : World) : ZBox (W.alloc (.cells #[.int .i64 0, .slice none 0 0] 24)) W.heap.size := ⟨by go_simp, by go_simp, by go_simp, by go_simp, ⟨_, heap_alloc_new _ _⟩⟩
theorem ZBox.ext {W W' : World} {q : Nat} (h : ZBox W q) (hE : Ext W W') : ZBox W' q := by
  obtain ⟨c, hc⟩ := h.tag
  exact ⟨cell_ext hE h.c0, cell_ext hE h.c1, (hE.frozen (World.block_lt_of_cell? _ _ h.c0)).trans h.f0, (hE.frozen (World.block_lt_of_cell? _ _ h.c1)).trans h.f1, ⟨c, (hE.block q (Array.getElem?_eq_some_iff.1 hc).1).trans hc⟩⟩
theorem ZBox.put {W w0 : World} {q B base n len cap : Nat} {oy : Option Addr} {rows : List (List Nat)} (h : ZBox W q) (hE : Ext w0 W) (hq : w0.heap.size ≤ q) (own : OwnR W B base (.slice oy len cap) rows) (h1 : B ≤ q) (h2 : q < base) :
    Ext w0 ((W.setCell ⟨q, 0, none⟩ (.int .i64 n)).setCell ⟨q, 1, none⟩ (.slice oy len cap)) ∧ YBox ((W.setCell ⟨q, 0, none⟩ (.int .i64 n)).setCell ⟨q, 1, none⟩ (.slice oy len cap)) q n len cap oy ∧
      RowsAt ((W.setCell ⟨q, 0, none⟩ (.int .i64 n)).setCell ⟨q, 1, none⟩ (.slice oy len cap)) oy (upp rows) := by
  refine ⟨ext_own (ext_own hE ((Turned.refl q _).set 0 _) hq) ((Turned.refl q _).set 1 _) hq, ⟨?_, ?_⟩, ?_⟩
  · rw [World.cell?_setCell_other _ _ _ _ (by simp)]; exact World.cell?_setCell_same _ _ _ h.c0
  · exact World.cell?_setCell_same _ _ _ ((World.cell?_setCell_other _ _ _ _ (by simp)).trans h.c1)
  · have hh := (own.turned ((Turned.refl q W).set 0 (.int .i64 n)) h1 h2 (tag_set h.tag (by decide))).turned ((Turned.refl q _).set 1 (.slice oy len cap)) h1 h2 (tag_set (tag_cell _ _ h.tag) (by decide))
    obtain ⟨o4, c4, hv4, _, _, _, hr4⟩ := hh.slice
    simp only [Value.slice.injEq] at hv4
    rw [← hv4.1] at hr4
    exact hr4
theorem ZBox.putNew {W w0 : World} {n len cap : Nat} {oy : Option Addr} {ls : List (List Int)} (hE : Ext w0 W) (hr : RowsAt W oy ls) :
    Ext w0 (W.alloc (.cells #[.int .i64 n, .slice oy len cap] 24)) ∧ YBox (W.alloc (.cells #[.int .i64 n, .slice oy len cap] 24)) W.heap.size n len cap oy ∧ RowsAt (W.alloc (.cells #[.int .i64 n, .slice oy len cap] 24)) oy ls :=
  ⟨hE.alloc _, ⟨by go_simp, by go_simp⟩, hr.ext ((Ext.refl W).alloc _)⟩

end Go.Proofs.YtiehfpkcaoeieaaGreatDoor
