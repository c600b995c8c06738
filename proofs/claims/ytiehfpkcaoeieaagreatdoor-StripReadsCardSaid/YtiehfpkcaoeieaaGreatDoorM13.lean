/- Contracts and mathematics, joined: Known1, Known2, Known3. Conditions stand with each. -/
import Derived.Test.YtiehfpkcaoeieaaGreatDoorM11
import Derived.Test.YtiehfpkcaoeieaaGreatDoorM12
import Derived.Test.YtiehfpkcaoeieaaGreatDoorM9
import Derived.Test.YtiehfpkcaoeieaaGreatDoorM15
import Derived.Test.YtiehfpkcaoeieaaGreatDoorM10
import Derived.Test.YtiehfpkcaoeieaaGreatDoorM8
import Derived.Test.YtiehfpkcaoeieaaGreatDoorM6
import Derived.Test.YtiehfpkcaoeieaaGreatDoorM7
set_option linter.unusedVariables false
set_option linter.unusedSimpArgs false
/- Contracts: the examples' boards A, B, C. No condition. -/
namespace Go.Proofs.YtiehfpkcaoeieaaGreatDoor
open Go.RowKit Go.My Go.StripM

abbrev two (x y : Int) : Obj := .cells #[.int .i64 x, .int .i64 y] 3
abbrev sl (b n : Nat) : Value := .slice (some ⟨b, 0, none⟩) n n

theorem two_ints {w : World} {b : Nat} {x y : Int} (h : w.heap[b]? = some (two x y)) : IsInts w (sl b 2) [x, y] := by
  refine ⟨_, 2, rfl, Nat.le_refl _, by decide, (fun h => by cases h), fun i z hz => ⟨b, 0, rfl, (Array.getElem?_eq_some_iff.1 h).1, ?_⟩⟩
  rw [cell_of_row w b (0 + i) _ 3 (0, 0) h]
  match i, hz with
  | 0, hz => simp at hz; subst hz; rfl
  | 1, hz => simp at hz; subst hz; rfl

/-- What A lays. -/
def wA (w : World) : World :=
  ((((w.alloc (.cells #[.int .i64 4, sl (w.heap.size + 4) 3] 24)).alloc (two 0 1)).alloc (two 2 1)).alloc (two 2 3)).alloc (.cells #[sl (w.heap.size + 1) 2, sl (w.heap.size + 2) 2, sl (w.heap.size + 3) 2] 27)

theorem a_any (w : World) : Calls Tryz.prog 70 #[] w fun e w' => e = .returned (.agg #[.int .i64 4, sl (w.heap.size + 4) 3]) ∧ w' = wA w := by
  go_enter Tryz.func70, Tryz.ntmps70
  go_wp2
  refine bodyPost_ret (v := .agg #[.int .i64 4, sl (w.heap.size + 4) 3]) (results_cell24 rfl _ _ w.heap.size _ _ (by simp) (by go_simp) (by go_simp)) (by simp) ⟨rfl, ?_⟩
  rfl

theorem heap_old {w : World} {i : Nat} {o p : Obj} (h : w.heap[i]? = some o) : (w.alloc p).heap[i]? = some o :=
  (Below.heap_alloc _ _ _ (Array.getElem?_eq_some_iff.1 h).1).trans h
theorem heap_new {w : World} {i : Nat} {o : Obj} (h : i = w.heap.size) : (w.alloc o).heap[i]? = some o := by subst h; exact heap_alloc_new w o

theorem wA_ext (w : World) : Ext w (wA w) := (((((Ext.refl w).alloc _).alloc _).alloc _).alloc _).alloc _
theorem wA_size (w : World) : (wA w).heap.size = w.heap.size + 5 := by simp [wA]
theorem wA_1 (w : World) : (wA w).heap[w.heap.size + 1]? = some (two 0 1) := heap_old (heap_old (heap_old (heap_new (by simp))))
theorem wA_2 (w : World) : (wA w).heap[w.heap.size + 2]? = some (two 2 1) := heap_old (heap_old (heap_new (by simp)))
theorem wA_3 (w : World) : (wA w).heap[w.heap.size + 3]? = some (two 2 3) := heap_old (heap_new (by simp))
theorem wA_4 (w : World) : (wA w).heap[w.heap.size + 4]? = some (.cells #[sl (w.heap.size + 1) 2, sl (w.heap.size + 2) 2, sl (w.heap.size + 3) 2] 27) := heap_new (by simp)

/-- The spots of A, B, C. -/
abbrev sA : List (List Nat) := [[0, 1], [2, 1], [2, 3]]
abbrev sB : List (List Nat) := [[0, 1], [2, 1], [2, 3], [1, 3, 2]]
abbrev sC : List (List Nat) := [[0, 1], [2, 0]]

theorem rows_block {w : World} {g : Nat} {xs : List Value} {ls : List (List Int)} (hg : w.heap[g]? = some (.cells xs.toArray 27 (0, 0))) (hl : xs.length = ls.length) (hm : ls.length ≤ maxLen)
    (hx : ∀ (i : Nat) (l : List Int), ls[i]? = some l → ∃ u, xs[i]? = some u ∧ IsInts w u l) : IsRows w (sl g ls.length) ls := by
  refine ⟨_, ls.length, rfl, Nat.le_refl _, hm, (fun h => by cases h), fun i l hi => ?_⟩
  obtain ⟨u, h1, h2⟩ := hx i l hi
  refine ⟨g, 0, u, rfl, (Array.getElem?_eq_some_iff.1 hg).1, ?_, h2⟩
  rw [cell_of_row w g (0 + i) _ 27 (0, 0) hg]
  simpa using h1

theorem wA_rows (w : World) : IsRows (wA w) (sl (w.heap.size + 4) 3) (upp sA) :=
  rows_block (ls := upp sA) (wA_4 w) rfl (by decide) fun i l hl => by
    match i, hl with
    | 0, hl => simp [upp, up] at hl; subst hl; exact ⟨_, rfl, two_ints (wA_1 w)⟩
    | 1, hl => simp [upp, up] at hl; subst hl; exact ⟨_, rfl, two_ints (wA_2 w)⟩
    | 2, hl => simp [upp, up] at hl; subst hl; exact ⟨_, rfl, two_ints (wA_3 w)⟩

theorem a_rows (w : World) : Calls Tryz.prog 70 #[] w fun e w' => (∃ oa, e = .returned (.agg #[.int .i64 4, .slice oa 3 3]) ∧ (oa = none → 3 = 0) ∧ RowsAt w' oa (upp sA)) ∧ Ext w w' :=
  (a_any w).mono fun e w' ⟨h1, h2⟩ => by
    subst h2
    obtain ⟨oa, cap, h3, _, _, _, h4⟩ := wA_rows w
    simp only [Value.slice.injEq] at h3
    exact ⟨⟨some ⟨w.heap.size + 4, 0, none⟩, h1, (fun h => by cases h), h3.1 ▸ h4⟩, wA_ext w⟩

def wC (w : World) : World :=
  (((w.alloc (.cells #[.int .i64 3, sl (w.heap.size + 3) 2] 24)).alloc (two 0 1)).alloc (two 2 0)).alloc (.cells #[sl (w.heap.size + 1) 2, sl (w.heap.size + 2) 2] 27)
theorem c_any (w : World) : Calls Tryz.prog 72 #[] w fun e w' => e = .returned (.agg #[.int .i64 3, sl (w.heap.size + 3) 2]) ∧ w' = wC w := by
  go_enter Tryz.func72, Tryz.ntmps72
  go_wp2
  refine bodyPost_ret (v := .agg #[.int .i64 3, sl (w.heap.size + 3) 2]) (results_cell24 rfl _ _ w.heap.size _ _ (by simp) (by go_simp) (by go_simp)) (by simp) ⟨rfl, ?_⟩
  rfl
theorem wC_rows (w : World) : IsRows (wC w) (sl (w.heap.size + 3) 2) (upp sC) :=
  rows_block (g := w.heap.size + 3) (ls := upp sC) (heap_new (by simp)) rfl (by decide) fun i l hl => by
    match i, hl with
    | 0, hl => simp [upp, up] at hl; subst hl; exact ⟨_, rfl, two_ints (heap_old (heap_old (heap_new (by simp))))⟩
    | 1, hl => simp [upp, up] at hl; subst hl; exact ⟨_, rfl, two_ints (heap_old (heap_new (by simp)))⟩
theorem c_rows (w : World) : Calls Tryz.prog 72 #[] w fun e w' => (∃ oa, e = .returned (.agg #[.int .i64 3, .slice oa 2 2]) ∧ RowsAt w' oa (upp sC)) ∧ Ext w w' :=
  (c_any w).mono fun e w' ⟨h1, h2⟩ => by
    subst h2
    obtain ⟨oa, cap, h3, _, _, _, h4⟩ := wC_rows w
    simp only [Value.slice.injEq] at h3
    exact ⟨⟨some ⟨w.heap.size + 3, 0, none⟩, h1, h3.1 ▸ h4⟩, (((Ext.refl w).alloc _).alloc _).alloc _ |>.alloc _⟩

abbrev bxs (w : World) : List Value := [sl (w.heap.size + 1) 2, sl (w.heap.size + 2) 2, sl (w.heap.size + 3) 2]
theorem a_own (w : World) : My.Own (wA w) w.heap.size 27 (sl (w.heap.size + 4) 3) (bxs w) := by
  refine ⟨rfl, .inr ⟨w.heap.size + 4, 3, #[sl (w.heap.size + 1) 2, sl (w.heap.size + 2) 2, sl (w.heap.size + 3) 2], rfl, by omega, wA_4 w, Nat.le_refl _, by decide, rfl, rfl⟩⟩

structure AFor (w w' : World) (g r1 r2 r3 : Nat) : Prop where
  own : My.Own w' w.heap.size 27 (sl g 3) [sl r1 2, sl r2 2, sl r3 2]
  n1 : r1 ≠ g
  n2 : r2 ≠ g
  n3 : r3 ≠ g
  h1 : w'.heap[r1]? = some (two 0 1)
  h2 : w'.heap[r2]? = some (two 2 1)
  h3 : w'.heap[r3]? = some (two 2 3)
  hg : g < w'.heap.size
  lo : w.heap.size ≤ g
  ext : Ext w w'
theorem a_for (w : World) : Calls Tryz.prog 70 #[] w fun e w' => ∃ g r1 r2 r3, e = .returned (.agg #[.int .i64 4, sl g 3]) ∧ AFor w w' g r1 r2 r3 :=
  (a_any w).mono fun e w' ⟨h1, h2⟩ => by
    subst h2
    exact ⟨_, _, _, _, h1, a_own w, by omega, by omega, by omega, wA_1 w, wA_2 w, wA_3 w, by rw [wA_size]; omega, by omega, wA_ext w⟩

theorem three_ints {w : World} {b : Nat} {x y z : Int} (h : w.heap[b]? = some (.cells #[.int .i64 x, .int .i64 y, .int .i64 z] 3)) : IsInts w (sl b 3) [x, y, z] := by
  refine ⟨_, 3, rfl, Nat.le_refl _, by decide, (fun h => by cases h), fun i u hz => ⟨b, 0, rfl, (Array.getElem?_eq_some_iff.1 h).1, ?_⟩⟩
  rw [cell_of_row w b (0 + i) _ 3 (0, 0) h]
  match i, hz with
  | 0, hz => simp at hz; subst hz; rfl
  | 1, hz => simp at hz; subst hz; rfl
  | 2, hz => simp at hz; subst hz; rfl

theorem own_rows3 {W W' : World} {B : Nat} {oa : Option Addr} {n cap : Nat} {xs : List Value} {ls : List (List Int)} (h : My.Own W B 27 (.slice oa n cap) xs) (hk : ∀ (b : Nat) (c : Array Value) (t : TypeId), t ≠ 24 → W.heap[b]? = some (.cells c t (0, 0)) → W'.heap[b]? = some (.cells c t (0, 0)))
    (hl : xs.length = ls.length) (hx : ∀ (i : Nat) (l : List Int), ls[i]? = some l → ∃ u, xs[i]? = some u ∧ IsInts W' u l) : RowsAt W' oa ls := by
  have h' : My.Own W' B 27 (.slice oa n cap) xs := by
    refine ⟨h.1, ?_⟩
    rcases h.2 with h2 | ⟨g, c2, cur, hv, hb, hg, r⟩
    · exact .inl h2
    · exact .inr ⟨g, c2, cur, hv, hb, hk _ _ _ (by decide) hg, r⟩
  obtain ⟨oa', cap', hv, _, _, _, hr⟩ := rows_of_own h' hl hx
  simp only [Value.slice.injEq] at hv
  rw [hv.1]
  exact hr

theorem b_fin {w7 : World} {B p q r1 r2 r3 s : Nat} {oa : Option Addr} {n cap : Nat} {c d : Array Value} (h : My.Own w7 B 27 (.slice oa n cap) [sl r1 2, sl r2 2, sl r3 2, sl s 3]) (q1 : w7.heap[r1]? = some (two 0 1)) (q2 : w7.heap[r2]? = some (two 2 1)) (q3 : w7.heap[r3]? = some (two 2 3))
    (q4 : w7.heap[s]? = some (.cells #[.int .i64 1, .int .i64 3, .int .i64 2] 3)) (hp : w7.heap[p]? = some (.cells c 24)) (hq : w7.heap[q]? = some (.cells d 24)) (x y z : Value) :
    RowsAt (((w7.setCell ⟨p, 1, none⟩ x).setCell ⟨q, 0, none⟩ y).setCell ⟨q, 1, none⟩ z) oa (upp sB) := by
  have hk : ∀ (b : Nat) (c : Array Value) (t : TypeId), t ≠ 24 → w7.heap[b]? = some (.cells c t (0, 0)) → (((w7.setCell ⟨p, 1, none⟩ x).setCell ⟨q, 0, none⟩ y).setCell ⟨q, 1, none⟩ z).heap[b]? = some (.cells c t (0, 0)) := by
    intro b c' t ht hb
    have n1 : b ≠ p := by rintro rfl; rw [hp] at hb; simp at hb; exact ht hb.2.symm
    have n2 : b ≠ q := by rintro rfl; rw [hq] at hb; simp at hb; exact ht hb.2.symm
    exact Turned.keep ((Turned.refl q _).set 1 _) (Turned.keep ((Turned.refl q _).set 0 _) (Turned.keep ((Turned.refl p _).set 1 _) hb n1) n2) n2
  refine own_rows3 h hk rfl ?_
  intro i l hl
  match i, hl with
  | 0, hl => simp [upp, up] at hl; subst hl; exact ⟨_, rfl, two_ints (hk _ _ _ (by decide) q1)⟩
  | 1, hl => simp [upp, up] at hl; subst hl; exact ⟨_, rfl, two_ints (hk _ _ _ (by decide) q2)⟩
  | 2, hl => simp [upp, up] at hl; subst hl; exact ⟨_, rfl, two_ints (hk _ _ _ (by decide) q3)⟩
  | 3, hl => simp [upp, up] at hl; subst hl; exact ⟨_, rfl, three_ints (hk _ _ _ (by decide) q4)⟩

set_option maxHeartbeats 1000000 in
theorem b_rows (w : World) : Calls Tryz.prog 71 #[] w fun e w' => (∃ oa cap, e = .returned (.agg #[.int .i64 4, .slice oa 4 cap]) ∧ 4 ≤ cap ∧ cap ≤ maxLen ∧ (oa = none → cap = 0) ∧ RowsAt w' oa (upp sB)) ∧ Ext w w' := by
  go_enter Tryz.func71, Tryz.ntmps71
  go_wp2_with (first | (go_at_call 70; refine (a_for _).mono ?_; rintro e w1 ⟨g, r1, r2, r3, rfl, ha⟩; have hg1 := ha.hg; have Ha := Lib.hid ha; have hs := ha.ext.size; simp at hs; clear ha) | (at_builtin; go_loud (refine wpList_app1 _ rfl _ _ 22 rfl 27 Tryz.underlying22 (.slice none 0 0) 24 i27 rfl (by decide) (w.heap.size + 1) _ [sl r1 2, sl r2 2, sl r3 2] rfl ?_ (w1.heap.size + 1 + 1) (sl (w1.heap.size + 1) 3) rfl (by go_simp) rfl (by simp) (by simp; omega) ?_)))
  · have ho := Ha.out.own
    rw [World.size_alloc] at ho
    exact (((ho.ext ((Ext.refl w1).alloc _)).ext ((Ext.refl _).alloc _)).ext ((Ext.refl _).alloc _))
  · intro v' w7 hown7 hBl hg
    have hlo := Ha.out.lo
    rw [World.size_alloc] at hlo
    have hob : (sl g 3).ownBlock = some g := rfl
    rw [hob] at hg
    obtain ⟨oa, cap, rfl, k1, k2, k3, _⟩ := hown7.slice
    have kb : ∀ {b : Nat} {o : Obj}, w1.heap[b]? = some o → b ≠ g → w7.heap[b]? = some o := fun {b o} hb hne => Turned.keep hg (heap_old (heap_old (heap_old hb))) hne
    have hbx : w7.heap[w1.heap.size]? = some (.cells #[.int .i64 4, sl g 3] 24) := Turned.keep hg (heap_old (heap_old (heap_new rfl))) (by omega)
    have hb3 : w7.heap[w1.heap.size + 1]? = some (.cells #[.int .i64 1, .int .i64 3, .int .i64 2] 3) := Turned.keep hg (heap_old (heap_new (by simp))) (by omega)
    have hr0 : w7.heap[w.heap.size]? = some (.cells #[.int .i64 0, .slice none 0 0] 24) := kb (Ha.out.ext.block _ (by simp) |>.trans (heap_new rfl)) (by omega)
    have q1 := kb Ha.out.h1 Ha.out.n1
    have q2 := kb Ha.out.h2 Ha.out.n2
    have q3 := kb Ha.out.h3 Ha.out.n3
    have hE7 : Ext w w7 := (((((Ext.refl w).alloc _).trans Ha.out.ext).alloc _).alloc _ |>.alloc _).below hBl (by omega)
    have c0 : w7.cell? ⟨w1.heap.size, 0, none⟩ = some (.int .i64 4) := by rw [cell_of_row _ _ 0 _ _ _ hbx]; rfl
    have c1 : w7.cell? ⟨w1.heap.size, 1, none⟩ = some (sl g 3) := by rw [cell_of_row _ _ 1 _ _ _ hbx]; rfl
    have f1 : w7.frozen? ⟨w1.heap.size, 1, none⟩ = false := frozen_of_row _ _ 1 _ _ hbx
    have d0 : w7.cell? ⟨w.heap.size, 0, none⟩ = some (.int .i64 0) := by rw [cell_of_row _ _ 0 _ _ _ hr0]; rfl
    have d1 : w7.cell? ⟨w.heap.size, 1, none⟩ = some (.slice none 0 0) := by rw [cell_of_row _ _ 1 _ _ _ hr0]; rfl
    have e0 : w7.frozen? ⟨w.heap.size, 0, none⟩ = false := frozen_of_row _ _ 0 _ _ hr0
    have e1 : w7.frozen? ⟨w.heap.size, 1, none⟩ = false := frozen_of_row _ _ 1 _ _ hr0
    have H7 := Lib.hid hown7
    have Hr := Lib.hid (And.intro q1 (And.intro q2 (And.intro q3 (And.intro hb3 (And.intro hbx hr0)))))
    have HE7 := Lib.hid hE7
    clear hown7 q1 q2 q3 hb3 hbx hr0 hE7 hBl hg kb
    go_wp2
    refine bodyPost_ret (v := .agg #[.int .i64 4, .slice oa 4 cap]) (results_cell24 rfl _ _ w.heap.size _ _ (by simp) (by go_simp) (by go_simp)) (by simp) ⟨⟨oa, cap, rfl, k1, k2, k3, ?_⟩, ?_⟩
    · exact b_fin (H7.out) Hr.out.1 Hr.out.2.1 Hr.out.2.2.1 Hr.out.2.2.2.1 Hr.out.2.2.2.2.1 Hr.out.2.2.2.2.2 _ _ _
    · exact ext_own (ext_own (ext_own HE7.out ((Turned.refl w1.heap.size _).set 1 _) (by omega)) ((Turned.refl w.heap.size _).set 0 _) (by omega)) ((Turned.refl w.heap.size _).set 1 _) (by omega)

end Go.Proofs.YtiehfpkcaoeieaaGreatDoor
/- The examples' values. No condition. -/
namespace Go.Proofs.YtiehfpkcaoeieaaGreatDoor
open Go.RowKit Go.My Go.StripM

theorem valid_of {n : Nat} {ss : List (List Nat)} (h : (ss.all fun s => decide (s.Nodup ∧ ∀ x ∈ s, x < n)) = true) : Valid n ss := by
  intro s hs
  have := List.all_eq_true.1 h s hs
  exact of_decide_eq_true (p := s.Nodup ∧ ∀ x ∈ s, x < n) this
theorem goodA : Good 4 sA := ⟨by decide +kernel, by decide, by decide, by decide, valid_of (by decide +kernel)⟩
theorem goodB : Good 4 sB := ⟨by decide +kernel, by decide, by decide, by decide, valid_of (by decide +kernel)⟩
theorem goodC : Good 3 sC := ⟨by decide +kernel, by decide, by decide, by decide, valid_of (by decide +kernel)⟩
theorem v_order : orderB 4 (up [1, 0, 2, 3]) = true := by decide +kernel
theorem v_miss : missesTo (up [1, 0, 2, 3]) (upp sA) 3 = [0, 1] := by decide +kernel
theorem v_first : (all 4 sA).head? = some [0, 2, 1, 3] := by decide +kernel
theorem v_cyc : cyc 4 sA = false := by decide +kernel
theorem v_cnt : cnt 4 sA = 5 := by decide +kernel
theorem v_before : wordI (cnt 4 (sA ++ [[0, 2]])) (cnt 4 sA) = 2 := by decide +kernel
theorem v_low : befores (tab 4 sA) 1 4 = 2 := by decide +kernel
theorem v_high : behinds (tab 4 sA) 1 4 = 0 := by decide +kernel
theorem v_adds : wordI (cnt 4 (sA ++ [[1, 2]])) (cnt 4 sA) = 1 := by decide +kernel
theorem v_next : nextOf 4 sA = (0, 2, 3) := by decide +kernel
theorem v_clash : clashOf 4 sB = some [1, 3] := by decide +kernel
theorem v_wrong : wrongsOf 4 sB = [[3]] := by decide +kernel
theorem v_blame : blameTo [[3]] 4 = [1, 1, 1, 3] := by decide +kernel
theorem v_same : sameOf 4 sA 0 2 = true := by decide +kernel
theorem v_cntC : ¬ cnt 3 sC = 0 := by decide +kernel
theorem v_owners : ownersOf 3 sC = 3 := by decide +kernel
theorem v_spot : GoodSpot 4 [1, 2] := by
  constructor <;> first | decide +kernel | exact valid_of (ss := [[1, 2]]) (by decide +kernel) _ (by simp)
abbrev txt : List UInt8 := [98, 111, 97, 114, 100, 32, 50, 10, 115, 112, 111, 116, 32, 48, 32, 49, 10, 101, 110, 100, 32, 49, 52, 48, 10]
theorem v_text : textB 2 [[0, 1]] = txt := by decide +kernel
theorem v_parse : parse txt = some (2, [[0, 1]]) := parse_iff.2 ⟨⟨by decide, by decide +kernel⟩, v_text⟩

end Go.Proofs.YtiehfpkcaoeieaaGreatDoor
/- Contract: known. It answers true. -/
namespace Go.Proofs.YtiehfpkcaoeieaaGreatDoor
open Go.RowKit Go.My Go.StripM

section
variable {w : World} {oa ob : Option Addr} {cap : Nat}
theorem k57 (h : RowsAt w oa (upp sA)) (ho : IntsAt w ob [1, 0, 2, 3]) : Calls Tryz.prog 57 #[.agg #[.int .i64 4, .slice oa 3 3], .slice ob 4 4] w fun e w' => (∃ om cm, e = .returned (.tuple #[.slice om 2 cm, .int .i64 0]) ∧ IntsAt w' om [0, 1]) ∧ Ext w w' :=
  (misses_ok 4 (upp sA) oa 3 [1, 0, 2, 3] ob 4 w h (by decide) ho (by decide) (by decide) goodA.isB v_order).mono fun e w' ⟨v, h1, h2, h3⟩ => by
    obtain ⟨om, cm, rfl, _, _, _, h4⟩ := h2
    rw [show missesTo [1, 0, 2, 3] (upp sA) (upp sA).length = [0, 1] from v_miss] at h4 h1
    exact ⟨⟨om, cm, h1, h4⟩, h3⟩
theorem k24 (h : RowsAt w oa (upp sA)) : Calls Tryz.prog 24 #[.agg #[.int .i64 4, .slice oa 3 3]] w fun e w' => (∃ om cm, e = .returned (.tuple #[.slice om 4 cm, .int .i64 0]) ∧ IntsAt w' om [0, 2, 1, 3]) ∧ Ext w w' :=
  (first_any 4 sA oa 3 w h goodA v_cyc _ v_first).mono fun e w' ⟨⟨v, h1, h2⟩, h3⟩ => by
    obtain ⟨om, cm, rfl, _, _, _, h4⟩ := h2
    exact ⟨⟨om, cm, h1, h4⟩, h3⟩
theorem k25 (h : RowsAt w oa (upp sA)) : Calls Tryz.prog 25 #[.agg #[.int .i64 4, .slice oa 3 3]] w fun e w' => e = .returned (.tuple #[.int .i64 5, .int .i64 0]) ∧ Ext w w' :=
  (scount_any 4 sA oa 3 w h goodA).mono fun e w' ⟨h1, h2⟩ => ⟨by rw [v_cnt] at h1; exact h1, h2⟩
theorem k33 (h : RowsAt w oa (upp sA)) (hn : oa = none → 3 = 0) : Calls Tryz.prog 33 #[.agg #[.int .i64 4, .slice oa 3 3], .int .i64 0, .int .i64 2] w fun e w' => e = .returned (.tuple #[.int .i64 2, .int .i64 0]) ∧ Ext w w' :=
  (before_any 4 sA oa 3 0 2 w h goodA hn (by decide) (by decide) (by decide) (by decide) (by rw [v_cnt]; decide)).mono fun e w' ⟨h1, h2⟩ => ⟨by rw [v_before] at h1; exact h1, h2⟩
theorem k34 (h : RowsAt w oa (upp sA)) : Calls Tryz.prog 34 #[.agg #[.int .i64 4, .slice oa 3 3], .int .i64 1] w fun e w' => e = .returned (.tuple #[.agg #[.int .i64 2, .int .i64 3], .int .i64 0]) ∧ Ext w w' :=
  (places_any 4 sA oa 3 1 w h goodA (by decide) (by rw [v_cnt]; decide)).mono fun e w' ⟨h1, h2⟩ => ⟨by rw [v_low, v_high] at h1; exact h1, h2⟩
theorem k40 (h : RowsAt w oa (upp sA)) (hn : oa = none → 3 = 0) (hob : ob = none → 2 = 0) (ho : IntsAt w ob [1, 2]) : Calls Tryz.prog 40 #[.agg #[.int .i64 4, .slice oa 3 3], .slice ob 2 2] w fun e w' => e = .returned (.tuple #[.int .i64 1, .int .i64 0]) ∧ Ext w w' :=
  (adds_any 4 sA oa 3 [1, 2] ob 2 w h goodA hn (by decide) ho v_spot (by decide) (by decide) hob (by rw [v_cnt]; decide)).mono fun e w' ⟨h1, h2⟩ => ⟨by rw [v_adds] at h1; exact h1, h2⟩
theorem k43 (h : RowsAt w oa (upp sA)) (hn : oa = none → 3 = 0) : Calls Tryz.prog 43 #[.agg #[.int .i64 4, .slice oa 3 3]] w fun e w' => e = .returned (.tuple #[.int .i64 0, .int .i64 2, .int .i64 3, .int .i64 0]) ∧ Ext w w' :=
  (next_any 4 sA oa 3 w h goodA hn (by decide) (by rw [v_cnt]; decide) (by decide)).mono fun e w' ⟨h1, h2⟩ => ⟨by rw [v_next] at h1; exact h1, h2⟩
theorem k46 (h : RowsAt w oa (upp sB)) (hc : 4 ≤ cap) (hm : cap ≤ maxLen) : Calls Tryz.prog 46 #[.agg #[.int .i64 4, .slice oa 4 cap]] w fun e w' => (∃ om cm, e = .returned (.tuple #[.slice om 2 cm, .int .i64 0]) ∧ IntsAt w' om [1, 3]) ∧ Ext w w' :=
  (clash_any 4 sB oa cap w h goodB hc hm).mono fun e w' ⟨h1, h3⟩ => by
    rw [v_clash] at h1
    obtain ⟨v, h1, h2⟩ := h1
    obtain ⟨om, cm, rfl, _, _, _, h4⟩ := h2
    exact ⟨⟨om, cm, h1, h4⟩, h3⟩
theorem k49 (h : RowsAt w oa (upp sB)) (hc : 4 ≤ cap) (hm : cap ≤ maxLen) : Calls Tryz.prog 49 #[.agg #[.int .i64 4, .slice oa 4 cap]] w fun e w' => (∃ om cm, e = .returned (.tuple #[.slice om 1 cm, .int .i64 0]) ∧ IntsAt w' om [3]) ∧ Ext w w' :=
  (wrong_any 4 sB oa cap w h goodB hc hm (by rw [v_wrong]; decide)).mono fun e w' ⟨⟨v, h1, h2⟩, h3⟩ => by
    obtain ⟨om, cm, rfl, _, _, _, h4⟩ := h2
    simp only [v_wrong] at h1 h4
    exact ⟨⟨om, cm, h1, h4⟩, h3⟩
theorem k53 (h : RowsAt w oa (upp sB)) (hc : 4 ≤ cap) (hm : cap ≤ maxLen) : Calls Tryz.prog 53 #[.agg #[.int .i64 4, .slice oa 4 cap]] w fun e w' => (∃ om cm, e = .returned (.tuple #[.slice om 4 cm, .int .i64 0]) ∧ IntsAt w' om [1, 1, 1, 3]) ∧ Ext w w' :=
  (blame_any 4 sB oa cap w h goodB hc hm).mono fun e w' ⟨⟨v, h1, h2⟩, h3⟩ => by
    obtain ⟨om, cm, rfl, _, _, _, h4⟩ := h2
    rw [v_wrong, show blameTo [[3]] sB.length = [1, 1, 1, 3] from v_blame] at h1 h4
    exact ⟨⟨om, cm, h1, h4⟩, h3⟩
theorem k59 (h : RowsAt w oa (upp sA)) : Calls Tryz.prog 59 #[.agg #[.int .i64 4, .slice oa 3 3], .int .i64 0, .int .i64 2] w fun e w' => e = .returned (.tuple #[.bool true, .int .i64 0]) ∧ Ext w w' :=
  (same_any 4 sA oa 3 0 2 w h goodA (by decide) (by decide) (by decide)).mono fun e w' ⟨h1, h2⟩ => ⟨by rw [v_same] at h1; exact h1, h2⟩
theorem k60 (h : RowsAt w oa (upp sC)) : Calls Tryz.prog 60 #[.agg #[.int .i64 3, .slice oa 2 2]] w fun e w' => e = .returned (.tuple #[.int .i64 3, .int .i64 0]) ∧ Ext w w' :=
  (owners_any 3 sC oa 2 w h goodC v_cntC).mono fun e w' ⟨h1, h2⟩ => ⟨by rw [v_owners] at h1; exact h1, h2⟩
theorem k66 (m : Int) (hm : w.cell? ⟨1, 0, none⟩ = some (.int .i64 m)) : Calls Tryz.prog 66 #[.string (bs txt)] w fun e w' => (∃ om cm, e = .returned (.tuple #[.agg #[.int .i64 2, .slice om 1 cm], .int .i64 0]) ∧ RowsAt w' om (upp [[0, 1]])) ∧ Ext w w' :=
  (read_ok txt m w (by decide) hm 2 [[0, 1]] v_parse (by decide +kernel)).mono fun e w' ⟨⟨v, h1, h2⟩, h3⟩ => by
    obtain ⟨om, cm, rfl, _, _, _, h4⟩ := h2
    exact ⟨⟨om, cm, h1, h4⟩, h3⟩
theorem k67 (h : RowsAt w oa (upp [[0, 1]])) : Calls Tryz.prog 67 #[.agg #[.int .i64 2, .slice oa 1 cap]] w fun e w' => e = .returned (.string (bs txt)) ∧ Ext w w' :=
  (rprint_any 2 [[0, 1]] oa cap w h ⟨by decide, by decide, by decide⟩).mono fun e w' ⟨h1, h2⟩ => ⟨by rw [v_text] at h1; exact h1, h2⟩
end

theorem fresh_ints (w : World) (l : List Int) : IntsAt (w.alloc (.cells (l.map (Value.int .i64)).toArray 3)) (some ⟨w.heap.size, 0, none⟩) l := fun i x hx =>
  ⟨w.heap.size, 0, rfl, by simp, by rw [cell_of_row _ _ (0 + i) _ _ _ (heap_new rfl)]; simpa using hx⟩

/-- What is kept along known. -/
structure KI (w0 w : World) (L : List (Option Addr × List Int)) (C : List (Nat × Nat × Value)) (R : List (Option Addr × List (List Int))) : Prop where
  ext : Ext w0 w
  ints : ∀ p ∈ L, IntsAt w p.1 p.2
  cell : ∀ p ∈ C, w.cell? ⟨p.1, p.2.1, none⟩ = some p.2.2
  rows : ∀ p ∈ R, RowsAt w p.1 p.2
section
variable {w0 w w' : World} {L : List (Option Addr × List Int)} {C : List (Nat × Nat × Value)} {R : List (Option Addr × List (List Int))}
theorem KI.next (h : KI w0 w L C R) (hE : Ext w w') : KI w0 w' L C R := ⟨h.ext.trans hE, fun p hp => (h.ints p hp).ext hE, fun p hp => cell_ext hE (h.cell p hp), fun p hp => (h.rows p hp).ext hE⟩
theorem KI.alloc (h : KI w0 w L C R) (o : Obj) : KI w0 (w.alloc o) L C R := h.next ((Ext.refl _).alloc _)
theorem KI.int (h : KI w0 w L C R) {oa : Option Addr} {l : List Int} (hi : IntsAt w oa l) : KI w0 w ((oa, l) :: L) C R := ⟨h.ext, fun p hp => by (rcases List.mem_cons.1 hp with rfl | hp); exact hi; exact h.ints p hp, h.cell, h.rows⟩
theorem KI.row (h : KI w0 w L C R) {oa : Option Addr} {l : List (List Int)} (hi : RowsAt w oa l) : KI w0 w L C ((oa, l) :: R) := ⟨h.ext, h.ints, h.cell, fun p hp => by (rcases List.mem_cons.1 hp with rfl | hp); exact hi; exact h.rows p hp⟩
theorem KI.box (h : KI w0 w L C R) (x y : Value) (t : TypeId) : KI w0 (w.alloc (.cells #[x, y] t)) L ((w.heap.size, 0, x) :: (w.heap.size, 1, y) :: C) R :=
  ⟨h.ext.alloc _, (h.alloc _).ints, fun p hp => by
    rcases List.mem_cons.1 hp with rfl | hp
    · rw [cell_of_row _ _ 0 _ _ _ (heap_new rfl)]; rfl
    · rcases List.mem_cons.1 hp with rfl | hp
      · rw [cell_of_row _ _ 1 _ _ _ (heap_new rfl)]; rfl
      · exact (h.alloc _).cell p hp, (h.alloc _).rows⟩
end

theorem kt (l : List Int) (n : Nat) (hn : l.length = n) {ov : Option Addr} {cv b : Nat} {W : World} {o : Obj} (hi : IntsAt W ov l) (ho : o = .cells (l.map (Value.int .i64)).toArray 3) (hb : b = W.heap.size) (hl : n ≤ 9223372036854775807) :
    Calls Tryz.prog 28 #[.slice ov n cv, .slice (some ⟨b, 0, none⟩) n n] (W.alloc o) fun e w' => e = .returned (.bool true) ∧ Ext W w' := by
  subst hn ho hb
  exact (tsame_any l l ov _ cv _ _ (hi.ext ((Ext.refl _).alloc _)) (fresh_ints _ l) hl hl).mono fun e w' ⟨h, hE⟩ => ⟨by rw [decide_eq_true rfl] at h; exact h, ((Ext.refl _).alloc _).trans hE⟩
theorem fresh_words (w : World) (l : List Int) : IntsAt (w.alloc (.cells (l.map (Value.int .i64)).toArray 38)) (some ⟨w.heap.size, 0, none⟩) l := fun i x hx =>
  ⟨w.heap.size, 0, rfl, by simp, by rw [cell_of_row _ _ (0 + i) _ _ _ (heap_new rfl)]; simpa using hx⟩
theorem kw (l : List Int) (n : Nat) (hn : l.length = n) {ov : Option Addr} {cv b : Nat} {W : World} {o : Obj} (hi : IntsAt W ov l) (ho : o = .cells (l.map (Value.int .i64)).toArray 38) (hb : b = W.heap.size) (hl : n ≤ 9223372036854775807) :
    Calls Tryz.prog 55 #[.slice ov n cv, .slice (some ⟨b, 0, none⟩) n n] (W.alloc o) fun e w' => e = .returned (.bool true) ∧ Ext W w' := by
  subst hn ho hb
  exact (swords_any l l ov _ cv _ _ (hi.ext ((Ext.refl _).alloc _)) (fresh_words _ l) hl hl).mono fun e w' ⟨h, hE⟩ => ⟨by rw [decide_eq_true rfl] at h; exact h, ((Ext.refl _).alloc _).trans hE⟩

set_option maxRecDepth 100000 in
set_option maxHeartbeats 4000000 in
theorem known_any (w : World) (m : Int) (hm : w.cell? ⟨1, 0, none⟩ = some (.int .i64 m)) : Calls Tryz.prog 23 #[] w fun e w' => e = .returned (.bool true) ∧ Ext w w' := by
  have Hm := Lib.hid hm
  clear hm
  have K := Lib.hid (show KI w w [] [] [] from ⟨Ext.refl w, by simp, by simp, by simp⟩)
  have T1 := Lib.hid trivial
  have T2 := Lib.hid trivial
  have T3 := Lib.hid trivial
  have T4 := Lib.hid trivial
  go_enter Tryz.func23, Tryz.ntmps23
  go_wp2_with (first | (go_at_call 70; refine (a_rows _).mono ?_; rintro e w1 ⟨⟨oa, rfl, hoa, hra⟩, hE7⟩; have Hoa := Lib.hid hoa; have Hra := Lib.hid hra; have HE7 := Lib.hid hE7; clear hoa hra hE7) | (go_at_call 57; refine (k57 (Hra.out.ext ((Ext.refl _).alloc _)) (fresh_ints _ [1, 0, 2, 3])).mono ?_; rintro e w2 ⟨⟨om, cm, rfl, hi⟩, hE⟩; replace K := Lib.hid ((K.out.next (HE7.out.trans (((Ext.refl _).alloc _).trans hE))).int hi); clear hi hE HE7) | (go_at_call 24; refine (k24 Hra.out).mono ?_; rintro e w2 ⟨⟨ofo, cf, rfl, hi⟩, hE⟩; replace K := Lib.hid ((K.out.next (HE7.out.trans hE)).int hi); clear hi hE HE7) | (go_at_call 25; refine (k25 Hra.out).mono ?_; rintro e w2 ⟨rfl, hE⟩; replace K := Lib.hid (K.out.next (HE7.out.trans hE)); clear hE HE7) | (go_at_call 33; refine (k33 Hra.out Hoa.out).mono ?_; rintro e w2 ⟨rfl, hE⟩; replace K := Lib.hid (K.out.next (HE7.out.trans hE)); clear hE HE7) | (go_at_call 34; refine (k34 Hra.out).mono ?_; rintro e w2 ⟨rfl, hE⟩; replace K := Lib.hid ((K.out.next (HE7.out.trans hE)).box (.int .i64 2) (.int .i64 3) 42); clear hE HE7) | (go_at_call 40; refine (k40 (Hra.out.ext ((Ext.refl _).alloc _)) Hoa.out (by simp) (fresh_ints _ [1, 2])).mono ?_; rintro e w2 ⟨rfl, hE⟩; replace K := Lib.hid (K.out.next (HE7.out.trans (((Ext.refl _).alloc _).trans hE))); clear hE HE7) | (go_at_call 43; refine (k43 Hra.out Hoa.out).mono ?_; rintro e w2 ⟨rfl, hE⟩; replace K := Lib.hid (K.out.next (HE7.out.trans hE)); clear hE HE7) | (go_at_call 71; refine (b_rows _).mono ?_; rintro e w1 ⟨⟨oa, cap, rfl, hc1, hc2, _, hra⟩, hE7⟩; have Hra := Lib.hid hra; have HE7 := Lib.hid hE7; have Hc1 := Lib.hid hc1; have Hc2 := Lib.hid hc2; clear hra hE7 hc1 hc2) | (go_at_call 46; refine (k46 Hra.out Hc1.out Hc2.out).mono ?_; rintro e w2 ⟨⟨oc, cc, rfl, hi⟩, hE⟩; replace K := Lib.hid ((K.out.next (HE7.out.trans hE)).int hi); clear hi hE HE7) | (go_at_call 49; refine (k49 Hra.out Hc1.out Hc2.out).mono ?_; rintro e w2 ⟨⟨ox, cx, rfl, hi⟩, hE⟩; replace K := Lib.hid ((K.out.next (HE7.out.trans hE)).int hi); clear hi hE HE7) | (go_at_call 53; refine (k53 Hra.out Hc1.out Hc2.out).mono ?_; rintro e w2 ⟨⟨oy, cy, rfl, hi⟩, hE⟩; replace K := Lib.hid ((K.out.next (HE7.out.trans hE)).int hi); clear hi hE HE7) | (go_at_call 59; refine (k59 Hra.out).mono ?_; rintro e w2 ⟨rfl, hE⟩; replace K := Lib.hid (K.out.next (HE7.out.trans hE)); clear hE HE7) | (go_at_call 72; refine (c_rows _).mono ?_; rintro e w1 ⟨⟨oa, rfl, hra⟩, hE7⟩; have Hra := Lib.hid hra; have HE7 := Lib.hid hE7; clear hra hE7) | (go_at_call 60; refine (k60 Hra.out).mono ?_; rintro e w2 ⟨rfl, hE⟩; replace K := Lib.hid (K.out.next (HE7.out.trans hE)); clear hE HE7) | (go_at_call 66; refine (k66 m (cell_ext K.out.ext Hm.out)).mono ?_; rintro e w2 ⟨⟨ob, cb, rfl, hr⟩, hE⟩; replace K := Lib.hid (((K.out.next hE).row hr).box (.int .i64 2) (.slice ob 1 cb) 24); clear hE hr) | (go_at_call 28; have t0 := T1; clear t0 T1; refine Calls.mono (kt [0, 1] 2 rfl (K.out.ints (om, [0, 1]) (by simp)) rfl (by simp) (by decide)) ?_; rintro e w3 ⟨rfl, hE⟩; replace K := Lib.hid (K.out.next hE); clear hE) | (go_at_call 28; have t0 := T2; clear t0 T2; refine Calls.mono (kt [0, 2, 1, 3] 4 rfl (K.out.ints (ofo, [0, 2, 1, 3]) (by simp)) rfl (by simp) (by decide)) ?_; rintro e w3 ⟨rfl, hE⟩; replace K := Lib.hid (K.out.next hE); clear hE; have b0 := K.out.cell _ (List.mem_cons_of_mem _ (List.mem_cons_of_mem _ List.mem_cons_self)); have b1 := K.out.cell _ (List.mem_cons_of_mem _ (List.mem_cons_of_mem _ (List.mem_cons_of_mem _ List.mem_cons_self))); dsimp only at b0 b1) | (go_at_call 28; have t0 := T3; clear t0 T3; refine Calls.mono (kt [1, 3] 2 rfl (K.out.ints (oc, [1, 3]) (by simp)) rfl (by simp) (by decide)) ?_; rintro e w3 ⟨rfl, hE⟩; replace K := Lib.hid (K.out.next hE); clear hE) | (go_at_call 28; have t0 := T4; clear t0 T4; refine Calls.mono (kt [3] 1 rfl (K.out.ints (ox, [3]) (by simp)) rfl (by simp) (by decide)) ?_; rintro e w3 ⟨rfl, hE⟩; replace K := Lib.hid (K.out.next hE); clear hE) | (go_at_call 55; refine Calls.mono (kw [1, 1, 1, 3] 4 rfl (K.out.ints (oy, [1, 1, 1, 3]) (by simp)) rfl (by simp) (by decide)) ?_; rintro e w3 ⟨rfl, hE⟩; clear b0 b1; replace K := Lib.hid (K.out.next hE); clear hE; have b0 := K.out.cell _ List.mem_cons_self; have b1 := K.out.cell _ (List.mem_cons_of_mem _ List.mem_cons_self); dsimp only at b0 b1) | (go_at_call 67; refine (k67 (K.out.rows _ List.mem_cons_self)).mono ?_; rintro e w3 ⟨rfl, hE⟩; replace K := Lib.hid (K.out.next hE); clear hE b0 b1))
  go_ret
  exact ⟨rfl, K.out.ext⟩

end Go.Proofs.YtiehfpkcaoeieaaGreatDoor
