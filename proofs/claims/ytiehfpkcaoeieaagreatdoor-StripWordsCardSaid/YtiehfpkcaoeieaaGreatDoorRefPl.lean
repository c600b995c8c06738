/- Contract of the reference: Places. No condition beyond boards as defined. -/
import Derived.Test.YtiehfpkcaoeieaaGreatDoorRefWord
set_option linter.unusedVariables false
set_option linter.unusedSimpArgs false
namespace Go.Proofs.YtiehfpkcaoeieaaGreatDoor
open Go.RowKit Go.My Go.StripM

structure Pl (w1 W : World) (lo hi : Nat) : Prop where
  ext : Ext w1 W
  p0 : W.cell? ⟨w1.heap.size, 0, none⟩ = some (.int .i64 lo)
  p1 : W.cell? ⟨w1.heap.size, 1, none⟩ = some (.int .i64 hi)
  f0 : W.frozen? ⟨w1.heap.size, 0, none⟩ = false
  f1 : W.frozen? ⟨w1.heap.size, 1, none⟩ = false
theorem Pl.next {w1 W W' : World} {lo hi : Nat} (h : Pl w1 W lo hi) (hE : Ext W W') : Pl w1 W' lo hi :=
  ⟨h.ext.trans hE, cell_ext hE h.p0, cell_ext hE h.p1, (hE.frozen (World.block_lt_of_cell? _ _ h.p0)).trans h.f0, (hE.frozen (World.block_lt_of_cell? _ _ h.p1)).trans h.f1⟩
theorem Pl.set {w1 W : World} {lo hi : Nat} (h : Pl w1 W lo hi) (a b : Nat) : Pl w1 ((W.setCell ⟨w1.heap.size, 0, none⟩ (.int .i64 a)).setCell ⟨w1.heap.size, 1, none⟩ (.int .i64 b)) a b := by
  have e1 : (W.setCell ⟨w1.heap.size, 0, none⟩ (.int .i64 a)).cell? ⟨w1.heap.size, 0, none⟩ = some (.int .i64 a) := World.cell?_setCell_same _ _ _ h.p0
  have e2 : (W.setCell ⟨w1.heap.size, 0, none⟩ (.int .i64 a)).cell? ⟨w1.heap.size, 1, none⟩ = some (.int .i64 hi) := by rw [World.cell?_setCell_other _ _ _ _ (by simp)]; exact h.p1
  refine ⟨ext_own (ext_own h.ext ((Turned.refl w1.heap.size W).set 0 _) (Nat.le_refl _)) ((Turned.refl w1.heap.size _).set 1 _) (Nat.le_refl _), ?_, World.cell?_setCell_same _ _ _ e2, ?_, ?_⟩
  · rw [World.cell?_setCell_other _ _ _ _ (by simp)]; exact e1
  · rw [World.frozen?_setCell, World.frozen?_setCell]; exact h.f0
  · rw [World.frozen?_setCell, World.frozen?_setCell]; exact h.f1

def Bnd (L : List (List Nat)) (x k lo hi : Nat) : Prop := (∀ (i : Nat) (o : List Nat), i < k → L[i]? = some o → lo ≤ o.idxOf x ∧ o.idxOf x ≤ hi) ∧ (∃ o ∈ L, o.idxOf x = lo) ∧ ∃ o ∈ L, o.idxOf x = hi
theorem Bnd.next {L : List (List Nat)} {x k lo hi : Nat} {o : List Nat} (h : Bnd L x k lo hi) (ho : L[k]? = some o) : Bnd L x (k + 1) (min lo (o.idxOf x)) (max hi (o.idxOf x)) := by
  refine ⟨fun i o' hi' he => ?_, ?_, ?_⟩
  · by_cases e : i = k
    · subst e
      rw [ho] at he
      cases he
      omega
    · have := h.1 i o' (by omega) he
      omega
  · rcases Nat.le_total lo (o.idxOf x) with h1 | h1
    · rw [Nat.min_eq_left h1]; exact h.2.1
    · rw [Nat.min_eq_right h1]; exact ⟨o, List.mem_of_getElem? ho, rfl⟩
  · rcases Nat.le_total hi (o.idxOf x) with h1 | h1
    · rw [Nat.max_eq_right h1]; exact ⟨o, List.mem_of_getElem? ho, rfl⟩
    · rw [Nat.max_eq_left h1]; exact h.2.2
theorem Bnd.done {n : Nat} {ss : List (List Nat)} {x lo hi : Nat} (hv : Valid n ss) (hc : cyc n ss = false) (hx : x < n) (h : Bnd (all n ss) x (all n ss).length lo hi) : lo = befores (tab n ss) x n ∧ hi + 1 + behinds (tab n ss) x n = n := by
  have hall : ∀ o ∈ all n ss, lo ≤ o.idxOf x ∧ o.idxOf x ≤ hi := fun o ho => by
    obtain ⟨i, hi⟩ := List.mem_iff_getElem?.1 ho
    exact h.1 i o (List.getElem?_eq_some_iff.1 hi).1 hi
  obtain ⟨o1, m1, e1⟩ := h.2.1
  obtain ⟨o2, m2, e2⟩ := h.2.2
  obtain ⟨o3, m3, e3⟩ := place_early hv hc hx
  obtain ⟨o4, m4, e4⟩ := place_late hv hc hx
  have a1 := (place_in hv hx m1).1
  have a2 := (place_in hv hx m2).2
  have a3 := (hall o3 m3).1
  have a4 := (hall o4 m4).2
  unfold befores behinds at *
  omega

theorem results_one42 {fn : Func} {p : Tmp} (h : fn.results = #[.cell p 42]) (tmps : Array Value) (w : World) (b : Nat) (x y : Value) (hp : tmps.getD p undef = .pointer (some ⟨b, 0, none⟩))
    (h0 : w.cell? ⟨b, 0, none⟩ = some x) (h1 : w.cell? ⟨b, 1, none⟩ = some y) : (results fn tmps).run Tryz.prog w = .ok (.agg #[x, y]) w := by
  have hp' : tmps[p]?.getD undef = .pointer (some ⟨b, 0, none⟩) := by simpa using hp
  have hagg : (isAgg 42).run Tryz.prog w = .ok true w := by kernel_rfl
  have hsz : (sizeOf 42).run Tryz.prog w = .ok 2 w := by kernel_rfl
  have hl : (loadCells ⟨b, 0, none⟩ 2).run Tryz.prog w = .ok #[x, y] w := run_loadCells_list (P := Tryz.prog) w ⟨b, 0, none⟩ [x, y] (fun j v hv => by
    rw [add_none]
    match j, hv with
    | 0, hv => simp at hv; subst hv; simpa using h0
    | 1, hv => simp at hv; subst hv; simpa using h1)
  simp [results, h, hp', asAddr, loadVar, Sem.run_bind, hagg, hsz, hl]

set_option maxRecDepth 100000 in
set_option maxHeartbeats 2000000 in
theorem places_r (n : Nat) (ss : List (List Nat)) (oa : Option Addr) (cap x : Nat) (w : World) (h : RowsAt w oa (upp ss)) (g : Good n ss) (hx : x < n) (hc : cyc n ss = false) :
    Calls Tryz.prog 37 #[.agg #[.int .i64 n, .slice oa ss.length cap], .int .i64 x] w fun e w' =>
      e = .returned (.agg #[.int .i64 (befores (tab n ss) x n : Nat), .int .i64 ((n : Int) - 1 - (behinds (tab n ss) x n : Nat))]) ∧ Ext w w' := by
  have hE1 := (Ext.refl w).alloc (.cells #[.int .i64 n, .slice oa ss.length cap] 24)
  have hE2 := hE1.alloc (.cells #[.int .i64 0, .int .i64 0] 42)
  have Ha := Lib.hid (all_cnt n ss oa cap _ (h.ext hE2) g)
  have hc7 := cnt_720 g.le g.valid
  have hc0 : 0 < cnt n ss := Nat.pos_of_ne_zero fun e => by rw [cnt_zero g.valid, hc] at e; cases e
  have Hdone := Lib.hid (fun lo hi => Bnd.done (lo := lo) (hi := hi) g.valid hc hx)
  have hcl := cnt_all g.valid
  have Hord := Lib.hid (fun o (ho : o ∈ all n ss) => (mem_all.1 ho).1)
  have hn6 := g.le
  obtain ⟨L, hL⟩ : ∃ L, L = all n ss := ⟨_, rfl⟩
  rw [← hL] at Ha Hdone hcl Hord
  have Hcl := Lib.hid hcl
  have hbn : behinds (tab n ss) x n ≤ n := behinds_le _ _ _
  clear h g hc hL hcl
  generalize cnt n ss = c at *
  go_enter Tryz.func37, Tryz.ntmps37
  have hcw := Hcl.out
  have Place := Lib.hid (fun (W : World) (o : List Nat) (og : Option Addr) (cg : Nat) (ho : o ∈ L) (hi : IntsAt W og (up o)) => place_any (up o) og cg x W hi (by rw [up_length, (Hord.out o ho).1]; omega))
  simp only [up_length] at Place
  go_wp2_with (first | (go_at_call 27; refine Ha.out.mono ?_; rintro e w1 ⟨⟨ol, cl, rfl, hcl, hro⟩, hE3⟩; have Hro := Lib.hid hro; clear hro; obtain ⟨o0, hok0⟩ : ∃ o, L[0]? = some o := ⟨L[0]'(by omega), by simp⟩; obtain ⟨b0, off0, og0, cg0, hol0, _, hcg0, _, _, _, hig0⟩ := rows_get Hro.out hok0; subst hol0; rw [Nat.add_zero] at hcg0; have hm0 := List.mem_of_getElem? hok0; have P0 := Lib.hid (Place.out w1 o0 og0 cg0 hm0 hig0); rw [index_in (ord_mem (Hord.out o0 hm0) hx)] at P0; have HB := Lib.hid (⟨fun i o hi he => absurd hi (Nat.not_lt_zero i), ⟨o0, hm0, rfl⟩, ⟨o0, hm0, rfl⟩⟩ : Bnd L x 0 (o0.idxOf x) (o0.idxOf x)); generalize o0.idxOf x = i0 at *; clear hig0 hok0 hm0) | (go_at_call 39; refine P0.out.mono ?_; clear P0; rintro e w2 ⟨rfl, rfl⟩))
  have hP0 : Pl w1 (w1.alloc (.cells #[.int .i64 i0, .int .i64 i0] 42)) i0 i0 := ⟨(Ext.refl w1).alloc _, by go_simp, by go_simp, by go_simp, by go_simp⟩
  have HP0 := Lib.hid hP0
  have hsz1 : w.heap.size + 2 ≤ w1.heap.size := by have := hE3.size; simpa using this
  clear hP0 hcg0
  go_loopg [6, 8] c (fun g u i wr => ∃ (k lo hi y : Nat), k + g = c ∧ u = .int .i64 y ∧ i = .int .i64 k ∧ Pl w1 wr lo hi ∧ Bnd L x k lo hi)
  case atStart => exact ⟨0, i0, i0, i0, by omega, rfl, rfl, HP0.out, HB.out⟩
  case round =>
    clear HP0 HB
    obtain ⟨k, lo, hi, y, hk, rfl, rfl, hpl, hbd⟩ := hrel
    have p0 := hpl.p0
    have p1 := hpl.p1
    have Hpl := Lib.hid hpl
    have Hbd := Lib.hid hbd
    clear hpl hbd
    by_cases hlt : k < c
    · obtain ⟨o, hok⟩ : ∃ o, L[k]? = some o := ⟨L[k]'(by omega), by simp⟩
      obtain ⟨b2, off, og, cg, hol, _, hcg, _, _, _, hig⟩ := rows_get (Hro.out.ext Hpl.out.ext) hok
      obtain ⟨rfl, rfl⟩ : b0 = b2 ∧ off0 = off := by simpa using hol
      have hmem := List.mem_of_getElem? hok
      have Pk := Lib.hid (Place.out wr o og cg hmem hig)
      rw [index_in (ord_mem (Hord.out o hmem) hx)] at Pk
      have Hnx := Lib.hid (Hbd.out.next hok)
      generalize o.idxOf x = ix at *
      have f0 := Hpl.out.f0
      have f1 := Hpl.out.f1
      have Hset := Lib.hid (Hpl.out.set (min lo ix) (max hi ix))
      clear hig hok hmem hol
      go_wp2_with (first | (go_at_call 39; refine Pk.out.mono ?_; rintro e w2 ⟨rfl, rfl⟩))
      go_roundg (gk - 1)
      case measure => omega
      case rel =>
        have hset := Hset.out
        rw [show ((min lo ix : Nat) : Int) = min (lo : Int) (ix : Int) by omega, show ((max hi ix : Nat) : Int) = max (hi : Int) (ix : Int) by omega] at hset
        exact ⟨k + 1, min lo ix, max hi ix, ix, by omega, rfl, by go_num, hset, Hnx.out⟩
    · obtain rfl : k = L.length := by omega
      obtain ⟨z1, z2⟩ := Hdone.out lo hi Hbd.out
      have Z1 := Lib.hid z1
      have Z2 := Lib.hid z2
      have hEw := hE3.trans Hpl.out.ext
      have r0 : wr.cell? ⟨w.heap.size + 1, 0, none⟩ = some (.int .i64 0) := cell_ext hEw (by go_simp)
      have r1 : wr.cell? ⟨w.heap.size + 1, 1, none⟩ = some (.int .i64 0) := cell_ext hEw (by go_simp)
      have g0 : wr.frozen? ⟨w.heap.size + 1, 0, none⟩ = false := (hEw.frozen (by simp)).trans (by go_simp)
      have g1 : wr.frozen? ⟨w.heap.size + 1, 1, none⟩ = false := (hEw.frozen (by simp)).trans (by go_simp)
      have HE := Lib.hid (hE2.trans hEw)
      clear z1 z2
      go_wp2
      refine bodyPost_ret (v := .agg #[.int .i64 lo, .int .i64 hi]) (results_one42 rfl _ _ (w.heap.size + 1) _ _ (by simp) (by go_simp) (by go_simp)) (by simp) ⟨?_, ?_⟩
      · have e1 := Z1.out
        have e2 := Z2.out
        rw [← e1, show (n : Int) - 1 - (behinds (tab n ss) x n : Nat) = hi by omega]
      · exact ext_own (ext_own HE.out ((Turned.refl (w.heap.size + 1) _).set 0 _) (by omega)) ((Turned.refl (w.heap.size + 1) _).set 1 _) (by omega)

end Go.Proofs.YtiehfpkcaoeieaaGreatDoor
