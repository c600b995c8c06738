/- Contracts and mathematics, joined: Once, From, First. Conditions stand with each. -/
import Derived.Test.YtiehfpkcaoeieaaGreatDoorM1
import Derived.RangeFuncNested
import Derived.RangeFuncBound
import Derived.RangeFuncCalls
import Derived.RangeFuncLeaves
import Derived.Test.YtiehfpkcaoeieaaGreatDoorM9
import Derived.Test.YtiehfpkcaoeieaaGreatDoorM3
import Derived.Shelf.Abstract
import Derived.Shelf.RegionOpen
import Derived.OwnWalkIn
import Derived.TacticsInMore
import Derived.LoopNIn
import Derived.LoopIn
set_option linter.unusedVariables false
set_option linter.unusedSimpArgs false
/- A range over a function whose body is left in its first round. No condition. -/
namespace Go.My
open Go Go.RowKit

/-- How the body may be left: not by going on. -/
def oncePost (Ix : Code → World → Prop) (W : World) : Exit → Act → World → Prop
  | .ret, _, W' => KeepsOthers W W' ∧ Ix .ret W'
  | .exit id, _, W' => KeepsOthers W W' ∧ Ix (.exit id) W'
  | .goto t, _, W' => KeepsOthers W W' ∧ Ix (.goto t) W'
  | _, _, _ => False

theorem wp_rangeFunc_once {P : Program} {g : Operand} {p : Tmp} {assign body : Code} {Q : Exit → Act → World → Prop} {a : Act} {w : World}
    {gf : Nat} {lb : Array Value} (hg : a.eval g = .func (.func gf) #[] lb) (eg : ∀ args w, (callFunc gf args).run P w = .ok (.enter gf args) w)
    (P1 : Value → World → Prop) (hP : ∀ x W l o o', P1 x W → W.heap[l]? = some o → o.isCells = false → P1 x (W.putObj l o'))
    (Ix : Code → World → Prop) (hIp : ∀ c W l o o', Ix c W → w.heap.size ≤ l → W.heap[l]? = some o → o.isCells = false → Ix c (W.putObj l o'))
    (hseq : ∀ (l : Nat) (W : World) (J : World → Prop), Ext w W →
      (∀ m x W1, Ext W W1 → P1 x W1 → YieldAt Fence.wide m P l #[x] W1 fun e W' => e = .returned (.bool false) ∧ J W') →
      Calls P gf (#[.func (.yield l) #[] #[]] ++ lb) W fun e W' => (∃ v, e = .returned v) ∧ J W')
    (a₁ : Value → Act)
    (hassign : ∀ (l m : Nat) (x : Value) (W : World) (K : Act → World → Prop), K (a₁ x) W →
      assign.wpIn (Fence.wide.inRound l) m P (Exit.then K (fun _ _ _ => False)) { tmps := (#[p].zip #[x]).foldl (fun t (p, v) => t.setIfInBounds p v) a.tmps, defers := [] } W)
    (hbody : ∀ (l m : Nat) (x : Value) (W : World), P1 x W → Below w.heap.size w W → body.wpIn (Fence.wide.inRound l) m P (oncePost Ix W) (a₁ x) W)
    (hstop : ∀ (D : Nat) (c : Code) (W : World), Ix c W → w.heap.size ≤ D → W.heap[D]? = some (.deferred (some [])) → c.wp P Q { a with defers := { target := .collected D, args := #[] } :: a.defers } W) :
    (Code.rangeFunc g #[p] assign body).wp P Q a w := by
  refine (wpIn_wide (n := 3)).1 (wpIn_rangeFunc ?_)
  intro fn hfn
  have hro : Fence.wide.round = none := rfl
  rw [hro]
  obtain ⟨rec, hrec⟩ : ∃ rec : LoopState → Option Code → Loop, rec = fun st pe => { state := st, pending := pe, fn, tmps := a.tmps, params := #[p], assign, body, defers := w.heap.size } := ⟨_, rfl⟩
  obtain ⟨W1, hW1⟩ : ∃ W1, (w.alloc (.deferred (some []))).alloc (.loop (rec .ready none)) = W1 := ⟨_, rfl⟩
  have hL1 : W1.heap[w.heap.size + 1]? = some (.loop (rec .ready none)) := by
    rw [← hW1]; have := World.alloc_heap_new (w.alloc (.deferred (some []))) (.loop (rec .ready none)); rwa [World.size_alloc] at this
  have hK1 : W1.heap[w.heap.size]? = some (.deferred (some [])) := by
    rw [← hW1]; exact (Below.heap_alloc _ _ _ (by simp)).trans (World.alloc_heap_new w _)
  have hE1 : Ext w W1 := by rw [← hW1]; exact ((Ext.refl w).alloc _).alloc _
  refine ⟨w.heap.size + 1, [{ target := .collected w.heap.size, args := #[] }], W1, { target := .fn (.func gf) lb, args := #[.func (.yield (w.heap.size + 1)) #[] #[]] }, W1, gf,
    #[.func (.yield (w.heap.size + 1)) #[] #[]] ++ lb, W1, ?_, ?_, ?_, ?_, fun _ => by omega, ?_⟩
  · rw [← hW1, hrec]; exact run_enterLoop_outer _ _ _ _ _
  · simp only [resolve, hg]
    simp [go_sem]
  · intro f' _; trivial
  · simp [invoke, go_sem, eg]
  · refine (callsIn_wide.2 (hseq (w.heap.size + 1) W1 (fun W => ∃ c, Ix c W ∧ W.heap[w.heap.size + 1]? = some (.loop (rec .done (some c))) ∧ W.heap[w.heap.size]? = some (.deferred (some []))) hE1 ?_)).mono ?_
    · intro m x W hEW hP1
      have hl : W.heap[w.heap.size + 1]? = some (.loop (rec .ready none)) := (hEW.block _ (Array.getElem?_eq_some_iff.1 hL1).1).trans hL1
      have hk : W.heap[w.heap.size]? = some (.deferred (some [])) := (hEW.block _ (Array.getElem?_eq_some_iff.1 hK1).1).trans hK1
      have hlt : w.heap.size + 1 < W.heap.size := (Array.getElem?_eq_some_iff.1 hl).1
      have hy := run_yield (P := P) (args := #[x]) hl (by rw [hrec]; rfl)
      rw [hrec] at hy
      refine ⟨fn, _, assign, body, hy, roundIn_of_wpIn hfn (hassign _ _ x W _ ⟨_, run_beginRound hl (by rw [hrec]), ?_⟩)⟩
      have hl2 : (W.putObj (w.heap.size + 1) (.loop { rec .ready none with state := .busy })).heap[w.heap.size + 1]? = some (.loop { rec .ready none with state := .busy }) := World.putObj_heap_same hlt
      have hk2 : (W.putObj (w.heap.size + 1) (.loop { rec .ready none with state := .busy })).heap[w.heap.size]? = some (.deferred (some [])) := (World.putObj_heap_other (by omega)).trans hk
      have hb2 : Below w.heap.size w (W.putObj (w.heap.size + 1) (.loop { rec .ready none with state := .busy })) := Below.trans (hE1.trans hEW) (belowK_b (w := w) (Nat.le_refl _) W _ _ _ (by omega) hl rfl rfl)
      refine wpIn_mono (hbody _ _ x _ (hP _ _ _ _ _ hP1 hl rfl) hb2) ?_
      have fin : ∀ (c : Code) (W3 : World), KeepsOthers (W.putObj (w.heap.size + 1) (.loop { rec .ready none with state := .busy })) W3 → Ix c W3 →
          ∃ v w', (Instr.endRound (w.heap.size + 1) (some c)).run P W3 = .ok v w' ∧ (Ending.returned v = .returned (.bool false) ∧ ∃ c, Ix c w' ∧ w'.heap[w.heap.size + 1]? = some (.loop (rec .done (some c))) ∧ w'.heap[w.heap.size]? = some (.deferred (some []))) := fun c W3 hk3 hi => by
        have hl3 := hk3.same _ _ hl2 rfl
        have hrun := run_endRound (P := P) (some c) hl3
        rw [hrec] at hrun hl3
        refine ⟨_, _, hrun, rfl, c, hIp _ _ _ _ _ hi (by omega) hl3 rfl, ?_, (World.putObj_heap_other (by omega)).trans (hk3.same _ _ hk2 rfl)⟩
        rw [hrec]
        exact World.putObj_heap_same (Array.getElem?_eq_some_iff.1 hl3).1
      rintro e a3 W3 hp
      cases e with
      | ret => exact fin _ _ hp.1 hp.2
      | exit id => exact fin _ _ hp.1 hp.2
      | goto t => exact fin _ _ hp.1 hp.2
      | normal => exact hp.elim
      | panic ch => exact hp.elim
      | outgrown => exact hp.elim
    · rintro e W2 ⟨⟨v, rfl⟩, c, hi, hl, hk⟩
      have hrun := run_endLoop (P := P) hl (by rw [hrec]; simp)
      rw [hrec] at hrun
      refine ⟨some c, _, hrun, wpIn_wide.2 (hstop _ c _ (hIp _ _ _ _ _ hi (by omega) hl rfl) (Nat.le_refl _) ((World.putObj_heap_other (by omega)).trans hk))⟩

end Go.My
/- Contract: the search for orders, up to the first. No condition. -/
namespace Go.Proofs.YtiehfpkcaoeieaaGreatDoor
open Go.RowKit Go.My Go.StripM Go.Shelf
attribute [local go_sem] Oper.semAt_some

/-- The state of the search: its boxes, and what now comes first. -/
structure FB (W0 W : World) (B bt l : Nat) (v : Value) (pre : List Nat) : Prop where
  ext : Ext W0 W
  base : W0.heap.size ≤ B
  size : B + 3 ≤ W.heap.size
  yb : W.cell? ⟨B, 0, none⟩ = some (.func (.yield l) #[] #[])
  nb : W.cell? ⟨B + 1, 0, none⟩ = some v
  nf : W.frozen? ⟨B + 1, 0, none⟩ = false
  fb : W.cell? ⟨B + 2, 0, none⟩ = some (.func (.func 120) #[] #[.pointer (some ⟨B + 1, 0, none⟩), .pointer (some ⟨bt, 0, none⟩), .pointer (some ⟨B, 0, none⟩), .pointer (some ⟨B + 2, 0, none⟩)])
  own : My.Own W (B + 3) 3 v ((up pre).map (Value.int .i64))
theorem FB.next {W0 W W' : World} {B bt l : Nat} {v : Value} {pre : List Nat} (h : FB W0 W B bt l v pre) (hE : Ext W W') : FB W0 W' B bt l v pre :=
  ⟨h.ext.trans hE, h.base, Nat.le_trans h.size hE.size, cell_ext hE h.yb, cell_ext hE h.nb, (hE.frozen (by have := h.size; simp; omega)).trans h.nf, cell_ext hE h.fb, h.own.ext hE⟩
theorem FB.put {W0 W W' : World} {B bt l : Nat} {v v' : Value} {pre : List Nat} {x : Nat} (h : FB W0 W B bt l v pre) (hB : Below (B + 3) W W') (ho : My.Own W' (B + 3) 3 v' ((up (pre ++ [x])).map (Value.int .i64))) : FB W0 (W'.setCell ⟨B + 1, 0, none⟩ v') B bt l v' (pre ++ [x]) := by
  have hb := h.base
  have hs := h.size
  have y := (hB.cell (p := ⟨B, 0, none⟩) (by simp <;> omega)).trans h.yb
  have n := (hB.cell (p := ⟨B + 1, 0, none⟩) (by simp <;> omega)).trans h.nb
  have f := (hB.cell (p := ⟨B + 2, 0, none⟩) (by simp)).trans h.fb
  have g := (hB.frozen (p := ⟨B + 1, 0, none⟩) (by simp <;> omega)).trans h.nf
  exact ⟨ext_own (h.ext.below hB (by omega)) ((Turned.refl (B + 1) _).set 0 v') (by omega), h.base, by have := hB.size; simp; omega, by go_simp, by go_simp, by go_simp, by go_simp, ho.turned ((Turned.refl (B + 1) _).set 0 v') (by omega)⟩

theorem _root_.Go.My.Own.low {w : World} {b b' : Nat} {e : TypeId} {v : Value} {xs : List Value} (h : My.Own w b e v xs) (hb : b' ≤ b) : My.Own w b' e v xs := by
  refine ⟨h.1, ?_⟩
  rcases h.2 with h2 | ⟨g, cap, cur, hv, hg, r⟩
  · exact .inl h2
  · exact .inr ⟨g, cap, cur, hv, Nat.le_trans hb hg, r⟩
theorem next_name {w1 w2 : World} {o : Obj} {t : Nat → Bool} {x : Nat} (hx : x < 6) (hT : w2.heap[w1.heap.size]? = some (.cells (ncells t) 90 (0, 0))) (hg : (w1.alloc o).grownBy w2 (some w1.heap.size)) :
    Ext w1 (w2.setCell ⟨w1.heap.size, x, none⟩ (.bool true)) ∧ (w2.setCell ⟨w1.heap.size, x, none⟩ (.bool true)).heap[w1.heap.size]? = some (.cells (ncells (upd t x)) 90 (0, 0)) ∧
      w2.cell? ⟨w1.heap.size, x, none⟩ = some (.bool (t x)) ∧ w2.frozen? ⟨w1.heap.size, x, none⟩ = false := by
  obtain ⟨h1, h2⟩ := set_name hx hT
  refine ⟨ext_own (ext_own ((Ext.refl w1).alloc o) hg (Nat.le_refl _)) h2 (Nat.le_refl _), h1, ?_, frozen_of_row _ _ x _ _ hT⟩
  rw [cell_of_row _ _ x _ _ _ hT, ncells_at t hx]
theorem keep_other {w w' : World} {i base : Nat} {v : Value} {xs : List Value} {c : Array Value} {t : TypeId} (ho : My.Own w base 3 v xs) (hg : w.grownBy w' v.ownBlock) (h : w.heap[i]? = some (.cells c t (0, 0))) (hne : t ≠ 3) : w'.heap[i]? = some (.cells c t (0, 0)) := by
  refine (hg.block i (Array.getElem?_eq_some_iff.1 h).1 ?_).trans h
  rcases ho.2 with ⟨rfl, _⟩ | ⟨g, cap, cur, rfl, hb, hgg, _⟩
  · simp [Value.ownBlock]
  · simp only [Value.ownBlock, ne_eq, Option.some.injEq]
    intro e
    subst e
    rw [h] at hgg
    simp at hgg
    exact hne hgg.2

theorem upd_contains (pre : List Nat) (x : Nat) : upd (fun i => pre.contains i) x = fun i => (pre ++ [x]).contains i := by
  funext i
  simp only [upd]
  by_cases e : i = x <;> simp [e, List.contains_eq_mem]

set_option maxRecDepth 100000 in
set_option maxHeartbeats 2000000 in
theorem from_any (n : Nat) (sv : Value) (ss : List (List Nat)) (hn : n ≤ 6) (hv : Valid n ss) (hc : cyc n ss = false) (W0 : World) (B bt l : Nat) (first : List Nat) (J : World → Prop)
    (hbt : bt < W0.heap.size) (htab : W0.heap[bt]? = some (.cells (tcells n sv (tab n ss)) 93 (0, 0)))
    (hY : ∀ m x W1, Ext W0 W1 → My.Own W1 W0.heap.size 3 x ((up first).map (Value.int .i64)) → YieldAt Fence.wide m Tryz.prog l #[x] W1 fun e W' => e = .returned (.bool false) ∧ J W') :
    ∀ (k : Nat) (pre : List Nat) (t : Nat → Bool) (v : Value) (w : World), (t = fun i => pre.contains i) → pre.length + k = n → Pre n ss pre → (dfs (tab n ss) n k pre).head? = some first → FB W0 w B bt l v pre →
      Calls Tryz.prog 120 #[.agg (ncells t), .pointer (some ⟨B + 1, 0, none⟩), .pointer (some ⟨bt, 0, none⟩), .pointer (some ⟨B, 0, none⟩), .pointer (some ⟨B + 2, 0, none⟩)] w fun e W' => e = .returned (.bool false) ∧ J W' := by
  intro k
  have t0 := tcells_0 n sv (tab n ss)
  induction k with
  | zero =>
    intro pre t v w ht hl hp hd fb
    have hf : first = pre := by simpa [dfs] using hd.symm
    subst hf
    obtain ⟨oa, cap, rfl, h1, h2, h3, h4⟩ := fb.own.ints
    rw [up_length] at h1
    have Fb := Lib.hid fb
    have hb1 := fb.nb
    have hb2 := fb.yb
    have htw := (fb.ext.block bt hbt).trans htab
    rw [up_length] at hb1
    have hln : first.length = n := by omega
    have ht0 : w.cell? ⟨bt, 0, none⟩ = some (.int .i64 n) := by rw [cell_of_row w bt 0 _ 93 (0, 0) htw]; exact t0
    have hsz := fb.size
    have s0 : B < w.heap.size := by omega
    have s1 : B + 1 < w.heap.size := by omega
    have s2 : bt < w.heap.size := Nat.lt_of_lt_of_le hbt fb.ext.size
    have hcl := fun W (hE : Ext w W) => clone_ints (cap := cap) (h4.ext hE) (by omega) h3 h1
    rw [hln] at hcl
    have hmix := mixed
    have Hcl := Lib.hid hcl
    clear h4 hcl fb htw hd hl t0 ht
    go_enter Tryz.func120, Tryz.ntmps120
    go_wp2
    refine (wpIn_wide (n := 3)).1 ?_
    have Hy := Lib.hid hY
    clear hY
    gi_region_with_o (first | (refine ⟨trivial, ?_⟩; gi_at_call 103; refine (callsIn_wide.2 (Hcl.out _ ((Ext.refl w).alloc _).drew)).mono ?_; rintro e w1 ⟨v1, rfl, hown1, hE1⟩; obtain ⟨fn, tmps, assign, body, hy, hR⟩ := Hy.out (3 - 1) v1 w1 (Fb.out.ext.trans (((Ext.refl w).alloc _).drew.trans hE1)) (hown1.low (Fb.out.ext.trans ((Ext.refl w).alloc _).drew).size); have hb2' := cell_ext (((Ext.refl w).alloc _).drew.trans hE1) hb2) | (refine hR.mono ?_; rintro e w2 ⟨rfl, hj⟩))
    all_goals
      go_wp2
      go_ret
      exact ⟨rfl, hj⟩
  | succ k ih =>
    intro pre t v w ht hl hp hd fb
    have hfs : ∀ x, free (tab n ss) n t x = free (tab n ss) n (fun i => pre.contains i) x := fun x => by rw [ht]
    obtain ⟨y0, hy0, hf0⟩ := pre_more hv hc hp (by omega)
    have hup := fun x => upd_contains pre x
    rw [← ht] at hup
    obtain ⟨oa, cap, rfl, h1, h2, h3, h4⟩ := fb.own.ints
    rw [up_length] at h1 fb
    have Fb := Lib.hid fb
    have hb1 := fb.nb
    have htw := (fb.ext.block bt hbt).trans htab
    have hln : ((pre.length : Int) == (n : Int)) = false := by simpa using (by omega : ¬ (pre.length : Int) = n)
    have hln2 : pre.length ≤ 6 := by omega
    have ht0 : w.cell? ⟨bt, 0, none⟩ = some (.int .i64 n) := by rw [cell_of_row w bt 0 _ 93 (0, 0) htw]; exact t0
    have hsz := fb.size
    have s0 : B < w.heap.size := by omega
    have s1 : B + 1 < w.heap.size := by omega
    have s2 : bt < w.heap.size := Nat.lt_of_lt_of_le hbt fb.ext.size
    have Hd := Lib.hid hd
    have Hp := Lib.hid hp
    have Hf0 := Lib.hid hf0
    have Hfs := Lib.hid hfs
    have Hup := Lib.hid hup
    have Ih := Lib.hid ih
    have Htab := Lib.hid htab
    clear h4 fb htw hd hp t0 ht hf0 hfs hup ih htab hY h1 h2 h3
    go_enter Tryz.func120, Tryz.ntmps120
    go_wp2
    go_loopg [22] n (fun g i wr => ∃ x : Nat, x + g = n ∧ i = .int .i64 x ∧ FB W0 wr B bt l (.slice oa pre.length cap) pre ∧ wr.heap[w.heap.size]? = some (.cells (ncells t) 90 (0, 0)) ∧ ∀ y, y < x → free (tab n ss) n t y = false)
    case atStart => exact ⟨0, by simp, rfl, Fb.out.next ((Ext.refl w).alloc _), heap_alloc_new w _, fun y h => by omega⟩
    case round =>
      clear Fb hb1 ht0
      obtain ⟨x, hx, rfl, fb, hnam, hno⟩ := hrel
      have Fb := Lib.hid fb
      have Nam := Lib.hid hnam
      have Hno := Lib.hid hno
      have htw := Lib.hid ((fb.ext.block bt hbt).trans Htab.out)
      clear fb hnam hno
      obtain ⟨wo, rfl⟩ : ∃ wo : World, wo = wr := ⟨_, rfl⟩
      by_cases hlt : x < n
      · cases hfree : free (tab n ss) n t x
        · have hno' : ∀ y, y < x + 1 → free (tab n ss) n t y = false := fun y hy => by
            by_cases e : y = x
            · rw [e]; exact hfree
            · exact Hno.out y (by omega)
          have Hno' := Lib.hid hno'
          clear hno'
          go_wp2_with (first | ((with_reducible refine at_load93 _ rfl ?_); refine wpList_load93 rfl _ rfl bt ?_ n sv (tab n ss) htw.out ?_; (focus (go_simp; done))) | ((with_reducible refine at_load90 _ rfl ?_); refine wpList_load90 rfl _ rfl w.heap.size t ?_ Nam.out ?_; (focus (go_simp; done))) | (go_at_call 121; refine (free_any n sv (tab n ss) t x hlt hn _).mono ?_; rw [hfree]; rintro e w1 ⟨rfl, hE⟩))
          go_roundg (gk - 1)
          case measure => omega
          case rel => exact ⟨x + 1, by omega, by go_num, Fb.out.next hE, (hE.block _ (Array.getElem?_eq_some_iff.1 Nam.out).1).trans Nam.out, Hno'.out⟩
        · have hfx := hfree
          rw [Hfs.out] at hfx
          have hnx : ∀ y, y < x → free (tab n ss) n (fun i => pre.contains i) y = false := fun y hy => by rw [← Hfs.out]; exact Hno.out y hy
          have hps := Hp.out.snoc hv hlt hfx
          have hlen : (pre ++ [x]).length + k = n := by rw [List.length_append, List.length_singleton]; omega
          have hdx := Hd.out
          rw [dfs_head hlt hfx hnx (dfs_some hv hc k _ hlen hps)] at hdx
          have hih := fun v' w' (f : FB W0 w' B bt l v' (pre ++ [x])) => Ih.out (pre ++ [x]) (upd t x) v' w' (Hup.out x) hlen hps hdx f
          have Hih := Lib.hid hih
          clear hih hdx hps hlen hnx hfx
          go_wp2_with (first | ((with_reducible refine at_load93 _ rfl ?_); refine wpList_load93 rfl _ rfl bt ?_ n sv (tab n ss) htw.out ?_; (focus (go_simp; done))) | ((with_reducible refine at_load90 _ rfl ?_); refine wpList_load90 rfl _ rfl w.heap.size t ?_ Nam.out ?_; (focus (go_simp; done))) | (go_at_call 121; refine (free_any n sv (tab n ss) t x hlt hn _).mono ?_; rw [hfree]; rintro e w1 ⟨rfl, hE⟩; have fb1 := Lib.hid (Fb.out.next hE); have nam1 := Lib.hid ((hE.block _ (Array.getElem?_eq_some_iff.1 Nam.out).1).trans Nam.out); clear Fb Nam; have Fb := fb1; have Nam := nam1; clear fb1 nam1) | (with_reducible refine wpList_alloc90 rfl rfl ?_) | ((with_reducible refine at_store90 _ _ rfl ?_); refine wpList_store90 rfl _ _ rfl w1.heap.size ?_ t ?_ (ncells fun _ => false) (heap_alloc_new _ _) rfl ?_; (focus (go_simp; done)); (focus (go_simp; done)); intro w2 hT hg _; obtain ⟨hE3, hN3, cx, fx⟩ := next_name (x := x) (by omega) hT hg; have q1 : B + 3 ≤ w1.heap.size := Fb.out.size; have q2 : B + 1 < w1.heap.size := (by omega); have hb1 := Turned.cell hg (by simp; omega) (cell_ext ((Ext.refl w1).alloc (.cells (ncells fun _ => false) 90)) Fb.out.nb); have hf1 := (Turned.frozen (p := ⟨B + 1, 0, none⟩) hg (by simp; omega) (by simp; omega)).trans ((((Ext.refl w1).alloc (.cells (ncells fun _ => false) 90)).frozen (by simp; omega)).trans Fb.out.nf); have hsz2 := hg.size; rw [World.size_alloc] at hsz2; have fb1 := Lib.hid (Fb.out.next hE3); have HN3 := Lib.hid hN3; clear Fb hT hg hE3 hN3; have Fb := fb1; clear fb1) | (at_builtin; refine wpList_app1 _ rfl _ _ 27 rfl 3 Tryz.underlying27 (.int .i64 0) 8 i3 rfl (by decide) (B + 3) _ _ rfl (Fb.out.own.ext ((Ext.refl _).alloc _)) (w1.heap.size + 1) (.int .i64 x) rfl (by go_simp) rfl ?_ ?_ ?_))
          · rw [List.length_map, up_length]; omega
          · have := Fb.out.size; simp at this ⊢; omega
          · intro v' w5 hown5 hBl hgr
            have hN5 := keep_other (Fb.out.own.ext ((Ext.refl _).alloc (.cells #[.int .i64 x] 3))) hgr ((Below.heap_alloc _ _ _ (Array.getElem?_eq_some_iff.1 HN3.out).1).trans HN3.out) (by decide)
            have hbe : Below (B + 3) (w2.setCell ⟨w1.heap.size, x, none⟩ (.bool true)) w5 := ((Ext.refl _).alloc (.cells #[.int .i64 x] 3)).mono (Fb.out.size) |>.trans hBl
            have hown6 : My.Own w5 (B + 3) 3 v' ((up (pre ++ [x])).map (Value.int .i64)) := by rw [up_snoc, List.map_append]; exact hown5
            have hnb : w5.cell? ⟨B + 1, 0, none⟩ = some (.slice oa pre.length cap) := (hbe.cell (p := ⟨B + 1, 0, none⟩) (by simp <;> omega)).trans Fb.out.nb
            have hnf : w5.frozen? ⟨B + 1, 0, none⟩ = false := (hbe.frozen (p := ⟨B + 1, 0, none⟩) (by simp <;> omega)).trans Fb.out.nf
            have hfb5 := (hbe.cell (p := ⟨B + 2, 0, none⟩) (by simp)).trans Fb.out.fb
            have fb6 := Lib.hid (Fb.out.put hbe hown6)
            have hN6 : (w5.setCell ⟨B + 1, 0, none⟩ v').heap[w1.heap.size]? = some (.cells (ncells (upd t x)) 90 (0, 0)) := (heap_setCell_other _ _ _ _ (by simp; omega)).trans hN5
            have HN6 := Lib.hid hN6
            obtain ⟨oa5, cap5, hv5, _⟩ := hown6.slice
            generalize hL : ((up (pre ++ [x])).map (Value.int .i64)).length = L at hv5
            clear hL
            subst hv5
            have hih6 := Lib.hid (Hih.out _ _ fb6.out)
            clear hown5 hown6 hBl hgr hN5 hbe hN6 cx fx hb1 hf1 Fb fb6 Hih HN3
            go_wp2_with (first | ((with_reducible refine at_load90 _ rfl ?_); refine wpList_load90 rfl _ rfl w1.heap.size (upd t x) ?_ HN6.out ?_; (focus (go_simp; done))) | (go_at_call 120; refine hih6.out.mono ?_; rintro e w7 ⟨rfl, hj⟩))
            go_ret
            exact ⟨rfl, hj⟩
      · exfalso
        have := Hno.out y0 (by omega)
        rw [Hfs.out, Hf0.out] at this
        cases this

end Go.Proofs.YtiehfpkcaoeieaaGreatDoor
/- Contracts: strip.orders, strip.First. No condition. -/
namespace Go.Proofs.YtiehfpkcaoeieaaGreatDoor
open Go.RowKit Go.My Go.StripM Go.Shelf
attribute [local go_sem] Oper.semAt_some

theorem cell3 (w : World) (A B : Obj) (v : Value) (t : TypeId) : (((w.alloc A).alloc B).alloc (.cells #[v] t)).cell? ⟨w.heap.size + 1 + 1, 0, none⟩ = some v := by
  rw [cell_of_row _ _ 0 _ _ _ (heap3 w A B (.cells #[v] t))]; rfl
theorem frozen3 (w : World) (A B : Obj) (v : Value) (t : TypeId) : (((w.alloc A).alloc B).alloc (.cells #[v] t)).frozen? ⟨w.heap.size + 1 + 1, 0, none⟩ = false := frozen_of_row _ _ 0 _ _ (heap3 w A B (.cells #[v] t))

set_option maxHeartbeats 1000000 in
theorem iter_any (n : Nat) (sv : Value) (ss : List (List Nat)) (hn : n ≤ 6) (hv : Valid n ss) (hc : cyc n ss = false) (bt l : Nat) (first : List Nat) (J : World → Prop) (w : World)
    (hbt : bt < w.heap.size) (htab : w.heap[bt]? = some (.cells (tcells n sv (tab n ss)) 93 (0, 0)))
    (hY : ∀ m x W1, Ext w W1 → My.Own W1 w.heap.size 3 x ((up first).map (Value.int .i64)) → YieldAt Fence.wide m Tryz.prog l #[x] W1 fun e W' => e = .returned (.bool false) ∧ J W')
    (hd : (dfs (tab n ss) n n []).head? = some first) :
    Calls Tryz.prog 119 #[.func (.yield l) #[] #[], .pointer (some ⟨bt, 0, none⟩)] w fun e W' => (∃ v, e = .returned v) ∧ J W' := by
  have hf := fun W v (f : FB w W w.heap.size bt l v []) => from_any n sv ss hn hv hc w w.heap.size bt l first J hbt htab hY n [] (fun _ => false) v W (by funext i; simp) (by simp) (Pre.nil n ss) hd f
  have Hf := Lib.hid hf
  clear hf hY hd htab
  have hb90 := build90
  have k3 := cell3 w (.cells #[.func (.yield l) #[] #[]] 123) (.cells #[.slice none 0 0] 27) .nilFunc 128
  have k4 := frozen3 w (.cells #[.func (.yield l) #[] #[]] 123) (.cells #[.slice none 0 0] 27) .nilFunc 128
  have hst := fun (w : World) (a : Addr) (c : Array Value) (m : Mode) => run_store Tryz.prog w a (.func (.func 120) #[] c) m rfl
  go_enter Tryz.func119, Tryz.ntmps119
  go_wp2_with (first | (go_at_call 120; refine (Hf.out _ (.slice none 0 0) ⟨(((Ext.refl w).alloc _).alloc _).alloc _, Nat.le_refl _, by simp, by go_simp, by go_simp, by go_simp, cell3 _ _ _ _ _, My.Own.nil _ _ _⟩).mono ?_; rintro e w1 ⟨rfl, hj⟩))
  go_end0
  exact ⟨⟨_, rfl⟩, hj⟩

theorem orders_any (c : Array Value) (w : World) : Calls Tryz.prog 77 #[.agg c] w fun e w' => e = .returned (.func (.func 119) #[] #[.pointer (some ⟨w.heap.size, 0, none⟩)]) ∧ w' = w.alloc (.cells c 93) := by
  go_enter Tryz.func77, Tryz.ntmps77
  go_wp2
  go_ret
  exact ⟨rfl, rfl⟩

/-- The first order, in a variable of one's own. -/
def FirstIn (q : Nat) (w : World) (first : List Nat) (W : World) : Prop := Turned q w W ∧ ∃ x, W.cell? ⟨q, 0, none⟩ = some x ∧ My.Own W w.heap.size 3 x ((up first).map (Value.int .i64))

theorem own_put {W : World} {B l : Nat} {e : TypeId} {x : Value} {xs : List Value} {o o' : Obj} (h : My.Own W B e x xs) (hl : W.heap[l]? = some o) (ho : o.isCells = false) : My.Own (W.putObj l o') B e x xs := by
  refine ⟨h.1, ?_⟩
  rcases h.2 with h2 | ⟨g, cap, cur, hv, hb, hg, r⟩
  · exact .inl h2
  · refine .inr ⟨g, cap, cur, hv, hb, (World.putObj_heap_other ?_).trans hg, r⟩
    rintro rfl
    rw [hl] at hg
    cases hg
    cases ho

set_option maxHeartbeats 1000000 in
theorem first1_ok (n : Nat) (ss : List (List Nat)) (oa : Option Addr) (cap k q : Nat) (y : Value) (w : World) (h : RowsAt w oa (upp ss)) (hl : ss.length ≤ 1000) (hn : n ≤ 6) (hv : Valid n ss)
    (h0 : w.cell? ⟨k, 0, none⟩ = some (.int .i64 n)) (h1 : w.cell? ⟨k, 1, none⟩ = some (.slice oa ss.length cap)) (hq : w.cell? ⟨q, 0, none⟩ = some y) (hqf : w.frozen? ⟨q, 0, none⟩ = false) (hc : cyc n ss = false)
    (first : List Nat) (hd : (dfs (tab n ss) n n []).head? = some first) :
    Calls Tryz.prog 75 #[.pointer (some ⟨k, 0, none⟩), .pointer (some ⟨q, 0, none⟩)] w fun e w' => (∃ v, e = .returned v) ∧ FirstIn q w first w' := by
  have H := Lib.hid h; clear h
  refine (callsIn_wide (n := 3)).1 (callsIn_of_wp_marks Tryz.func75 rfl trivial (wpIn_wide.2 ?_))
  simp only [Tryz.ntmps75, List.size_toArray, List.length_cons, List.length_nil, Nat.reduceAdd, Nat.reduceSub, Array.replicate_succ, Array.replicate_zero, List.push_toArray, List.append_toArray, List.nil_append, List.cons_append]
  refine wp_scope_straight ?_
  refine wp_seq (wp_label ?_)
  go_wp2_with (first | (go_at_call 76; refine (open_any n ss oa cap _ H.out hl hn hv).mono ?_; rintro e w1 ⟨hE, he⟩; rw [if_neg (by rw [hc]; simp)] at he; subst he) | (go_at_call 77; refine (orders_any _ _).mono ?_; rintro e w2 ⟨rfl, rfl⟩))
  have hqw := World.block_lt_of_cell? _ _ hq
  simp only at hqw
  have hs1 := hE.size
  have hput : ∀ (W : World) (l : Nat) (o o' : Obj), FirstIn q w first W → w.heap.size ≤ l → W.heap[l]? = some o → o.isCells = false → FirstIn q w first (W.putObj l o') := by
    rintro W l o o' ⟨hT, x, hx, ho⟩ hl1 hl2 ho2
    refine ⟨hT.own (grownBy_putObj' W l o') hl1, x, (World.cell?_of_block (World.putObj_heap_other (by simp; omega))).trans hx, own_put ho hl2 ho2⟩
  refine wp_rangeFunc_once (gf := 119) (lb := #[.pointer (some ⟨w1.heap.size, 0, none⟩)]) rfl (enters_of Tryz.func119 (by kernel_rfl) rfl)
    (fun x W => My.Own W w.heap.size 3 x ((up first).map (Value.int .i64))) (fun x W l o o' h1 h2 h3 => own_put h1 h2 h3)
    (fun c W => c = .exit 0 ∧ FirstIn q w first W) (fun c W l o o' h1 h2 h3 h4 => ⟨h1.1, hput W l o o' h1.2 (by simp at h2; omega) h3 h4⟩)
    (fun l W J hEW hY => iter_any n _ ss hn hv hc w1.heap.size l first J W (by have := hEW.size; simp at this; omega) ((hEW.block _ (by simp)).trans (heap_alloc_new _ _)) (fun m x W1 hE1 ho => hY m x W1 hE1 (ho.low (by have := hEW.size; simp at this; omega))) hd)
    (fun x => { tmps := #[.pointer (some ⟨k, 0, none⟩), .pointer (some ⟨q, 0, none⟩), x, .agg #[.int .i64 n, .slice oa ss.length cap], .agg (tcells n (.slice oa ss.length cap) (tab n ss)), .func (.func 119) #[] #[.pointer (some ⟨w1.heap.size, 0, none⟩)], x, undef], defers := [] }) ?assign ?body ?stop
  case assign =>
    intro l m x W K hK
    gi_wp2
    exact hK
  case body =>
    intro l m x W ho hB
    obtain ⟨oa', cap', hx, _⟩ := ho.slice
    have hqc : W.cell? ⟨q, 0, none⟩ = some y := (hB.cell (p := ⟨q, 0, none⟩) (by simp; omega)).trans (cell_ext (hE.alloc _) hq)
    have hqg : W.frozen? ⟨q, 0, none⟩ = false := (hB.frozen (p := ⟨q, 0, none⟩) (by simp; omega)).trans (((hE.alloc _).frozen (p := ⟨q, 0, none⟩) (by simp; omega)).trans hqf)
    have Ho := Lib.hid ho
    have HB := Lib.hid hB
    clear ho hB
    generalize hL : ((up first).map (Value.int .i64)).length = L at hx
    clear hL
    subst hx
    gi_wp2
    refine ⟨KeepsOthers.setCell _ _ _, rfl, ((Turned.of_ext (hE.alloc _)).below HB.out (by simp; omega)).set 0 _, _, by go_simp, Ho.out.turned ((Turned.refl q W).set 0 _) hqw⟩
  case stop =>
    rintro D c W ⟨rfl, hf⟩ hD hK
    go_wp2
    refine ⟨by simp, .inl ⟨_, _, rfl, run_takeDeferred hK, ?_⟩⟩
    exact ⟨_, results_none rfl _ _ _, ⟨_, rfl⟩, hput _ _ _ _ hf (by simp at hD; omega) hK rfl⟩

theorem first1_clash (n : Nat) (ss : List (List Nat)) (oa : Option Addr) (cap k q : Nat) (w : World) (h : RowsAt w oa (upp ss)) (hl : ss.length ≤ 1000) (hn : n ≤ 6) (hv : Valid n ss)
    (h0 : w.cell? ⟨k, 0, none⟩ = some (.int .i64 n)) (h1 : w.cell? ⟨k, 1, none⟩ = some (.slice oa ss.length cap)) (hc : cyc n ss = true) :
    Calls Tryz.prog 75 #[.pointer (some ⟨k, 0, none⟩), .pointer (some ⟨q, 0, none⟩)] w fun e w' => (∃ i : Int, e = .panicked [{ v := .iface 125 (.agg #[.int .i64 i]), recovered := false }]) ∧ Ext w w' := by
  have H := Lib.hid h; clear h
  refine (callsIn_wide (n := 3)).1 (callsIn_of_wp_marks Tryz.func75 rfl trivial (wpIn_wide.2 ?_))
  simp only [Tryz.ntmps75, List.size_toArray, List.length_cons, List.length_nil, Nat.reduceAdd, Nat.reduceSub, Array.replicate_succ, Array.replicate_zero, List.push_toArray, List.append_toArray, List.nil_append, List.cons_append]
  refine wp_scope_straight ?_
  refine wp_seq (wp_label ?_)
  go_wp2_with (first | (go_at_call 76; refine (open_any n ss oa cap _ H.out hl hn hv).mono ?_; rintro e w1 ⟨hE, he⟩; rw [if_pos hc] at he; obtain ⟨i, rfl⟩ := he))
  exact ⟨⟨i, rfl⟩, hE⟩

theorem enters75 (args : Array Value) (w : World) : (callFunc 75 args).run Tryz.prog w = .ok (.enter 75 args) w := by kernel_rfl

set_option maxHeartbeats 1000000 in
theorem first_bad (n : Int) (ls : List (List Int)) (oa : Option Addr) (cap : Nat) (w : World) (h : RowsAt w oa ls) (hl : ls.length ≤ 9223372036854775807) (hbad : boardB n ls = false) :
    Calls Tryz.prog 24 #[.agg #[.int .i64 n, .slice oa ls.length cap]] w fun e w' => e = .returned (.tuple #[.slice none 0 0, .int .i64 2]) ∧ Ext w w' := by
  have bx := Lib.hid (BxI.start (n := n) (cap := cap) h)
  clear h
  go_enter Tryz.func24, Tryz.ntmps24
  go_wp2_with (first | (go_at_call 73; refine (bx.out.board hl).mono ?_; rw [hbad]; rintro e w1 ⟨rfl, b1⟩))
  go_ret2
  exact ⟨rfl, b1.ext⟩

set_option maxHeartbeats 1000000 in
theorem first_none (n : Nat) (ss : List (List Nat)) (oa : Option Addr) (cap : Nat) (w : World) (h : RowsAt w oa (upp ss)) (g : Good n ss) (hc : cyc n ss = true) :
    Calls Tryz.prog 24 #[.agg #[.int .i64 n, .slice oa ss.length cap]] w fun e w' => e = .returned (.tuple #[.slice none 0 0, .int .i64 5]) ∧ Ext w w' := by
  have hmf := makeFunc_run
  have bx := Lib.hid (Bx.start (n := n) (cap := cap) h)
  have G := Lib.hid g
  have hA : ∀ w1, Bx n ss oa cap w w1 → Calls Tryz.prog 74 #[.func (.func 75) #[] #[.pointer (some ⟨w.heap.size, 0, none⟩), .pointer (some ⟨w1.heap.size, 0, none⟩)]] (w1.alloc (.cells #[.slice none 0 0] 27)) fun e w' => e = .returned (.int .i64 7) ∧ Ext (w1.alloc (.cells #[.slice none 0 0] 27)) w' := by
    intro w1 b1
    have b2 := (b1.next ((Ext.refl w1).alloc (.cells #[.slice none 0 0] 27))).next ((Ext.refl _).alloc (.cells #[.int .i64 0] 28))
    exact attempt_clash_ext 75 _ _ enters75 (first1_clash n ss oa cap w.heap.size w1.heap.size _ b2.rows (by have := g.len; omega) g.le g.valid b2.c0 b2.c1 hc)
  have HA := Lib.hid hA
  clear hA h g
  go_enter Tryz.func24, Tryz.ntmps24
  go_wp2_with (first | (go_at_call 73; refine (bx.out.board G.out).mono ?_; rintro e w1 ⟨rfl, b1⟩; have B1 := Lib.hid b1; clear b1) | (go_at_call 74; refine (HA.out _ B1.out).mono ?_; rintro e w2 ⟨rfl, hE2⟩))
  go_ret2
  exact ⟨rfl, (B1.out.ext.alloc _).trans hE2⟩

set_option maxHeartbeats 1000000 in
theorem first_any (n : Nat) (ss : List (List Nat)) (oa : Option Addr) (cap : Nat) (w : World) (h : RowsAt w oa (upp ss)) (g : Good n ss) (hc : cyc n ss = false) (first : List Nat) (hf : (all n ss).head? = some first) :
    Calls Tryz.prog 24 #[.agg #[.int .i64 n, .slice oa ss.length cap]] w fun e w' => (∃ v, e = .returned (.tuple #[v, .int .i64 0]) ∧ IsInts w' v (up first)) ∧ Ext w w' := by
  have hmf := makeFunc_run
  have bx := Lib.hid (Bx.start (n := n) (cap := cap) h)
  have G := Lib.hid g
  have hA : ∀ w1, Bx n ss oa cap w w1 → Calls Tryz.prog 74 #[.func (.func 75) #[] #[.pointer (some ⟨w.heap.size, 0, none⟩), .pointer (some ⟨w1.heap.size, 0, none⟩)]] (w1.alloc (.cells #[.slice none 0 0] 27)) fun e w' => e = .returned (.int .i64 0) ∧ Ext w1 w' ∧ ∃ x, w'.cell? ⟨w1.heap.size, 0, none⟩ = some x ∧ IsInts w' x (up first) := by
    intro w1 b1
    have hE2 := (Ext.refl w1).alloc (.cells #[.slice none 0 0] 27)
    have b2 := (b1.next hE2).next ((Ext.refl _).alloc (.cells #[.int .i64 0] 28))
    refine (attempt_ok 75 _ _ (fun w2 => Ext w1 w2 ∧ w1.heap.size + 2 ≤ w2.heap.size ∧ ∃ x, w2.cell? ⟨w1.heap.size, 0, none⟩ = some x ∧ My.Own w2 (w1.heap.size + 2) 3 x ((up first).map (Value.int .i64))) enters75 ((first1_ok n ss oa cap w.heap.size w1.heap.size (.slice none 0 0) _ b2.rows (by have := g.len; omega) g.le g.valid b2.c0 b2.c1 (by go_simp) (by go_simp) hc first (by rw [dfs_all g.valid]; exact hf)).mono ?_)).mono ?_
    · rintro e w2 ⟨h1, h2, x, h3, h4⟩
      refine ⟨h1, h2.cell (by simp) (by go_simp), (h2.frozen (by simp) (by simp)).trans (by go_simp), ext_own (hE2.alloc _) h2 (Nat.le_refl _), by have := h2.size; simp at this; omega, x, h3, h4.low (by simp)⟩
    · rintro e w' ⟨h1, w2, ⟨h2, h3, x, h4, h5⟩, h6⟩
      exact ⟨h1, ext_own h2 h6 (by simp), x, Turned.cell h6 (by simp) h4, (h5.turned h6 (by simp)).ints⟩
  have HA := Lib.hid hA
  clear hA h g
  go_enter Tryz.func24, Tryz.ntmps24
  go_wp2_with (first | (go_at_call 73; refine (bx.out.board G.out).mono ?_; rintro e w1 ⟨rfl, b1⟩; have B1 := Lib.hid b1; clear b1) | (go_at_call 74; refine (HA.out _ B1.out).mono ?_; rintro e w2 ⟨rfl, hE2, x, hx, hi⟩))
  go_ret2
  exact ⟨⟨_, rfl, hi⟩, B1.out.ext.trans hE2⟩

end Go.Proofs.YtiehfpkcaoeieaaGreatDoor
