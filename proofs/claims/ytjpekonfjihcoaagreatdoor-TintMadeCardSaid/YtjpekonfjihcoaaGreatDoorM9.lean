/- Contracts and mathematics, joined: Each. Conditions stand with each. -/
import Derived.Below
import Derived.BigQuiet
import Derived.Deep.DeepCutAuto
import Derived.Deep.DeepFit
import Derived.Deep.LoopGhost
import Derived.Deep.QuietTactic
import Derived.Deep.RegionHeld
import Derived.Deep.RegionHeld3
import Derived.Deep.RegionWith
import Derived.Lib.Hide
import Derived.OrdersHeld
import Derived.RangeFuncBound
import Derived.RangeFuncCalls
import Derived.RangeFuncLeaves
import Derived.RangeFuncNested
import Derived.Test.YtjpekonfjihcoaaGreatDoorProg
import Derived.WalkKit
import Derived.WalkLawsBesides
import Derived.WalkSpells
import Derived.Test.YtjpekonfjihcoaaGreatDoorM1
namespace Go.TintM
end Go.TintM
set_option maxRecDepth 100000
set_option maxHeartbeats 64000000
set_option linter.unusedVariables false
set_option linter.unusedSimpArgs false
/- A range over a function whose body is run for one value after another. No condition. -/
namespace Go.My
open Go Go.RowKit

/-- b is a, but for some blocks, and with new ones. -/
structure Mv (I : Nat → Prop) (a b : World) : Prop where
 os : b.os = a.os
 tape : b.tape = a.tape
 output : b.output = a.output
 size : a.heap.size ≤ b.heap.size
 block : ∀ i, i < a.heap.size → ¬ I i → b.heap[i]? = a.heap[i]?
theorem Mv.refl (I : Nat → Prop) (w : World) : Mv I w w := ⟨rfl, rfl, rfl, Nat.le_refl _, fun _ _ _ => rfl⟩
theorem Mv.trans {I : Nat → Prop} {a b c : World} (h : Mv I a b) (k : Mv I b c) : Mv I a c :=
 ⟨k.os.trans h.os, k.tape.trans h.tape, k.output.trans h.output, Nat.le_trans h.size k.size, fun i hi hn => (k.block i (Nat.lt_of_lt_of_le hi h.size) hn).trans (h.block i hi hn)⟩
theorem Mv.mono {I I' : Nat → Prop} {a b : World} (h : Mv I a b) (hI : ∀ i, i < a.heap.size → I i → I' i) : Mv I' a b :=
 ⟨h.os, h.tape, h.output, h.size, fun i hi hn => h.block i hi fun k => hn (hI i hi k)⟩
theorem Mv.of_ext {I : Nat → Prop} {a b : World} (h : Ext a b) : Mv I a b := ⟨h.os, h.tape, h.output, h.size, fun i hi _ => h.block i hi⟩
theorem Mv.of_grown {I : Nat → Prop} {a b : World} {o : Option Nat} (h : a.grownBy b o) (hI : ∀ i, o = some i → I i) : Mv I a b :=
 ⟨h.os, h.tape, h.output, h.size, fun i hi hn => h.block i hi fun e => hn (hI i e.symm)⟩
theorem Mv.of_below {I : Nat → Prop} {B : Nat} {a b : World} (h : Below B a b) (hI : ∀ i, i < a.heap.size → B ≤ i → I i) : Mv I a b :=
 ⟨h.os, h.tape, h.output, h.size, fun i hi hn => h.block i (Classical.byContradiction fun hc => hn (hI i hi (by omega)))⟩
theorem Mv.ext {I : Nat → Prop} {w a b : World} (hE : Ext w a) (h : Mv I a b) (hI : ∀ i, I i → w.heap.size ≤ i) : Ext w b :=
 ⟨h.os.trans hE.os, h.tape.trans hE.tape, h.output.trans hE.output, Nat.le_trans hE.size h.size, fun i hi => (h.block i (Nat.lt_of_lt_of_le hi hE.size) fun k => by have := hI i k; omega).trans (hE.block i hi)⟩
theorem Mv.heap {I : Nat → Prop} {a b : World} (h : Mv I a b) {i : Nat} {o : Obj} (hi : ¬ I i) (ho : a.heap[i]? = some o) : b.heap[i]? = some o := (h.block i (Array.getElem?_eq_some_iff.1 ho).1 hi).trans ho
theorem Mv.cell {I : Nat → Prop} {a b : World} {p : Addr} {v : Value} (h : Mv I a b) (hp : ¬ I p.block) (hc : a.cell? p = some v) : b.cell? p = some v :=
 (World.cell?_of_block (h.block _ (World.block_lt_of_cell? _ _ hc) hp)).trans hc
theorem Mv.frozen {I : Nat → Prop} {a b : World} {p : Addr} (h : Mv I a b) (hp : ¬ I p.block) (hl : p.block < a.heap.size) : b.frozen? p = a.frozen? p := World.frozen?_of_block (h.block _ hl hp)

/-- How a round may be left: it goes on, or stops. -/
def eachPost (Kp G : World → Prop) (Ix : Code → World → Prop) (W : World) : Exit → Act → World → Prop
 | .normal, _, W' => KeepsOthers W W' ∧ Kp W' ∧ G W'
 | .ret, _, W' => KeepsOthers W W' ∧ Kp W' ∧ Ix .ret W'
 | .exit id, _, W' => KeepsOthers W W' ∧ Kp W' ∧ Ix (.exit id) W'
 | .goto t, _, W' => KeepsOthers W W' ∧ Kp W' ∧ Ix (.goto t) W'
 | _, _, _ => False
/-- What a body must keep: the iterator's blocks, and those ahead of n but for its own. -/
abbrev Kept (I Bd : Nat → Prop) (n : Nat) (W W' : World) : Prop := Mv (fun i => ¬ (I i ∨ (i < n ∧ ¬ Bd i))) W W'
/-- What holds of a world holds when the iterator has gone on. -/
def Steady (J : Nat → (Nat → Prop) → World → Prop) : Prop :=
 ∀ (k : Nat) (I I' : Nat → Prop) (W W' : World), J k I W → Mv I W W' → (∀ i, I' i → (I i ∨ W.heap.size ≤ i) ∧ i < W'.heap.size) → J k I' W'
/-- The contract of an iterator that hands out N values. -/
def Iter (P : Program) (gf : Nat) (lb : Array Value) (N : Nat) (Bd : Nat → Prop) (n : Nat) (P1 : Nat → (Nat → Prop) → Value → World → Prop) (w : World) : Prop :=
 ∀ (l : Nat) (W : World) (R : Nat → (Nat → Prop) → World → Prop) (Fin : World → Prop), Ext w W → Steady R → R 0 (fun _ => False) W →
  (∀ (m k : Nat) (I : Nat → Prop) (x : Value) (W1 : World), k < N → R k I W1 → P1 k I x W1 → (∀ i, I i → W.heap.size ≤ i ∧ i < W1.heap.size) →
   YieldAt Fence.wide m P l #[x] W1 fun e W' => ∃ b, e = .returned (.bool b) ∧ Kept I Bd n W1 W' ∧ (b = true → R (k + 1) I W') ∧ (b = false → Fin W')) →
  Calls P gf (#[.func (.yield l) #[] #[]] ++ lb) W fun e W' => (∃ v, e = .returned v) ∧ ((∃ I, R N I W' ∧ ∀ i, I i → W.heap.size ≤ i ∧ i < W'.heap.size) ∨ Fin W')

theorem wp_rangeFunc_each {P : Program} {g : Operand} {p : Tmp} {assign body : Code} {Q : Exit → Act → World → Prop} {a : Act} {w : World}
  {gf : Nat} {lb : Array Value} (hg : a.eval g = .func (.func gf) #[] lb) (eg : ∀ args w, (callFunc gf args).run P w = .ok (.enter gf args) w)
  (N : Nat) (Bd : Nat → Prop) (P1 : Nat → (Nat → Prop) → Value → World → Prop)
  (J : Nat → (Nat → Prop) → World → Prop) (hJ : Steady J) (hJp : ∀ k I W l o o', J k I W → w.heap.size ≤ l → W.heap[l]? = some o → o.isCells = false → J k I (W.putObj l o'))
  (Ix : Code → World → Prop) (hIp : ∀ c W l o o', Ix c W → w.heap.size ≤ l → W.heap[l]? = some o → o.isCells = false → Ix c (W.putObj l o'))
  (h0 : J 0 (fun _ => False) w) (hseq : Iter P gf lb N Bd w.heap.size P1 w)
  (Pa : Nat → (Nat → Prop) → Value → Act → World → Prop) (hPa : ∀ k I x a W l o o', Pa k I x a W → W.heap[l]? = some o → o.isCells = false → Pa k I x a (W.putObj l o'))
  (hassign : ∀ (l m k : Nat) (I : Nat → Prop) (x : Value) (W : World), k < N → J k I W → P1 k I x W → (∀ i, I i → w.heap.size ≤ i ∧ i < W.heap.size) →
   ∀ K : Act → World → Prop, (∀ a' Wa, KeepsOthers W Wa → Kept I Bd w.heap.size W Wa → J k I Wa → Pa k I x a' Wa → K a' Wa) →
   assign.wpIn (Fence.wide.inRound l) m P (Exit.then K (fun _ _ _ => False)) { tmps := (#[p].zip #[x]).foldl (fun t (p, v) => t.setIfInBounds p v) a.tmps, defers := [] } W)
  (hbody : ∀ (l m k : Nat) (I : Nat → Prop) (x : Value) (a' : Act) (W : World), k < N → J k I W → Pa k I x a' W → (∀ i, I i → w.heap.size ≤ i ∧ i < W.heap.size) →
   body.wpIn (Fence.wide.inRound l) m P (eachPost (Kept I Bd w.heap.size W) (fun W' => J (k + 1) I W') Ix W) a' W)
  (hnorm : ∀ (D : Nat) (I : Nat → Prop) (W : World), J N I W → w.heap.size ≤ D → W.heap[D]? = some (.deferred (some [])) → Q .normal { a with defers := { target := .collected D, args := #[] } :: a.defers } W)
  (hstop : ∀ (D : Nat) (c : Code) (W : World), Ix c W → w.heap.size ≤ D → W.heap[D]? = some (.deferred (some [])) → c.wp P Q { a with defers := { target := .collected D, args := #[] } :: a.defers } W) :
  (Code.rangeFunc g #[p] assign body).wp P Q a w := by
 refine (wpIn_wide (n := 3)).1 (wpIn_rangeFunc ?_)
 intro fn hfn
 have hro : Fence.wide.round = none := rfl
 rw [hro]
 obtain ⟨rec, hrec⟩ : ∃ rec : LoopState → Option Code → Loop, rec = fun st pe => { state := st, pending := pe, fn, tmps := a.tmps, params := #[p], assign, body, defers := w.heap.size } := ⟨_, rfl⟩
 obtain ⟨W1, hW1⟩ : ∃ W1, (w.alloc (.deferred (some []))).alloc (.loop (rec .ready none)) = W1 := ⟨_, rfl⟩
 have hL1 : W1.heap[w.heap.size + 1]? = some (.loop (rec .ready none)) := by
  rw [← hW1]; have := World.alloc_heap_new (w.alloc (.deferred (some []))) (.loop (rec .ready none)); rwa [World.size_alloc] at this
 have hK1 : W1.heap[w.heap.size]? = some (.deferred (some [])) := by
  rw [← hW1]; exact (Below.heap_alloc _ _ _ (by simp)).trans (World.alloc_heap_new w _)
 have hE1 : Ext w W1 := by rw [← hW1]; exact ((Ext.refl w).alloc _).alloc _
 have hS1 : W1.heap.size = w.heap.size + 2 := by rw [← hW1]; simp
 refine ⟨w.heap.size + 1, [{ target := .collected w.heap.size, args := #[] }], W1, { target := .fn (.func gf) lb, args := #[.func (.yield (w.heap.size + 1)) #[] #[]] }, W1, gf,
  #[.func (.yield (w.heap.size + 1)) #[] #[]] ++ lb, W1, ?_, ?_, ?_, ?_, fun _ => by omega, ?_⟩
 ·rw [← hW1, hrec]; exact run_enterLoop_outer _ _ _ _ _
 ·simp only [resolve, hg]
  simp [go_sem]
 ·intro f' _; trivial
 ·simp [invoke, go_sem, eg]
 ·obtain ⟨R, hR⟩ : ∃ R : Nat → (Nat → Prop) → World → Prop, R = fun k I W => J k I W ∧ W.heap[w.heap.size + 1]? = some (.loop (rec .ready none)) ∧ W.heap[w.heap.size]? = some (.deferred (some [])) ∧ (∀ i, I i → W1.heap.size ≤ i) ∧ W1.heap.size ≤ W.heap.size := ⟨_, rfl⟩
  have hsteady : Steady R := by
   rw [hR]
   rintro k I I' W W' ⟨hj, hl, hk, hI, hs⟩ hm hI'
   have n1 : ¬ I (w.heap.size + 1) := fun h => by have := hI _ h; omega
   have n2 : ¬ I w.heap.size := fun h => by have := hI _ h; omega
   exact ⟨hJ k I I' W W' hj hm hI', hm.heap n1 hl, hm.heap n2 hk, fun i hi => by
    rcases (hI' i hi).1 with h | h
    ·exact hI i h
    ·omega, Nat.le_trans hs hm.size⟩
  have hR0 : R 0 (fun _ => False) W1 := by
   rw [hR]
   exact ⟨hJ 0 _ _ w W1 h0 (Mv.of_ext hE1) (fun i hi => hi.elim), hL1, hK1, fun i hi => hi.elim, Nat.le_refl _⟩
  refine (callsIn_wide.2 (hseq (w.heap.size + 1) W1 R (fun W => ∃ c, Ix c W ∧ W.heap[w.heap.size + 1]? = some (.loop (rec .done (some c))) ∧ W.heap[w.heap.size]? = some (.deferred (some []))) hE1 hsteady hR0 ?_)).mono ?_
  ·intro m k I x W0 hk hRk hP1 hIb0
   rw [hR] at hRk
   obtain ⟨hj0, hl0, hkd0, hI, hs0⟩ := hRk
   have hy := run_yield (P := P) (args := #[x]) hl0 (by rw [hrec]; rfl)
   rw [hrec] at hy
   refine ⟨fn, _, assign, body, hy, roundIn_of_wpIn hfn (hassign _ _ k I x W0 hk hj0 hP1 (fun i hi => ⟨by have := hI i hi; omega, (hIb0 i hi).2⟩) _ fun a' W hka hkp hj hpa => ?_)⟩
   have hl := hka.same _ _ hl0 rfl
   have hkd := hka.same _ _ hkd0 rfl
   have hs := Nat.le_trans hs0 hkp.size
   have hIb : ∀ i, I i → W1.heap.size ≤ i ∧ i < W.heap.size := fun i hi => ⟨(hIb0 i hi).1, Nat.lt_of_lt_of_le (hIb0 i hi).2 hkp.size⟩
   have hlt : w.heap.size + 1 < W.heap.size := (Array.getElem?_eq_some_iff.1 hl).1
   refine ⟨_, run_beginRound hl (by rw [hrec]), ?_⟩
   have hl2 : (W.putObj (w.heap.size + 1) (.loop { rec .ready none with state := .busy })).heap[w.heap.size + 1]? = some (.loop { rec .ready none with state := .busy }) := World.putObj_heap_same hlt
   have hk2 : (W.putObj (w.heap.size + 1) (.loop { rec .ready none with state := .busy })).heap[w.heap.size]? = some (.deferred (some [])) := (World.putObj_heap_other (by omega)).trans hkd
   have hg2 := grownBy_putObj' W (w.heap.size + 1) (.loop { rec .ready none with state := .busy })
   have hnk : ∀ i, some (w.heap.size + 1) = some i → ¬ (I i ∨ (i < w.heap.size ∧ ¬ Bd i)) := fun i e => by
    cases e
    rintro (h | h)
    ·have := hI _ h; omega
    ·omega
   refine wpIn_mono (hbody _ _ k I x a' _ hk (hJp _ _ _ _ _ _ hj (by omega) hl rfl) (hPa _ _ _ _ _ _ _ _ hpa hl rfl) (fun i hi => ⟨by have := hI i hi; omega, Nat.lt_of_lt_of_le (hIb i hi).2 hg2.size⟩)) ?_
   have fin : ∀ (c : Code) (W3 : World), KeepsOthers (W.putObj (w.heap.size + 1) (.loop { rec .ready none with state := .busy })) W3 → Kept I Bd w.heap.size (W.putObj (w.heap.size + 1) (.loop { rec .ready none with state := .busy })) W3 → Ix c W3 →
     ∃ v w', (Instr.endRound (w.heap.size + 1) (some c)).run P W3 = .ok v w' ∧ ∃ b, Ending.returned v = .returned (.bool b) ∧ Kept I Bd w.heap.size W0 w' ∧ (b = true → R (k + 1) I w') ∧
      (b = false → ∃ c, Ix c w' ∧ w'.heap[w.heap.size + 1]? = some (.loop (rec .done (some c))) ∧ w'.heap[w.heap.size]? = some (.deferred (some []))) := fun c W3 hk3 hkp3 hi => by
    have hl3 := hk3.same _ _ hl2 rfl
    have hrun := run_endRound (P := P) (some c) hl3
    have hg3 := grownBy_putObj' W3 (w.heap.size + 1) (.loop (rec .done (some c)))
    rw [hrec] at hrun hl3
    refine ⟨_, W3.putObj (w.heap.size + 1) (.loop (rec .done (some c))), by rw [hrun, hrec]; rfl, false, rfl, ((hkp.trans (Mv.of_grown hg2 hnk)).trans hkp3).trans (Mv.of_grown hg3 hnk), nofun, fun _ => ⟨c, hIp _ _ _ _ _ hi (by omega) hl3 rfl, ?_, (World.putObj_heap_other (by omega)).trans (hk3.same _ _ hk2 rfl)⟩⟩
    exact World.putObj_heap_same (Array.getElem?_eq_some_iff.1 hl3).1
   rintro e a3 W3 hp
   cases e with
   | ret => exact fin _ _ hp.1 hp.2.1 hp.2.2
   | exit id => exact fin _ _ hp.1 hp.2.1 hp.2.2
   | goto t => exact fin _ _ hp.1 hp.2.1 hp.2.2
   | panic ch => exact hp.elim
   | outgrown => exact hp.elim
   | normal =>
    obtain ⟨hk3, hkept, hj3⟩ := hp
    have hl3 := hk3.same _ _ hl2 rfl
    have hrun := run_endRound (P := P) none hl3
    have hg3 := grownBy_putObj' W3 (w.heap.size + 1) (.loop (rec .ready none))
    have hsz : W1.heap.size ≤ W3.heap.size := Nat.le_trans hs (Nat.le_trans hg2.size hkept.size)
    refine ⟨.bool true, W3.putObj (w.heap.size + 1) (.loop (rec .ready none)), ?_, true, rfl, ((hkp.trans (Mv.of_grown hg2 hnk)).trans hkept).trans (Mv.of_grown hg3 hnk), fun _ => ?_, nofun⟩
    ·rw [hrun, hrec]; rfl
    ·rw [hR]
     exact ⟨hJp _ _ _ _ _ _ hj3 (by omega) hl3 rfl, World.putObj_heap_same (Array.getElem?_eq_some_iff.1 hl3).1, (World.putObj_heap_other (by omega)).trans (hk3.same _ _ hk2 rfl), hI, Nat.le_trans hsz hg3.size⟩
  ·rintro e W2 ⟨⟨v, rfl⟩, ⟨I, hRN, hIN⟩ | ⟨c, hi, hl, hk⟩⟩
   ·rw [hR] at hRN
    obtain ⟨hj, hl, hk, hI, hs⟩ := hRN
    have hrun := run_endLoop (P := P) hl (by rw [hrec]; simp)
    rw [hrec] at hrun hl
    exact ⟨none, _, hrun, hnorm _ I _ (hJp _ _ _ _ _ _ hj (by omega) hl rfl) (Nat.le_refl _) ((World.putObj_heap_other (by omega)).trans hk)⟩
   ·have hrun := run_endLoop (P := P) hl (by rw [hrec]; simp)
    rw [hrec] at hrun hl
    exact ⟨some c, _, hrun, wpIn_wide.2 (hstop _ c _ (hIp _ _ _ _ _ hi (by omega) hl rfl) (Nat.le_refl _) ((World.putObj_heap_other (by omega)).trans hk))⟩

end Go.My
