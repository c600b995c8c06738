/- Contract: the search for cuttings. No condition beyond jobs as defined. -/
import Derived.Test.YtdmegfbeibbmfaaLeaf12
import Derived.Test.YtdmegfbeibbmfaaG1
set_option linter.unusedVariables false
set_option linter.unusedSimpArgs false
namespace Go.Proofs.Ytdmegfbeibbmfaa
open Go.RowKit Go.My Go.GoldM
attribute [local go_sem] Oper.semAt_some

/-- One cell of a slice of the call's own. -/
theorem _root_.Go.My.Own.cellAt {w : World} {B : Nat} {e : TypeId} {v : Value} {xs : List Value} (h : My.Own w B e v xs) {i : Nat} (hi : i < xs.length) (u : Value) :
    ∃ g cap, v = .slice (some ⟨g, 0, none⟩) xs.length cap ∧ B ≤ g ∧ g < w.heap.size ∧ xs.length ≤ cap ∧ cap ≤ maxLen ∧ w.cell? ⟨g, i, none⟩ = some xs[i] ∧ w.frozen? ⟨g, i, none⟩ = false ∧ My.Own (w.setCell ⟨g, i, none⟩ u) B e v (xs.set i u) := by
  rcases h.2 with ⟨_, h2⟩ | ⟨g, cap, cur, hv, hb, hg, hn, hc, hs, ht⟩
  · omega
  · refine ⟨g, cap, hv, hb, (Array.getElem?_eq_some_iff.1 hg).1, hn, hc, ?_, frozen_of_row _ _ i _ _ hg, ?_⟩
    · rw [cell_of_row w g i cur e (0, 0) hg]
      have : xs[i]? = some xs[i] := by simp [hi]
      rw [← this, ← ht, List.getElem?_take, if_pos (by omega)]
      simp
    · refine ⟨by simp, .inr ⟨g, cap, cur.setIfInBounds i u, by rw [List.length_set]; exact hv, hb, heap_setCell_same _ _ _ _ _ _ hg, by rw [List.length_set]; exact hn, hc, by simp [hs], ?_⟩⟩
      rw [List.length_set, Array.toList_setIfInBounds, List.take_set, ht]
theorem natsV_len (l : List Nat) : (natsV l).length = l.length := by simp [natsV]
theorem own_nats {W : World} {b : Nat} {o : Option Addr} {l : List Nat} {c : Nat} (h : My.Own W b 3 (.slice o l.length c) (natsV l)) : l.length ≤ c ∧ (o = none → c = 0) ∧ IntsAt W o (upL l) := by
  obtain ⟨o', c', e1, h1, _, h3, h4⟩ := My.Own.ints (l := upL l) h
  rw [upL_length] at e1 h1
  injection e1 with e1 _ e2
  subst e1 e2
  exact ⟨h1, h3, h4⟩
theorem clone_nats {W : World} {o : Option Addr} {l : List Nat} {c : Nat} (h : l.length ≤ c ∧ (o = none → c = 0) ∧ IntsAt W o (upL l)) (hl : l.length ≤ 1000) :
    Calls Try.prog 55 #[.slice o l.length c] W fun e w' => ∃ v, e = .returned v ∧ My.Own w' W.heap.size 3 v (natsV l) ∧ Ext W w' := by
  have := clone_ints (cap := c) h.2.2 (by rw [upL_length]; exact hl) h.2.1 (by rw [upL_length]; exact h.1)
  rwa [upL_length] at this
/-- The blocks of two slices more. -/
def oI (I : Nat → Prop) (u v : Value) (i : Nat) : Prop := I i ∨ u.ownBlock = some i ∨ v.ownBlock = some i

section
variable (j : Jb) (bj B l K F mb : Nat) (og oj op : Option Addr) (cg cj cp n S : Nat) (Bd : Nat → Prop) (R : Nat → (Nat → Prop) → World → Prop) (Fin : World → Prop)
/-- The search at some place: its boxes, the leaves so far, their sets. -/
structure PS (I : Nat → Prop) (now sets : List Nat) (u v : Value) (W : World) : Prop where
  pb : PB j bj B l K F mb og oj op cg cj cp W
  pI : ∀ i, pI B K F mb op i → I i
  hI : ∀ i, I i → S ≤ i ∧ i < W.heap.size
  on : My.Own W S 3 u (natsV now)
  os : My.Own W S 3 v (natsV sets)
  onI : ∀ b, u.ownBlock = some b → ¬ I b
  osI : ∀ b, v.ownBlock = some b → ¬ I b
variable {j bj B l K F mb og oj op cg cj cp n S Bd}
theorem PS.mv (hbj : bj < n) (hbd : ¬ Bd bj) {I : Nat → Prop} {now sets : List Nat} {u v : Value} {W W' : World} (h : PS j bj B l K F mb og oj op cg cj cp S I now sets u v W) (hM : Mv (xI n mb Bd (oI I u v)) W W') (hm : RestM.Memo W' mb (F3 j.pieces)) :
    PS j bj B l K F mb og oj op cg cj cp S I now sets u v W' := by
  have hmb : I mb := h.pI mb (.inr (.inr (.inr (.inl rfl))))
  refine ⟨h.pb.mv hM (fun hn hx => ?_) (fun i hi hn hx => ?_) hm, h.pI, fun i hi => ⟨(h.hI i hi).1, Nat.lt_of_lt_of_le (h.hI i hi).2 hM.size⟩, h.on.mv hM fun b hb hx => ?_, h.os.mv hM fun b hb hx => ?_, h.onI, h.osI⟩
  · rcases hx with hx | hx
    · exact hn hx
    · exact hx (.inr ⟨hbj, hbd⟩)
  · rcases hx with hx | hx
    · exact hn hx
    · exact hx (.inl (.inl (h.pI i hi)))
  · rcases hx with rfl | hx
    · exact h.onI _ hb hmb
    · exact hx (.inl (.inr (.inl hb)))
  · rcases hx with rfl | hx
    · exact h.osI _ hb hmb
    · exact hx (.inl (.inr (.inr hb)))
theorem PS.old {I : Nat → Prop} {now sets : List Nat} {u v : Value} {W : World} (h : PS j bj B l K F mb og oj op cg cj cp S I now sets u v W) {i : Nat} (hi : oI I u v i) : S ≤ i ∧ i < W.heap.size := by
  rcases hi with hi | hi | hi
  · exact h.hI i hi
  · exact h.on.lt i hi
  · exact h.os.lt i hi
end
theorem xI_mono {n mb : Nat} {Bd I I' : Nat → Prop} (h : ∀ i, I i → I' i) (i : Nat) (hx : xI n mb Bd I' i) : xI n mb Bd I i := hx.imp id fun h1 h2 => h1 (h2.imp (h i) id)

end Go.Proofs.Ytdmegfbeibbmfaa
