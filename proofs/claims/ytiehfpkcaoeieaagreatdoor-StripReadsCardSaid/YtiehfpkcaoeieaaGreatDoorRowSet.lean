/- One row of a slice of the call's own is written. No condition. -/
import Derived.Test.YtiehfpkcaoeieaaGreatDoorLCan
set_option linter.unusedVariables false
set_option linter.unusedSimpArgs false
namespace Go.Proofs.YtiehfpkcaoeieaaGreatDoor
open Go.RowKit Go.My Go.StripM

theorem OwnR.set {w : World} {B base : Nat} {v : Value} {ss : List (List Nat)} (h : OwnR w B base v ss) {k : Nat} (hk : k < ss.length) {u : Value} {s : List Nat} (hu : RowE w B u (up s)) :
    ∃ g cap, v = .slice (some ⟨g, 0, none⟩) ss.length cap ∧ base ≤ g ∧ g < w.heap.size ∧ ss.length ≤ cap ∧ cap ≤ maxLen ∧ (∃ u0, w.cell? ⟨g, k, none⟩ = some u0) ∧ w.frozen? ⟨g, k, none⟩ = false ∧ OwnR (w.setCell ⟨g, k, none⟩ u) B base v (ss.set k s) := by
  obtain ⟨hB, xs, h1, h2, h3⟩ := h
  obtain ⟨g, cap, e1, e2, e3, e4, e5, e6, e7, e8⟩ := h1.cellAt (i := k) (by omega) u
  have htag : ∃ c, w.heap[g]? = some (.cells c 27 (0, 0)) := by
    rcases h1.2 with ⟨_, hn⟩ | ⟨g', cap', cur, hv, hb, hg, _⟩
    · omega
    · rw [hv] at e1
      injection e1 with e1
      injection e1 with e1
      injection e1 with e1
      subst e1
      exact ⟨cur, hg⟩
  have hT := (Turned.refl g w).set k u
  have ht := tag_set htag (by decide)
  refine ⟨g, cap, by rw [e1, h2], e2, e3, by omega, e5, ⟨_, e6⟩, e7, hB, xs.set k u, e8, by simp [h2], fun i s' hs' => ?_⟩
  by_cases hi : i = k
  · subst hi
    rw [List.getElem?_set_self (by omega)] at hs'
    injection hs' with hs'
    subst hs'
    exact ⟨u, by rw [List.getElem?_set_self (by omega)], hu.turned hT (by omega) ht⟩
  · rw [List.getElem?_set_ne (Ne.symm hi)] at hs'
    obtain ⟨u', k1, k2⟩ := h3 i s' hs'
    exact ⟨u', by rw [List.getElem?_set_ne (Ne.symm hi)]; exact k1, k2.turned hT (by omega) ht⟩

theorem OwnR.at {w : World} {B base : Nat} {v : Value} {ss : List (List Nat)} (h : OwnR w B base v ss) {k : Nat} (hk : k < ss.length) :
    ∃ g cap, v = .slice (some ⟨g, 0, none⟩) ss.length cap ∧ base ≤ g ∧ g < w.heap.size ∧ ss.length ≤ cap ∧ cap ≤ maxLen := by
  obtain ⟨hB, xs, h1, h2, h3⟩ := h
  obtain ⟨g, cap, e1, e2, e3, e4, e5, _⟩ := h1.cellAt (i := k) (by omega) undef
  exact ⟨g, cap, by rw [e1, h2], e2, e3, by omega, e5⟩

end Go.Proofs.YtiehfpkcaoeieaaGreatDoor
