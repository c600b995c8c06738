/- Contracts: Clone of pieces. No condition. -/
import Derived.Test.YtdmegfbeibbmfaaLeaf8
set_option linter.unusedVariables false
set_option linter.unusedSimpArgs false
namespace Go.Proofs.Ytdmegfbeibbmfaa
open Go.RowKit Go.My Go.GoldM

abbrev pcsC (ps : List Pc) : List Value := ps.flatMap pcL
theorem pcsC_len (ps : List Pc) : (pcsC ps).length = ps.length * 4 := by
  induction ps with
  | nil => rfl
  | cons p ps ih => rw [show pcsC (p :: ps) = pcL p ++ pcsC ps from rfl, List.length_append, ih]; show 4 + ps.length * 4 = (ps.length + 1) * 4; omega
theorem pcsC_get {ps : List Pc} {i : Nat} {p : Pc} (hp : ps[i]? = some p) {j : Nat} {v : Value} (hv : (pcL p)[j]? = some v) : (pcsC ps)[i * 4 + j]? = some v := by
  induction ps generalizing i with
  | nil => simp at hp
  | cons a ps ih =>
    have e : pcsC (a :: ps) = pcL a ++ pcsC ps := rfl
    have hl : (pcL a).length = 4 := rfl
    rw [e]
    cases i with
    | zero =>
      simp only [List.getElem?_cons_zero, Option.some.injEq] at hp
      subst hp
      have hj := (List.getElem?_eq_some_iff.1 hv).1
      rw [Nat.zero_mul, Nat.zero_add, List.getElem?_append_left hj]
      exact hv
    | succ i =>
      simp only [List.getElem?_cons_succ] at hp
      rw [List.getElem?_append_right (by rw [hl]; omega), hl, show (i + 1) * 4 + j - 4 = i * 4 + j by omega]
      exact ih hp
theorem pcsC_at {ps : List Pc} {j : Nat} {u : Value} (hu : (pcsC ps)[j]? = some u) : ∃ i k p, j = i * 4 + k ∧ ps[i]? = some p ∧ (pcL p)[k]? = some u := by
  have hj := (List.getElem?_eq_some_iff.1 hu).1
  rw [pcsC_len] at hj
  have hi : j / 4 < ps.length := by omega
  have hp : ps[j / 4]? = some ps[j / 4] := by simp [hi]
  have hk : j % 4 < (pcL ps[j / 4]).length := by show j % 4 < 4; omega
  have hx : (pcL ps[j / 4])[j % 4]? = some (pcL ps[j / 4])[j % 4] := by rw [List.getElem?_eq_getElem hk]
  have := pcsC_get hp hx
  rw [show j / 4 * 4 + j % 4 = j by omega, hu] at this
  exact ⟨j / 4, j % 4, _, by omega, hp, by rw [hx]; exact this.symm⟩
theorem pcs_cells {w : World} {ad : Addr} {ps : List Pc} (h : PcsAt w (some ad) ps) : ∀ (j : Nat) (u : Value), (pcsC ps)[j]? = some u → w.cell? (ad.add j) = some u := fun j u hu => by
  obtain ⟨i, k, p, rfl, hp, hx⟩ := pcsC_at hu
  obtain ⟨b, off, he, _, hc⟩ := h i p hp
  cases he
  rw [add_none, ← Nat.add_assoc]
  exact hc k u hx
theorem own_pcs {W : World} {B : Nat} {v : Value} {ps : List Pc} (h : W.ownsRow B 32 4 v ps.length (pcsC ps)) : ∃ o c, v = .slice o ps.length c ∧ ps.length ≤ c ∧ PcsAt W o ps ∧ ∀ ad, o = some ad → B ≤ ad.block := by
  rcases h.2 with ⟨rfl, h2⟩ | ⟨g, cap, cur, rfl, hb, hh, h3, h4, h5, h7⟩
  · have : ps = [] := List.eq_nil_of_length_eq_zero h2
    subst this
    exact ⟨none, 0, rfl, Nat.le_refl _, fun i t ht => by simp at ht, fun ad e => by cases e⟩
  · refine ⟨_, _, rfl, h3, fun i p hp => ⟨g, 0, rfl, (Array.getElem?_eq_some_iff.1 hh).1, fun j v hv => ?_⟩, fun ad e => by cases e; exact hb⟩
    have := h.cells (g := g) rfl _ _ (pcsC_get hp hv)
    rwa [add_none, show 0 + (i * 4 + j) = 0 + i * 4 + j by omega] at this

theorem i32 : (Try.prog.info? 32).map (fun i => (i.zero, i.size, i.bytes)) = some (some (.agg #[.int .i64 0, .int .i64 0, .bool false, .int .i64 0]), 4, 32) := by kernel_rfl
theorem eq28s (ad : Addr) (n c : Nat) (w : World) : (binOp BinOp.eql 28 (.slice (some ad) n c) (.slice none 0 0)).run Try.prog w = .ok (.bool false) w := by kernel_rfl

set_option maxRecDepth 100000 in
set_option maxHeartbeats 1000000 in
theorem clone72 (ps : List Pc) (h1 : 1 ≤ ps.length) (hl : ps.length ≤ 1000) (o : Option Addr) (c : Nat) (w : World) (h : PcsAt w o ps) :
    Calls Try.prog 72 #[.slice o ps.length c] w fun e w' => ∃ o' c', e = .returned (.slice o' ps.length c') ∧ ps.length ≤ c' ∧ PcsAt w' o' ps ∧ (∀ ad, o' = some ad → w.heap.size ≤ ad.block) ∧ Ext w w' := by
  obtain ⟨b, off, rfl, _⟩ := h 0 ps[0] (by simp [h1])
  have hE := (Ext.refl w).alloc (.cells #[] 32)
  have hown : (w.alloc (.cells #[] 32)).ownsRow w.heap.size 32 4 (.slice (some ⟨w.heap.size, 0, none⟩) 0 0) 0 [] := ⟨rfl, .inr ⟨w.heap.size, 0, #[], rfl, Nat.le_refl _, heap_alloc_new _ _, Nat.le_refl _, by decide, rfl, rfl⟩⟩
  have Hown := Lib.hid hown
  have Hc := Lib.hid (pcs_cells (h.ext hE))
  have Hone := Lib.hid (fun (u : Value) (hu : u ∈ pcsC ps) => (show u.oneCell' = true by
    obtain ⟨j, hj⟩ := List.mem_iff_getElem?.1 hu
    obtain ⟨i, k, p, _, _, hx⟩ := pcsC_at hj
    match k, hx with
    | 0, hx => cases hx; rfl
    | 1, hx => cases hx; rfl
    | 2, hx => cases hx; rfl
    | 3, hx => cases hx; rfl
    | k + 4, hx => simp at hx))
  obtain ⟨ii, hi1, hi2, hi3, hi4⟩ := info_parts i32
  have e1 := eq28s
  have Hpl := Lib.hid (pcsC_len ps)
  clear h hown
  go_enter Try.func72, Try.ntmps72
  go_wp2_with (first | (at_builtin; refine wpList_append_own _ rfl _ _ 28 rfl w.heap.size 32 ii (.agg #[.int .i64 0, .int .i64 0, .bool false, .int .i64 0]) 4 32 Try.underlying28 hi1 hi2 hi3 hi4 rfl (by decide) _ 0 [] rfl Hown.out ⟨b, off, none⟩ ps.length c (pcsC ps) rfl Hpl.out Hc.out Hone.out (by unfold maxLen; omega) (by omega) (by simp only [World.size_alloc]; omega) ?_))
  intro v' w' ho hg _
  (try rw [Nat.zero_add] at ho)
  (try rw [List.nil_append] at ho)
  obtain ⟨o', c', rfl, hc', hp', hfr⟩ := own_pcs ho
  have HF := Lib.hid hfr
  have HX := Lib.hid (ext_own hE hg (Nat.le_refl _))
  have HP := Lib.hid hp'
  clear ho hg hp' hE hfr
  go_wp2
  go_ret
  exact ⟨o', c', rfl, hc', HP.out, HF.out, HX.out⟩

end Go.Proofs.Ytdmegfbeibbmfaa
