/- append to nothing: a copy of some numbers, a copy of some rows; append of some rows. No condition. -/
import Derived.Test.YtiehfpkcaoeieaaGreatDoorAgree
import Derived.Deep.Upon
set_option linter.unusedVariables false
set_option linter.unusedSimpArgs false
namespace Go.Proofs.YtiehfpkcaoeieaaGreatDoor
open Go.RowKit Go.My Go.StripM

theorem wpList_appNone (w : World) {ops : Array Oper} {rest : List Oper} {o : Oper} {a : Act} {Q : Exit → Act → World → Prop} (hgd : o.guard = none) (s x : Operand) (t e : TypeId) (i : TypeInfo)
    (ho : o.op = .call { callee := .builtin .append, args := #[s, x], argTypes := #[t, t] }) (ht : Tryz.prog.underlying t = some (.slice e)) (hi : Tryz.prog.info? e = some i)
    (hs : a.eval s = .slice none 0 0) (hx : a.eval x = .slice none 0 0) (h : wpList Tryz.prog ops Q rest (a.put o.dst (.slice none 0 0)) w) : wpList Tryz.prog ops Q (o :: rest) a w := by
  refine wpList_plain hgd fun K hK' => ?_
  have hrun := run_append_nothing (P := Tryz.prog) w t t o.type e i ht hi none 0 0 (Nat.le_refl _) (.slice none 0 0) (Src.ofNil w ht 0)
  unfold Oper.wp
  simp [execOp, ho, resolve, invoke, builtin, hs, hx, hrun, Result.andThen]
  exact hK' _ _ h

/-- append([]int(nil), now...). -/
theorem wpList_appNow (w : World) {ops : Array Oper} {rest : List Oper} {o : Oper} {a : Act} {Q : Exit → Act → World → Prop} (hgd : o.guard = none) (s x : Operand)
    (ho : o.op = .call { callee := .builtin .append, args := #[s, x], argTypes := #[27, 27] }) (l : List Nat) (ob : Option Addr) (cb : Nat) (hs : a.eval s = .slice none 0 0) (hx : a.eval x = .slice ob l.length cb) (hi : IntsAt w ob (up l)) (hnb : ob = none → cb = 0) (hcb : l.length ≤ cb)
    (hl : l.length ≤ 1000000) (h : ∀ v' w', My.Own w' w.heap.size 3 v' ((up l).map (Value.int .i64)) → Ext w w' → wpList Tryz.prog ops Q rest (a.put o.dst v') w') : wpList Tryz.prog ops Q (o :: rest) a w := by
  obtain ⟨i, hi1, hi2, hi3, hi4⟩ := info_parts i3
  cases ob with
  | none =>
    have h0 := hnb rfl
    have hl0 : l = [] := List.eq_nil_of_length_eq_zero (by omega)
    subst hl0
    subst h0
    exact wpList_appNone w hgd s x 27 3 i ho Tryz.underlying27 hi1 hs hx (h _ _ (Own.nil _ _ _) (Ext.refl _))
  | some ad =>
    have hcells : ∀ (j : Nat) (u : Value), ((up l).map (Value.int .i64))[j]? = some u → w.cell? (ad.add j) = some u := by
      intro j u hj
      rw [List.getElem?_map, Option.map_eq_some_iff] at hj
      obtain ⟨y, hy, rfl⟩ := hj
      obtain ⟨b, off, he, _, hc⟩ := hi j y hy
      cases he
      rw [add_none]
      exact hc
    refine wpList_append_own w hgd s x 27 ho w.heap.size 3 i (.int .i64 0) 1 8 Tryz.underlying27 hi1 hi2 hi3 hi4 rfl (by decide) (.slice none 0 0) 0 [] hs (Own.nil w w.heap.size 3) ad l.length cb ((up l).map (Value.int .i64)) hx (by simp [up]) hcells ?_ ?_ ?_ (Nat.le_refl _) ?_
    · intro u hu
      obtain ⟨y, _, rfl⟩ := List.mem_map.1 hu
      rfl
    · unfold maxLen; omega
    · omega
    · intro v' w' ho' hg _
      refine h v' w' (by unfold My.Own; simpa [up] using ho') ((Below.refl w.heap.size w).grown hg (Nat.le_refl _) fun k hk => ?_)
      simp [Value.ownBlock] at hk

/-- A slice of rows that no slice of slices of the call's own shares a block with. -/
def OutR (w : World) (B : Nat) (v : Value) (ss : List (List Nat)) : Prop :=
  ∃ (oa : Option Addr) (cap : Nat) (xs : List Value), v = .slice oa ss.length cap ∧ ss.length ≤ cap ∧ cap ≤ maxLen ∧ (oa = none → cap = 0) ∧ xs.length = ss.length ∧
    (∀ ad, oa = some ad → ∀ (i : Nat) (u : Value), xs[i]? = some u → w.cell? (ad.add i) = some u) ∧ ∀ (i : Nat) (s : List Nat), ss[i]? = some s → ∃ u, xs[i]? = some u ∧ RowE w B u (up s)
theorem OwnR.out {w : World} {B base : Nat} {v : Value} {ss : List (List Nat)} (h : OwnR w B base v ss) : OutR w B v ss := by
  obtain ⟨_, xs, h1, h2, h3⟩ := h
  obtain ⟨oa, cap, e1, e2, e3, e4, e5⟩ := h1.slice
  rw [h2] at e1 e2
  refine ⟨oa, cap, xs, e1, e2, e3, e4, h2, fun ad he i u hu => ?_, h3⟩
  obtain ⟨b, k1, _, k3⟩ := e5 i u hu
  rw [he] at k1
  cases k1
  rw [add_none, Nat.zero_add]
  exact k3
theorem OutR.ext {w w' : World} {B : Nat} {v : Value} {ss : List (List Nat)} (h : OutR w B v ss) (hE : Ext w w') : OutR w' B v ss := by
  obtain ⟨oa, cap, xs, h1, h2, h3, h4, h5, h6, h7⟩ := h
  exact ⟨oa, cap, xs, h1, h2, h3, h4, h5, fun ad he i u hu => cell_ext hE (h6 ad he i u hu), fun i s hs => by obtain ⟨u, k1, k2⟩ := h7 i s hs; exact ⟨u, k1, k2.ext hE⟩⟩

/-- append of some rows. -/
theorem wpList_appRs (w : World) {ops : Array Oper} {rest : List Oper} {o : Oper} {a : Act} {Q : Exit → Act → World → Prop} (hgd : o.guard = none) (s x : Operand)
    (ho : o.op = .call { callee := .builtin .append, args := #[s, x], argTypes := #[22, 22] }) (B base : Nat) (v v2 : Value) (ss ms : List (List Nat)) (hs : a.eval s = v)
    (hown : OwnR w B base v ss) (hx : a.eval x = v2) (hms : OutR w B v2 ms) (hne : ms ≠ [])
    (hl : ss.length + ms.length < 1000000000) (hbase : base ≤ w.heap.size)
    (h : ∀ v' w', OwnR w' B base v' (ss ++ ms) → Below base w w' → wpList Tryz.prog ops Q rest (a.put o.dst v') w') : wpList Tryz.prog ops Q (o :: rest) a w := by
  obtain ⟨hB, xs, h1, h2, h3⟩ := hown
  obtain ⟨oa, cap, ys, rfl, k1, k2, k3, k4, k5, k6⟩ := hms
  cases oa with
  | none =>
    have := k3 rfl
    exact absurd (List.eq_nil_of_length_eq_zero (by omega)) hne
  | some ad =>
    obtain ⟨i, hi1, hi2, hi3, hi4⟩ := info_parts i27
    refine wpList_append_own w hgd s x 22 ho base 27 i (.slice none 0 0) 1 24 Tryz.underlying22 hi1 hi2 hi3 hi4 rfl (by decide) v xs.length xs hs h1 ad ms.length cap ys hx (by rw [Nat.mul_one]; exact k4) (fun j u hj => k5 ad rfl j u hj) ?_ ?_ ?_ hbase ?_
    · intro u hu
      obtain ⟨j, hj⟩ := List.mem_iff_getElem?.1 hu
      have hjl : j < ms.length := by rw [← k4]; exact (List.getElem?_eq_some_iff.1 hj).1
      obtain ⟨u', e1, e2⟩ := k6 j ms[j] (by simp [hjl])
      rw [hj] at e1
      cases e1
      exact e2.one
    · unfold maxLen; omega
    · have : (xs.length + ms.length) * 24 ≤ 1000000000 * 24 := Nat.mul_le_mul (by omega) (Nat.le_refl _)
      omega
    · intro v' w' ho' hg _
      refine h v' w' ⟨hB, xs ++ ys, ?_, by simp [h2, k4], fun j s' hs' => ?_⟩ ((Below.refl base w).grown hg hbase fun k hk => (h1.lt k hk).1)
      · unfold My.Own; rw [List.length_append, k4]; exact ho'
      · by_cases hj : j < ss.length
        · rw [List.getElem?_append_left hj] at hs'
          obtain ⟨u', e1, e2⟩ := h3 j s' hs'
          exact ⟨u', by rw [List.getElem?_append_left (by omega)]; exact e1, e2.grown hB h1 hg⟩
        · rw [List.getElem?_append_right (by omega)] at hs'
          obtain ⟨u', e1, e2⟩ := k6 _ s' hs'
          exact ⟨u', by rw [List.getElem?_append_right (by omega), h2]; exact e1, e2.grown hB h1 hg⟩

/-- append([][]int(nil), rows...). -/
theorem wpList_appRows (w : World) {ops : Array Oper} {rest : List Oper} {o : Oper} {a : Act} {Q : Exit → Act → World → Prop} (hgd : o.guard = none) (s x : Operand)
    (ho : o.op = .call { callee := .builtin .append, args := #[s, x], argTypes := #[22, 22] }) (w0 : World) (ss : List (List Nat)) (oa : Option Addr) (cap : Nat) (hs : a.eval s = .slice none 0 0) (hx : a.eval x = .slice oa ss.length cap)
    (hr : RowsAt w0 oa (upp ss)) (hE : Ext w0 w) (hnb : oa = none → cap = 0) (hcap : ss.length ≤ cap) (hcm : cap ≤ maxLen) (hl : ss.length ≤ 1000000)
    (h : ∀ v' w', OwnR w' w0.heap.size w.heap.size v' ss → Ext w w' → wpList Tryz.prog ops Q rest (a.put o.dst v') w') : wpList Tryz.prog ops Q (o :: rest) a w := by
  by_cases hne : ss = []
  · subst hne
    obtain ⟨i, hi1, _⟩ := info_parts i27
    cases oa with
    | none =>
      have h0 := hnb rfl
      subst h0
      exact wpList_appNone w hgd s x 22 27 i ho Tryz.underlying22 hi1 hs hx (h _ _ (OwnR.nil _ hE.size) (Ext.refl _))
    | some ad => 
      refine wpList_plain hgd fun K hK' => ?_
      have hrun := run_append_nothing (P := Tryz.prog) w 22 22 o.type 27 i Tryz.underlying22 hi1 none 0 0 (Nat.le_refl _) (.slice (some ad) 0 cap) (Src.ofSlice w Tryz.underlying22 ad 0 cap [] (by simp) (fun j u hj => by simp at hj) (fun u hu => by cases hu))
      unfold Oper.wp
      simp [execOp, ho, resolve, invoke, builtin, hs, hx, hrun, Result.andThen]
      exact hK' _ _ (h _ _ (OwnR.nil _ hE.size) (Ext.refl _))
  · obtain ⟨xs, k1, k2, k3, k4⟩ := rows_vals hr
    have hB := hE.size
    have hout : OutR w w0.heap.size (.slice oa ss.length cap) ss := by
      refine ⟨oa, cap, xs, rfl, hcap, hcm, hnb, by rw [k1, upp_length], fun ad he i u hu => cell_ext hE (k2 ad i u he hu), fun i s' hs' => ?_⟩
      obtain ⟨u, e1, e2⟩ := k4 i (up s') (by simp [upp, hs'])
      exact ⟨u, e1, RowE.of_below e2 hE (Nat.le_refl _)⟩
    refine wpList_appRs w hgd s x ho w0.heap.size w.heap.size _ _ [] ss hs (OwnR.nil _ hB) hx hout hne (by simp; omega) (Nat.le_refl _) ?_
    intro v' w' h1 h2
    exact h v' w' h1 h2

end Go.Proofs.YtiehfpkcaoeieaaGreatDoor
