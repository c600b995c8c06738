/- append of some numbers to a slice of the call's own; parts of a list. No condition. -/
import Derived.Test.YtiehfpkcaoeieaaGreatDoorLCan
set_option linter.unusedVariables false
set_option linter.unusedSimpArgs false
namespace Go.Proofs.YtiehfpkcaoeieaaGreatDoor
open Go.RowKit Go.My Go.StripM

/-- append(out, more...): numbers. -/
theorem wpList_appInts (w : World) {ops : Array Oper} {rest : List Oper} {o : Oper} {a : Act} {Q : Exit → Act → World → Prop} (hgd : o.guard = none) (s x : Operand)
    (ho : o.op = .call { callee := .builtin .append, args := #[s, x], argTypes := #[27, 27] }) (base : Nat) (v : Value) (l1 l2 : List Nat) (b off cb : Nat) (hs : a.eval s = v) (hown : My.Own w base 3 v ((up l1).map (Value.int .i64)))
    (hx : a.eval x = .slice (some ⟨b, off, none⟩) l2.length cb) (hi : IntsAt w (some ⟨b, off, none⟩) (up l2)) (hl : l1.length + l2.length ≤ 1000000) (hbase : base ≤ w.heap.size)
    (h : ∀ v' w', My.Own w' base 3 v' ((up (l1 ++ l2)).map (Value.int .i64)) → Below base w w' → wpList Tryz.prog ops Q rest (a.put o.dst v') w') : wpList Tryz.prog ops Q (o :: rest) a w := by
  obtain ⟨i, hi1, hi2, hi3, hi4⟩ := info_parts i3
  have hcells : ∀ (j : Nat) (u : Value), ((up l2).map (Value.int .i64))[j]? = some u → w.cell? ((⟨b, off, none⟩ : Addr).add j) = some u := by
    intro j u hj
    rw [List.getElem?_map, Option.map_eq_some_iff] at hj
    obtain ⟨y, hy, rfl⟩ := hj
    obtain ⟨b', off', he, _, hc⟩ := hi j y hy
    cases he
    rw [add_none]
    exact hc
  have hup : up (l1 ++ l2) = up l1 ++ up l2 := by simp [up]
  refine wpList_append_own w hgd s x 27 ho base 3 i (.int .i64 0) 1 8 Tryz.underlying27 hi1 hi2 hi3 hi4 rfl (by decide) v l1.length ((up l1).map (Value.int .i64)) hs (by have := hown; unfold My.Own at this; simpa [up] using this) ⟨b, off, none⟩ l2.length cb ((up l2).map (Value.int .i64)) hx (by simp [up]) hcells ?_ ?_ ?_ hbase ?_
  · intro u hu
    obtain ⟨y, _, rfl⟩ := List.mem_map.1 hu
    rfl
  · unfold maxLen; omega
  · omega
  · intro v' w' ho' hg _
    refine h v' w' (by unfold My.Own; rw [hup]; simpa [up] using ho') ((Below.refl base w).grown hg hbase fun k hk => (hown.lt k hk).1)

theorem ints_drop {w : World} {b off : Nat} {l : List Int} (h : IntsAt w (some ⟨b, off, none⟩) l) (k : Nat) : IntsAt w (some ⟨b, off + k, none⟩) (l.drop k) := by
  intro i x hx
  rw [List.getElem?_drop] at hx
  obtain ⟨b', off', he, hlt, hc⟩ := h _ x hx
  cases he
  exact ⟨b, off + k, rfl, hlt, by rw [Nat.add_assoc]; exact hc⟩

end Go.Proofs.YtiehfpkcaoeieaaGreatDoor
