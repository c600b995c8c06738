/- Contracts and mathematics, joined: AppN. Conditions stand with each. -/
import Derived.ArgAppend
import Derived.Below
import Derived.BigQuiet
import Derived.Deep.DeepCutAuto
import Derived.Deep.DeepFit
import Derived.Deep.LoopGhost
import Derived.Deep.QuietTactic
import Derived.Deep.RegionHeld3
import Derived.Deep.RegionWith
import Derived.Laws.OwnMore
import Derived.Lib.Hide
import Derived.Test.YtjpekonfjihcoaaGreatDoorProg
import Derived.WalkKit
import Derived.WalkLawsBesides
import Derived.WalkSpells
import Derived.Test.YtjpekonfjihcoaaGreatDoorM1
namespace Go.TintM
end Go.TintM
set_option maxRecDepth 100000
set_option maxHeartbeats 64000000
set_option linter.unusedVariables false
set_option linter.unusedSimpArgs false
/- append of one element: the row is the old one, or new. No condition. -/
namespace Go.My
open Go Go.RowKit

theorem run_app1 {P : Program} (w : World) (base : Nat) (t ty e : TypeId) (i : TypeInfo) (z : Value) (bytes : Nat) (ht : P.underlying t = some (.slice e)) (hi : P.info? e = some i) (hz : i.zero = some z) (hs : i.size = 1) (hb : i.bytes = bytes) (hzs : z.cells.size = 1)
  (v : Value) (xs : List Value) (hown : Own w base e v xs) (ad : Addr) (c : Nat) (u : Value) (hc : ∀ j x, [u][j]? = some x → w.cell? (ad.add j) = some x) (hu : ∀ x ∈ [u], x.oneCell' = true) (hm : xs.length + 1 ≤ maxLen) (hby : (xs.length + 1) * bytes ≤ 140737488355328) (hbase : base ≤ w.heap.size) :
  ∃ v' w', (Builtin.append_ #[t, t] ty #[v, .slice (some ad) 1 c]).run P w = .ok v' w' ∧ Own w' base e v' (xs ++ [u]) ∧ w.grownBy w' v.ownBlock ∧ (v'.ownBlock = v.ownBlock ∨ ∀ b, v'.ownBlock = some b → w.heap.size ≤ b) := by
 have hx1 : (xs ++ [u]).length = xs.length + 1 := by simp
 obtain ⟨v', w', h1, h2, h3, _⟩ := run_append_own (P := P) w base t ty e i z 1 bytes ht hi hz hs hb hzs (by decide) v xs.length xs hown ad 1 c [u] rfl hc hu hm hby hbase
 refine ⟨v', w', h1, by unfold Own; rw [hx1]; exact h2, h3, ?_⟩
 rcases hown.2 with ⟨rfl, h0⟩ | ⟨g, cap, cur, rfl, hg, hh, hn, hcm, hcs, htk⟩
 ·have hx0 : xs = [] := List.eq_nil_of_length_eq_zero h0
  subst hx0
  obtain ⟨v2, w2, k1, k2, _, _⟩ := run_append_own (P := P) w w.heap.size t ty e i z 1 bytes ht hi hz hs hb hzs (by decide) (.slice none 0 0) 0 [] (World.ownsRow_nil _ _ _ _) ad 1 c [u] rfl hc hu (by simpa using hm) (by simpa using hby) (Nat.le_refl _)
  rw [k1] at h1
  cases h1
  exact .inr fun b hb => (k2.lt b hb).1
 ·by_cases hr : xs.length + 1 ≤ cap
  ·obtain ⟨w2, k1, _, _⟩ := run_append_fits (P := P) w base t ty e i 1 ht hi hs g xs.length cap xs hown ad 1 c [u] rfl hc hu hr
   rw [k1] at h1
   cases h1
   exact .inl rfl
  ·obtain ⟨v2, w2, k1, k2, _⟩ := run_append_arg_grows (P := P) w t ty e i z 1 bytes ht hi hz hs hb hzs (by decide) ⟨g, 0, none⟩ xs.length cap xs (by rw [Nat.mul_one]) (hown.cells (g := g) rfl) ad 1 c [u] rfl hc (by omega) hm hby
   rw [k1] at h1
   cases h1
   exact .inr fun b hb => (k2.lt b hb).1

theorem wpList_app1n {P : Program} (w : World) {ops : Array Oper} {rest : List Oper} {o : Oper} {a : Act} {Q : Exit → Act → World → Prop} (hgd : o.guard = none) (s x : Operand) (t : TypeId)
  (ho : o.op = .call { callee := .builtin .append, args := #[s, x], argTypes := #[t, t] }) (e : TypeId) (ht : P.underlying t = some (.slice e)) (z : Value) (bytes : Nat)
  (hi : (P.info? e).map (fun i => (i.zero, i.size, i.bytes)) = some (some z, 1, bytes)) (hz : z.cells.size = 1) (hby : bytes ≤ 64) (base : Nat) (v : Value) (xs : List Value) (hs : a.eval s = v)
  (hown : Own w base e v xs) (b : Nat) (u : Value) (hx : a.eval x = .slice (some ⟨b, 0, none⟩) 1 1) (hc : w.cell? ⟨b, 0, none⟩ = some u) (hu : u.oneCell' = true)
  (hl : xs.length < 1000000000) (hbase : base ≤ w.heap.size)
  (h : ∀ v' w', Own w' base e v' (xs ++ [u]) → Below base w w' → w.grownBy w' v.ownBlock → (v'.ownBlock = v.ownBlock ∨ ∀ b, v'.ownBlock = some b → w.heap.size ≤ b) → wpList P ops Q rest (a.put o.dst v') w') : wpList P ops Q (o :: rest) a w := by
 obtain ⟨i, hi1, hi2, hi3, hi4⟩ := info_parts hi
 have hb : (xs.length + 1) * bytes ≤ 1000000000 * 64 := Nat.mul_le_mul (by omega) hby
 obtain ⟨v', w', hr, h1, h2, h3⟩ := run_app1 (P := P) w base t o.type e i z bytes ht hi1 hi2 hi3 hi4 hz v xs hown ⟨b, 0, none⟩ 1 u (fun j x hj => by
   cases j with
   | zero => simp at hj; subst hj; simpa [Addr.add] using hc
   | succ j => simp at hj) (fun x hx => by simp at hx; subst hx; exact hu) (by unfold maxLen; omega) (by omega) hbase
 refine wpList_plain hgd fun K hK => ?_
 unfold Oper.wp execOp
 simp only [ho, resolve, invoke, builtin, Sem.run_bind, Sem.run_pure, Result.andThen_ok, List.map_toArray, List.map_cons, List.map_nil, hs, hx, hr]
 exact hK _ _ (h v' w' h1 ((Below.refl base w).grown h2 hbase fun k hk => (hown.lt k hk).1) h2 h3)

end Go.My
