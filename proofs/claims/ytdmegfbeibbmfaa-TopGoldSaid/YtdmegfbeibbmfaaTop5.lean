/- Letters that are cut out of leaves: the job, its best cuttings. No condition beyond the ranges. -/
import Derived.Test.YtdmegfbeibbmfaaG5
import Derived.Test.YtdmegfbeibbmfaaPrice7
set_option linter.unusedVariables false
set_option linter.unusedSimpArgs false
namespace Go.Proofs.Ytdmegfbeibbmfaa
open Go.RowKit Go.My Go.GoldM

theorem fineL {n w h b : Nat} (hn : 1 ≤ n ∧ n ≤ 5) (hw : 1 ≤ w ∧ w ≤ 6) (hh : 1 ≤ h ∧ h ≤ 6) (hb : 1 ≤ b ∧ b ≤ 12) : Fine (jobL n w h b) where
  wide := hw
  high := hh
  book := ⟨hb.1, by show b ≤ 25; omega⟩
  spoilt := by show 0 + 1 ≤ b; omega
  gl := by simp [jobL]
  pl := by simp [jobL]; omega
  gr := fun g hg => by
    simp only [jobL, List.mem_cons, List.not_mem_nil, or_false] at hg
    subst hg
    decide
  pc := fun p hp => by
    simp only [jobL] at hp
    have := List.eq_of_mem_replicate hp
    subst this
    exact ⟨⟨by decide, by decide⟩, ⟨by decide, by decide⟩, by show 0 < 1; omega⟩
theorem ceilN_pos {n a : Nat} (hn : 1 ≤ n) (ha : 1 ≤ a) : 1 ≤ ceilN n a ∧ ceilN n a ≤ n := by
  unfold ceilN
  refine ⟨Nat.div_pos (by omega) (by omega), Nat.div_le_of_le_mul ?_⟩
  obtain ⟨a', rfl⟩ : ∃ a', a = a' + 1 := ⟨a - 1, by omega⟩
  obtain ⟨n', rfl⟩ : ∃ n', n = n' + 1 := ⟨n - 1, by omega⟩
  have : (a' + 1) * (n' + 1) = a' * n' + a' + n' + 1 := by rw [Nat.add_mul, Nat.mul_add]; omega
  omega
theorem bestL {n w h b : Nat} (hn : 1 ≤ n ∧ n ≤ 5) (hw : 1 ≤ w ∧ w ≤ 6) (hh : 1 ≤ h ∧ h ≤ 6) (ha : w * h ≤ 12) : ∃ x, (bests (jobL n w h b))[0]? = some x ∧ x.2 = ceilN n (w * h) := by
  have h1 := bests_L ⟨n, by omega⟩ ⟨w, by omega⟩ ⟨h, by omega⟩ hn.1 hw.1 hh.1 ha
  simp only at h1
  rw [bests_book n w h 1 b, List.head?_eq_getElem?] at h1
  cases hx : (bests (jobL n w h b))[0]? with
  | none => rw [hx] at h1; cases h1
  | some x => rw [hx] at h1; exact ⟨x, rfl, by simpa using h1⟩
theorem jobV_L (n w h b : Nat) (og o : Option Addr) (c : Nat) : jobV (jobL n w h b) og 1 o c = .agg #[I w, I h, I b, .int .i64 0, .slice og 1 1, .slice o n c] := by
  show Value.agg #[I w, I h, I b, I 0, .slice og 1 1, .slice o (List.replicate n _).length c] = _
  rw [List.length_replicate]
  rfl
abbrev pc1 : Pc := ⟨1, 1, false, 0⟩
theorem pcs_succ (k : Nat) : pcsC (List.replicate (k + 1) pc1) = pcsC (List.replicate k pc1) ++ [.int .i64 1, .int .i64 1, .bool false, .int .i64 0] := by
  rw [List.replicate_succ']; unfold pcsC; rw [List.flatMap_append]; rfl

theorem equal24 (a b : Int) (w : World) : (Op.equal 24 (.agg #[.int .i64 a, .int .i64 b]) (.agg #[.int .i64 a, .int .i64 b])).run Try.prog w = .ok true w := by
  have h1 : ∀ (a b : Int), (Op.equalIn 9999 3 (.int .i64 a) (.int .i64 b)).run Try.prog w = .ok (a == b) w := fun a b => by
    exact run_equalIn_int w 9998 3 .i64 .i64 a b Try.underlying3
  simp only [Op.equal, Op.maxDepth]
  unfold Op.equalIn
  have p0 : ∀ (a b : Int), (part 3 #[.int .i64 a, .int .i64 b] 0).run Try.prog w = .ok (.int .i64 a) w := fun a b => by kernel_rfl
  have p1 : ∀ (a b : Int), (part 3 #[.int .i64 a, .int .i64 b] 1).run Try.prog w = .ok (.int .i64 b) w := fun a b => by kernel_rfl
  simp [run_underlying Try.underlying24, h1, p0, p1, Result.andThen]
theorem eql24 (a b : Int) (w : World) : (binOp .eql 24 (.agg #[.int .i64 a, .int .i64 b]) (.agg #[.int .i64 a, .int .i64 b])).run Try.prog w = .ok (.bool true) w := by
  simp only [binOp]
  simp [equal24]

end Go.Proofs.Ytdmegfbeibbmfaa
