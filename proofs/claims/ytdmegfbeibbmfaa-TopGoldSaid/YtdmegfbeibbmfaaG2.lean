/- Contracts and mathematics, joined: MathA, MathB, MathC, MathD, MathE, MathF. Conditions stand with each. -/
set_option linter.unusedVariables false
set_option linter.unusedSimpArgs false
/- Plain mathematics of gold leaf: jobs, what fits, cuttings. No condition; nothing of the program. -/
namespace Go.GoldM

/-- A ground: ready low and high, last low and high. -/
structure Gr where
  rl : Nat
  rh : Nat
  ll : Nat
  lh : Nat
/-- A piece. -/
structure Pc where
  w : Nat
  h : Nat
  turn : Bool
  g : Nat
/-- A job. -/
structure Jb where
  wide : Nat
  high : Nat
  book : Nat
  spoilt : Nat
  grounds : List Gr
  pieces : List Pc
structure Fine (j : Jb) : Prop where
  wide : 1 ≤ j.wide ∧ j.wide ≤ 6
  high : 1 ≤ j.high ∧ j.high ≤ 6
  book : 1 ≤ j.book ∧ j.book ≤ 25
  spoilt : j.spoilt + 1 ≤ j.book
  gl : 1 ≤ j.grounds.length ∧ j.grounds.length ≤ 3
  pl : 1 ≤ j.pieces.length ∧ j.pieces.length ≤ 5
  gr : ∀ g ∈ j.grounds, g.rl ≤ g.rh ∧ g.rh ≤ g.ll ∧ g.ll ≤ g.lh ∧ g.lh ≤ 12
  pc : ∀ p ∈ j.pieces, (1 ≤ p.w ∧ p.w ≤ 6) ∧ (1 ≤ p.h ∧ p.h ≤ 6) ∧ p.g < j.grounds.length

/-! what fits: a set of pieces is a number, one bit each -/
def alone (p : Pc) (w h : Nat) : Bool := decide (p.w ≤ w) && decide (p.h ≤ h) || p.turn && (decide (p.h ≤ w) && decide (p.w ≤ h))
/-- The areas of the pieces of a set. -/
def areasTo (ps : List Pc) (set : Nat) : Nat → List Nat
  | 0 => []
  | k + 1 => areasTo ps set k ++ (if set &&& (1 <<< k) ≠ 0 then [(ps.getD k ⟨0, 0, false, 0⟩).w * (ps.getD k ⟨0, 0, false, 0⟩).h] else [])
def large (ps : List Pc) (w h set : Nat) : Bool := decide (w * h < (areasTo ps set ps.length).sum)
/-- Some from each: from 'some' on, downward. -/
def partsFrom (set : Nat) (A B : Nat → Bool) : Nat → Nat → Bool
  | 0, _ => false
  | f + 1, x => if x = 0 then false else if A x && B (set - x) then true else partsFrom set A B f ((x - 1) &&& set)
def parts (set : Nat) (A B : Nat → Bool) : Bool := partsFrom set A B set ((set - 1) &&& set)
def can (ps : List Pc) : Nat → Nat → Nat → Nat → Bool
  | 0, _, _, _ => false
  | f + 1, w, h, set =>
    if set = 0 then true
    else if set &&& (set - 1) = 0 then (List.range ps.length).any fun n => set == 1 <<< n && alone (ps.getD n ⟨0, 0, false, 0⟩) w h
    else if large ps w h set then false
    else ((List.range (w - 1)).any fun i => parts set (can ps f (i + 1) h) (can ps f (w - (i + 1)) h)) || ((List.range (h - 1)).any fun i => parts set (can ps f w (i + 1)) (can ps f w (h - (i + 1))))
def fits (j : Jb) (set : Nat) : Bool := can j.pieces (j.wide + j.high) j.wide j.high set

/-! cuttings: the leaf of each piece so far, the sets of the leaves -/
def nextSets (sets : List Nat) (n k : Nat) : List Nat := (if n = sets.length then sets ++ [0] else sets).modify n (· ||| (1 <<< k))
def cutFrom (F : Nat → Bool) : Nat → List Nat → List Nat → List (List Nat × Nat)
  | 0, now, sets => [(now, sets.length)]
  | r + 1, now, sets => (List.range (sets.length + 1)).flatMap fun n => if F ((nextSets sets n now.length).getD n 0) then cutFrom F r (now ++ [n]) (nextSets sets n now.length) else []
def cuts (j : Jb) : List (List Nat × Nat) := cutFrom (fits j) j.pieces.length [] []
/-- All than which none is better, in order. -/
def bestStep (out : List (List Nat × Nat)) (x : List Nat × Nat) : List (List Nat × Nat) :=
  match out with
  | [] => [x]
  | y :: r => if x.2 < y.2 then [x] else if y.2 < x.2 then y :: r else (y :: r) ++ [x]
def bests (j : Jb) : List (List Nat × Nat) := (cuts j).foldl bestStep []

/-- The job of the examples. -/
def jobJ : Jb := ⟨4, 3, 2, 1, [⟨1, 2, 4, 6⟩, ⟨0, 1, 2, 3⟩], [⟨3, 2, false, 0⟩, ⟨2, 2, false, 0⟩, ⟨1, 3, true, 1⟩, ⟨4, 1, false, 1⟩]⟩
theorem bests_J : (bests jobJ).head? = some ([0, 1, 0, 1], 2) := by decide +kernel

end Go.GoldM
/- Letters that are cut out of leaves: by all cases. No condition; nothing of the program. -/
namespace Go.GoldM

/-- A job of letters. -/
def jobL (n w h b : Nat) : Jb := ⟨w, h, b, 0, [⟨0, 0, 0, 0⟩], List.replicate n ⟨1, 1, false, 0⟩⟩
def ceilN (n a : Nat) : Nat := (n + a - 1) / a
theorem bests_L : ∀ n : Fin 6, ∀ w : Fin 7, ∀ h : Fin 7, 1 ≤ n.val → 1 ≤ w.val → 1 ≤ h.val → w.val * h.val ≤ 12 → ((bests (jobL n.val w.val h.val 1)).head?.map (·.2)) = some (ceilN n.val (w.val * h.val)) := by decide +kernel
theorem bests_book (n w h b c : Nat) : bests (jobL n w h b) = bests (jobL n w h c) := rfl

end Go.GoldM
/- Plain mathematics of what fits: the measure does not matter. No condition; nothing of the program. -/
namespace Go.GoldM

theorem any_congr {α : Type} {l : List α} {p q : α → Bool} (h : ∀ x ∈ l, p x = q x) : l.any p = l.any q := by
  induction l with
  | nil => rfl
  | cons a l ih => rw [List.any_cons, List.any_cons, h a List.mem_cons_self, ih fun x hx => h x (List.mem_cons_of_mem _ hx)]
theorem can_fuel (ps : List Pc) : ∀ (f f' w h set : Nat), 1 ≤ w → 1 ≤ h → w + h ≤ f → w + h ≤ f' → can ps f w h set = can ps f' w h set := by
  intro f
  induction f with
  | zero => intro f' w h set h1 h2 h3 _; omega
  | succ f ih =>
    intro f' w h set h1 h2 h3 h4
    cases f' with
    | zero => omega
    | succ f' =>
      simp only [can]
      have e1 : ((List.range (w - 1)).any fun i => parts set (can ps f (i + 1) h) (can ps f (w - (i + 1)) h)) = (List.range (w - 1)).any fun i => parts set (can ps f' (i + 1) h) (can ps f' (w - (i + 1)) h) := any_congr fun i hi => by
        have hi := List.mem_range.1 hi
        rw [show can ps f (i + 1) h = can ps f' (i + 1) h from funext fun x => ih f' (i + 1) h x (by omega) h2 (by omega) (by omega), show can ps f (w - (i + 1)) h = can ps f' (w - (i + 1)) h from funext fun x => ih f' _ h x (by omega) h2 (by omega) (by omega)]
      have e2 : ((List.range (h - 1)).any fun i => parts set (can ps f w (i + 1)) (can ps f w (h - (i + 1)))) = (List.range (h - 1)).any fun i => parts set (can ps f' w (i + 1)) (can ps f' w (h - (i + 1))) := any_congr fun i hi => by
        have hi := List.mem_range.1 hi
        rw [show can ps f w (i + 1) = can ps f' w (i + 1) from funext fun x => ih f' w (i + 1) x h1 (by omega) (by omega) (by omega), show can ps f w (h - (i + 1)) = can ps f' w (h - (i + 1)) from funext fun x => ih f' w _ x h1 (by omega) (by omega) (by omega)]
      rw [e1, e2]
def canR (ps : List Pc) (w h set : Nat) : Bool := can ps (w + h) w h set
def upR (ps : List Pc) (w h set : Nat) : Bool := (List.range (w - 1)).any fun i => parts set (canR ps (i + 1) h) (canR ps (w - (i + 1)) h)
def levR (ps : List Pc) (w h set : Nat) : Bool := (List.range (h - 1)).any fun i => parts set (canR ps w (i + 1)) (canR ps w (h - (i + 1)))
theorem canR_eq (ps : List Pc) {w h : Nat} (set : Nat) (h1 : 1 ≤ w) (h2 : 1 ≤ h) : canR ps w h set =
    if set = 0 then true else if set &&& (set - 1) = 0 then (List.range ps.length).any fun n => set == 1 <<< n && alone (ps.getD n ⟨0, 0, false, 0⟩) w h
    else if large ps w h set then false else upR ps w h set || levR ps w h set := by
  unfold canR
  obtain ⟨f, hf⟩ : ∃ f, w + h = f + 1 := ⟨w + h - 1, by omega⟩
  rw [hf, can]
  have e1 : ((List.range (w - 1)).any fun i => parts set (can ps f (i + 1) h) (can ps f (w - (i + 1)) h)) = upR ps w h set := any_congr fun i hi => by
    have hi := List.mem_range.1 hi
    rw [show can ps f (i + 1) h = canR ps (i + 1) h from funext fun x => can_fuel ps f _ _ h x (by omega) h2 (by omega) (by omega), show can ps f (w - (i + 1)) h = canR ps (w - (i + 1)) h from funext fun x => can_fuel ps f _ _ h x (by omega) h2 (by omega) (by omega)]
  have e2 : ((List.range (h - 1)).any fun i => parts set (can ps f w (i + 1)) (can ps f w (h - (i + 1)))) = levR ps w h set := any_congr fun i hi => by
    have hi := List.mem_range.1 hi
    rw [show can ps f w (i + 1) = canR ps w (i + 1) from funext fun x => can_fuel ps f _ w _ x h1 (by omega) (by omega) (by omega), show can ps f w (h - (i + 1)) = canR ps w (h - (i + 1)) from funext fun x => can_fuel ps f _ w _ x h1 (by omega) (by omega) (by omega)]
  rw [e1, e2]
theorem fitsR (j : Jb) (set : Nat) : fits j set = canR j.pieces j.wide j.high set := rfl
theorem partsFrom_zero (set : Nat) (A B : Nat → Bool) : ∀ f, partsFrom set A B f 0 = false
  | 0 => rfl
  | _ + 1 => by simp [partsFrom]
theorem partsFrom_succ (set : Nat) (A B : Nat → Bool) (f : Nat) {x : Nat} (hx : x ≠ 0) : partsFrom set A B (f + 1) x = if A x && B (set - x) then true else partsFrom set A B f ((x - 1) &&& set) := by
  rw [partsFrom, if_neg hx]

end Go.GoldM
/- Plain mathematics: cuttings one by one, what is kept of the best ones. No condition; nothing of the program. -/
namespace Go.GoldM

def cutTo (F : Nat → Bool) (r : Nat) (now sets : List Nat) (x : Nat) : List (List Nat × Nat) := (List.range x).flatMap fun n => if F ((nextSets sets n now.length).getD n 0) then cutFrom F r (now ++ [n]) (nextSets sets n now.length) else []
theorem cutTo_zero (F : Nat → Bool) (r : Nat) (now sets : List Nat) : cutTo F r now sets 0 = [] := rfl
theorem cutTo_succ (F : Nat → Bool) (r : Nat) (now sets : List Nat) (x : Nat) : cutTo F r now sets (x + 1) = cutTo F r now sets x ++ (if F ((nextSets sets x now.length).getD x 0) then cutFrom F r (now ++ [x]) (nextSets sets x now.length) else []) := by
  simp [cutTo, List.range_succ, List.flatMap_append]
theorem cutTo_end (F : Nat → Bool) (r : Nat) (now sets : List Nat) : cutFrom F (r + 1) now sets = cutTo F r now sets (sets.length + 1) := rfl
theorem cutTo_more (F : Nat → Bool) (r : Nat) (now sets : List Nat) (i : Nat) : ∀ d, ∃ rest, cutTo F r now sets (i + d) = cutTo F r now sets i ++ rest
  | 0 => ⟨[], by simp⟩
  | d + 1 => by
    obtain ⟨q, hq⟩ := cutTo_more F r now sets i d
    exact ⟨_, by rw [← Nat.add_assoc, cutTo_succ, hq, List.append_assoc]⟩
theorem cut_drop {L : List (List Nat × Nat)} {F : Nat → Bool} {r : Nat} {now sets : List Nat} {j x : Nat} {post : List (List Nat × Nat)} (h : L.drop j = cutFrom F (r + 1) now sets ++ post) (hx : x ≤ sets.length)
    (hF : F ((nextSets sets x now.length).getD x 0) = true) : ∃ post', L.drop (j + (cutTo F r now sets x).length) = cutFrom F r (now ++ [x]) (nextSets sets x now.length) ++ post' := by
  obtain ⟨q, hq⟩ := cutTo_more F r now sets (x + 1) (sets.length - x)
  rw [show x + 1 + (sets.length - x) = sets.length + 1 by omega, ← cutTo_end, cutTo_succ, if_pos hF] at hq
  refine ⟨q ++ post, ?_⟩
  rw [← List.drop_drop, h, hq]
  simp only [List.append_assoc, List.drop_left]
theorem cutTo_yes {F : Nat → Bool} {r : Nat} {now sets : List Nat} {x : Nat} (hF : F ((nextSets sets x now.length).getD x 0) = true) (j : Nat) : j + (cutTo F r now sets x).length + (cutFrom F r (now ++ [x]) (nextSets sets x now.length)).length = j + (cutTo F r now sets (x + 1)).length := by
  rw [cutTo_succ, if_pos hF, List.length_append, Nat.add_assoc]
theorem cutTo_no {F : Nat → Bool} {r : Nat} {now sets : List Nat} {x : Nat} (hF : F ((nextSets sets x now.length).getD x 0) = false) : cutTo F r now sets (x + 1) = cutTo F r now sets x := by
  rw [cutTo_succ, hF]; simp
theorem next_length (sets : List Nat) (n k : Nat) : (nextSets sets n k).length = if n = sets.length then sets.length + 1 else sets.length := by
  unfold nextSets; split <;> simp
/-- The list that a leaf's set is added to. -/
def more (sets : List Nat) (n : Nat) : List Nat := if n = sets.length then sets ++ [0] else sets
theorem next_more (sets : List Nat) (n k : Nat) (hn : n ≤ sets.length) : nextSets sets n k = (more sets n).set n ((more sets n).getD n 0 ||| (1 <<< k)) := by
  unfold nextSets more
  have : n < (if n = sets.length then sets ++ [0] else sets).length := by split <;> first | (simp; omega) | omega
  rw [List.modify_eq_set]
  simp [List.getD, this]
theorem more_lt {sets : List Nat} {n k : Nat} (h : ∀ s ∈ sets, s < 2 ^ k) : ∀ s ∈ more sets n, s < 2 ^ k := by
  intro s hs
  unfold more at hs
  have h0 : 0 < 2 ^ k := Nat.two_pow_pos k
  split at hs
  · simp at hs
    rcases hs with hs | rfl
    · exact h s hs
    · exact h0
  · exact h s hs
theorem more_len {sets : List Nat} {n : Nat} (hn : n ≤ sets.length) : n < (more sets n).length := by
  unfold more
  split <;> first | (simp; omega) | omega
theorem next_lt {sets : List Nat} {n k : Nat} (hn : n ≤ sets.length) (h : ∀ s ∈ sets, s < 2 ^ k) : ∀ s ∈ nextSets sets n k, s < 2 ^ (k + 1) := by
  intro s hs
  rw [next_more _ _ _ hn] at hs
  have hm := more_lt (n := n) h
  have hp : 2 ^ k < 2 ^ (k + 1) := Nat.pow_lt_pow_right (by omega) (by omega)
  rcases List.mem_or_eq_of_mem_set hs with hs | rfl
  · have := hm s hs; omega
  · refine Nat.or_lt_two_pow ?_ (by rw [Nat.one_shiftLeft]; exact hp)
    have hl := more_len hn
    have : (more sets n).getD n 0 ∈ more sets n := by simp [List.getD, hl]
    have := hm _ this
    omega
theorem next_at {sets : List Nat} {n k : Nat} (hn : n ≤ sets.length) : (nextSets sets n k).getD n 0 = ((more sets n).getD n 0 ||| (1 <<< k)) := by
  rw [next_more _ _ _ hn]
  have := more_len hn
  simp [List.getD, this]

/-! the best so far -/
theorem best_take (L : List (List Nat × Nat)) {k : Nat} {x : List Nat × Nat} (h : L[k]? = some x) : (L.take (k + 1)).foldl bestStep [] = bestStep ((L.take k).foldl bestStep []) x := by
  have hk := (List.getElem?_eq_some_iff.1 h).1
  rw [List.take_succ_eq_append_getElem hk, List.foldl_append, (List.getElem?_eq_some_iff.1 h).2]
  rfl
theorem bestStep_len (out : List (List Nat × Nat)) (x : List Nat × Nat) : (bestStep out x).length ≤ out.length + 1 := by
  unfold bestStep
  split
  · simp
  · split
    · simp
    · split <;> simp
theorem best_len (L : List (List Nat × Nat)) (k : Nat) : ((L.take k).foldl bestStep []).length ≤ k := by
  induction k with
  | zero => simp
  | succ k ih =>
    cases h : L[k]? with
    | none =>
      have := List.getElem?_eq_none_iff.1 h
      rw [show L.take (k + 1) = L.take k by rw [List.take_of_length_le (by omega), List.take_of_length_le (by omega)]]
      omega
    | some x =>
      rw [best_take L h]
      have := bestStep_len ((L.take k).foldl bestStep []) x
      omega

/-! how many there are, at most -/
theorem cutFrom_len (F : Nat → Bool) : ∀ (r : Nat) (now sets : List Nat) (m : Nat), sets.length + r ≤ m → (cutFrom F r now sets).length ≤ (m + 1) ^ r
  | 0, _, _, _, _ => by simp [cutFrom]
  | r + 1, now, sets, m, h => by
    have : ∀ x, x ≤ sets.length + 1 → (cutTo F r now sets x).length ≤ x * (m + 1) ^ r := by
      intro x
      induction x with
      | zero => intro _; simp [cutTo]
      | succ x ih =>
        intro hx
        have ih := ih (by omega)
        rw [cutTo_succ, List.length_append, Nat.succ_mul]
        have : (if F ((nextSets sets x now.length).getD x 0) then cutFrom F r (now ++ [x]) (nextSets sets x now.length) else []).length ≤ (m + 1) ^ r := by
          split
          · refine cutFrom_len F r _ _ m ?_
            rw [next_length]
            split <;> omega
          · simp
        omega
    rw [cutTo_end]
    refine Nat.le_trans (this _ (Nat.le_refl _)) ?_
    rw [Nat.pow_succ, Nat.mul_comm]
    exact Nat.mul_le_mul_left _ (by omega)
theorem cuts_len (j : Jb) (h : j.pieces.length ≤ 5) : (cuts j).length ≤ 7776 := by
  refine Nat.le_trans (cutFrom_len (fits j) j.pieces.length [] [] 5 (by simpa using h)) ?_
  exact Nat.le_trans (Nat.pow_le_pow_right (by decide) h) (by decide)

end Go.GoldM
/- Plain mathematics of the bench: benches, when strokes end. No condition; nothing of the program. -/
namespace Go.GoldM

/-- A stroke: its board, whether it is round, the least and the greatest hours, the strokes that it needs. -/
structure St where
  b : Nat
  round : Bool
  lo : Nat
  hi : Nat
  needs : List Nat
/-- A bench. -/
structure Bn where
  ap : Nat
  boards : List Nat
  sts : List St
structure FineB (x : Bn) : Prop where
  ap : x.ap ≤ 3
  bl : 1 ≤ x.boards.length ∧ x.boards.length ≤ 3
  bd : ∀ n ∈ x.boards, n ≤ 60
  sl : 1 ≤ x.sts.length ∧ x.sts.length ≤ 6
  st : ∀ (i : Nat) (s : St), x.sts[i]? = some s → s.b < x.boards.length ∧ 1 ≤ s.lo ∧ s.lo ≤ s.hi ∧ s.hi ≤ 6 ∧ s.needs.length ≤ 1 ∧ ∀ n ∈ s.needs, n < i

def stD : St := ⟨0, false, 0, 0, []⟩
/-- The stroke before n that has the same hand: among those below k. -/
def prevTo (plan : List Nat) (h : Nat) : Nat → Option Nat
  | 0 => none
  | k + 1 => if plan.getD k 0 = h then some k else prevTo plan h k
def prev (plan : List Nat) (n : Nat) : Option Nat := prevTo plan (plan.getD n 0) n
theorem prevTo_lt {plan : List Nat} {h : Nat} : ∀ {k i : Nat}, prevTo plan h k = some i → i < k
  | k + 1, i, e => by
    unfold prevTo at e
    split at e
    · cases e; omega
    · have := prevTo_lt e; omega
def mxN (l : List Nat) : Nat := l.foldl max 0
def freeN (F : Nat → Nat) (plan : List Nat) (n : Nat) : Nat := match prev plan n with | some i => F i | none => 0
/-- When a stroke ends, said of all strokes at once. -/
def EndsAre (sts : List St) (plan : List Nat) (F : Nat → Nat) : Prop := ∀ n, n < sts.length → F n = mxN (freeN F plan n :: (sts.getD n stD).needs.map F) + (sts.getD n stD).hi
def longN (sts : List St) (F : Nat → Nat) : Nat := mxN ((List.range sts.length).map F)
def endF (sts : List St) (plan : List Nat) : Nat → Nat → Nat
  | 0, _ => 0
  | f + 1, n => mxN (freeN (endF sts plan f) plan n :: (sts.getD n stD).needs.map (endF sts plan f)) + (sts.getD n stD).hi

/-! plans -/
def hands (ap : Nat) (sts : List St) (n : Nat) : Nat := if (sts.getD n stD).round then 1 else ap + 1
def planFrom (ap : Nat) (sts : List St) : Nat → List Nat → List (List Nat)
  | 0, now => [now]
  | r + 1, now => (List.range (hands ap sts now.length)).flatMap fun h => planFrom ap sts r (now ++ [h])
def plansOf (x : Bn) : List (List Nat) := planFrom x.ap x.sts x.sts.length []

/-! the bench of the examples -/
def stsB : List St := [⟨1, true, 2, 2, []⟩, ⟨0, false, 2, 3, []⟩, ⟨0, true, 1, 2, [1]⟩, ⟨1, false, 1, 3, [0]⟩]
def benchB (ap : Nat) : Bn := ⟨ap, [5, 6], stsB⟩
def longOf (p : List Nat) : Nat := longN stsB (endF stsB p 6)
instance (sts : List St) (plan : List Nat) (F : Nat → Nat) : Decidable (EndsAre sts plan F) := inferInstanceAs (Decidable (∀ n, n < sts.length → _))
theorem plansB : ∀ p ∈ plansOf (benchB 2), p.length = 4 ∧ EndsAre stsB p (endF stsB p 6) ∧ ∀ n, n < 4 → endF stsB p 6 n ≤ 60 := by decide +kernel
theorem plansB_len : (plansOf (benchB 2)).length = 9 := by decide +kernel
theorem minB : ((plansOf (benchB 2)).map longOf).min? = some 5 := by decide +kernel

end Go.GoldM
/- Plain mathematics: plans one by one. No condition; nothing of the program. -/
namespace Go.GoldM

def planTo (ap : Nat) (sts : List St) (r : Nat) (now : List Nat) (x : Nat) : List (List Nat) := (List.range x).flatMap fun h => planFrom ap sts r (now ++ [h])
theorem planTo_succ (ap : Nat) (sts : List St) (r : Nat) (now : List Nat) (x : Nat) : planTo ap sts r now (x + 1) = planTo ap sts r now x ++ planFrom ap sts r (now ++ [x]) := by
  simp [planTo, List.range_succ, List.flatMap_append]
theorem planTo_end (ap : Nat) (sts : List St) (r : Nat) (now : List Nat) : planFrom ap sts (r + 1) now = planTo ap sts r now (hands ap sts now.length) := rfl
theorem planTo_more (ap : Nat) (sts : List St) (r : Nat) (now : List Nat) (i : Nat) : ∀ d, ∃ rest, planTo ap sts r now (i + d) = planTo ap sts r now i ++ rest
  | 0 => ⟨[], by simp⟩
  | d + 1 => by
    obtain ⟨q, hq⟩ := planTo_more ap sts r now i d
    exact ⟨_, by rw [← Nat.add_assoc, planTo_succ, hq, List.append_assoc]⟩
theorem plan_drop {L : List (List Nat)} {ap : Nat} {sts : List St} {r : Nat} {now : List Nat} {j x : Nat} {post : List (List Nat)} (h : L.drop j = planFrom ap sts (r + 1) now ++ post) (hx : x < hands ap sts now.length) :
    ∃ post', L.drop (j + (planTo ap sts r now x).length) = planFrom ap sts r (now ++ [x]) ++ post' := by
  obtain ⟨q, hq⟩ := planTo_more ap sts r now (x + 1) (hands ap sts now.length - (x + 1))
  rw [show x + 1 + (hands ap sts now.length - (x + 1)) = hands ap sts now.length by omega, ← planTo_end, planTo_succ] at hq
  refine ⟨q ++ post, ?_⟩
  rw [← List.drop_drop, h, hq]
  simp only [List.append_assoc, List.drop_left]
theorem planTo_len (ap : Nat) (sts : List St) (r : Nat) (now : List Nat) (x j : Nat) : j + (planTo ap sts r now x).length + (planFrom ap sts r (now ++ [x])).length = j + (planTo ap sts r now (x + 1)).length := by
  rw [planTo_succ, List.length_append, Nat.add_assoc]

end Go.GoldM
