/- Contracts and mathematics, joined: MathA, MathB, MathC, MathD, MathE, MathL, MathF. Conditions stand with each. -/
set_option linter.unusedVariables false
set_option linter.unusedSimpArgs false
/- Plain mathematics: orders, spots, the closure of what comes after what. No condition; nothing of the program. -/
namespace Go.StripM

/-! Orders of names 0 .. n-1, as lists of Nat. -/

def isOrd (n : Nat) (o : List Nat) : Prop := o.length = n ∧ o.Nodup ∧ ∀ x ∈ o, x < n

def namesOk (n : Nat) (s : List Nat) : Prop := s.Nodup ∧ ∀ x ∈ s, x < n

/-- Adjacent names of a spot come in the order one behind the other. -/
def agrees (o : List Nat) : List Nat → Bool
  | a :: b :: s => decide (o.idxOf a ≤ o.idxOf b) && agrees o (b :: s)
  | _ => true

def okOrd (ss : List (List Nat)) (o : List Nat) : Bool := ss.all (agrees o)

def ords (n : Nat) : Nat → List Nat → List (List Nat)
  | 0, now => [now]
  | k + 1, now => (List.range n).flatMap fun x => if x ∈ now then [] else ords n k (now ++ [x])

def all (n : Nat) (ss : List (List Nat)) : List (List Nat) := (ords n n []).filter (okOrd ss)

def pairIn : List Nat → Nat → Nat → Bool
  | [], _, _ => false
  | x :: s, a, b => (x == a && s.contains b) || pairIn s a b

def edge (ss : List (List Nat)) (a b : Nat) : Bool := ss.any fun s => pairIn s a b

def clo (E : Nat → Nat → Bool) : Nat → Nat → Nat → Bool
  | 0, a, b => E a b
  | k + 1, a, b => clo E k a b || (clo E k a k && clo E k k b)

def tab (n : Nat) (ss : List (List Nat)) : Nat → Nat → Bool := clo (edge ss) n

def cyc (n : Nat) (ss : List (List Nat)) : Bool := (List.range n).any fun i => tab n ss i i

def free (T : Nat → Nat → Bool) (n : Nat) (taken : Nat → Bool) (x : Nat) : Bool :=
  !taken x && (List.range n).all fun i => !T i x || taken i

def dfs (T : Nat → Nat → Bool) (n : Nat) : Nat → List Nat → List (List Nat)
  | 0, now => [now]
  | k + 1, now => (List.range n).flatMap fun x => if free T n (fun i => now.contains i) x then dfs T n k (now ++ [x]) else []

def upd (t : Nat → Bool) (x : Nat) : Nat → Bool := fun i => if i = x then true else t i

def ways (T : Nat → Nat → Bool) (n : Nat) : Nat → (Nat → Bool) → Nat
  | 0, _ => 1
  | k + 1, t => ((List.range n).map fun x => if free T n t x then ways T n k (upd t x) else 0).sum

/-! ### closure -/

theorem clo_mono {E : Nat → Nat → Bool} {a b : Nat} : ∀ {k j : Nat}, k ≤ j → clo E k a b = true → clo E j a b = true := by
  intro k j h
  induction h with
  | refl => exact id
  | step _ ih => intro h; simp [clo, ih h]

theorem clo_step {E : Nat → Nat → Bool} {k a m b : Nat} (hm : m < k) (h1 : clo E k a m = true) (h2 : clo E k m b = true) : clo E k a b = true := by
  induction k generalizing a m b with
  | zero => omega
  | succ k ih =>
    simp only [clo, Bool.or_eq_true, Bool.and_eq_true] at h1 h2 ⊢
    rcases Nat.lt_or_ge m k with hm' | hm'
    · rcases h1 with h1 | ⟨h1, h1'⟩ <;> rcases h2 with h2 | ⟨h2, h2'⟩
      · exact .inl (ih hm' h1 h2)
      · exact .inr ⟨ih hm' h1 h2, h2'⟩
      · exact .inr ⟨h1, ih hm' h1' h2⟩
      · exact .inr ⟨h1, h2'⟩
    · have : m = k := by omega
      subst this
      refine .inr ⟨?_, ?_⟩
      · rcases h1 with h1 | ⟨h1, _⟩ <;> exact h1
      · rcases h2 with h2 | ⟨_, h2⟩ <;> exact h2

/-- whatever relation is transitive and holds the edges, holds the closure -/
theorem clo_least {E : Nat → Nat → Bool} {R : Nat → Nat → Prop} (hE : ∀ a b, E a b = true → R a b) (hR : ∀ a b c, R a b → R b c → R a c) :
    ∀ k a b, clo E k a b = true → R a b := by
  intro k
  induction k with
  | zero => exact hE
  | succ k ih =>
    intro a b h
    simp only [clo, Bool.or_eq_true, Bool.and_eq_true] at h
    rcases h with h | ⟨h1, h2⟩
    · exact ih _ _ h
    · exact hR _ _ _ (ih _ _ h1) (ih _ _ h2)

theorem pairIn_mem {s : List Nat} {a b : Nat} (h : pairIn s a b = true) : a ∈ s ∧ b ∈ s := by
  induction s with
  | nil => simp [pairIn] at h
  | cons x s ih =>
    simp only [pairIn, Bool.or_eq_true, Bool.and_eq_true, beq_iff_eq, List.contains_iff_mem] at h
    rcases h with ⟨rfl, h⟩ | h
    · exact ⟨by simp, by simp [h]⟩
    · exact ⟨by simp [(ih h).1], by simp [(ih h).2]⟩

def Valid (n : Nat) (ss : List (List Nat)) : Prop := ∀ s ∈ ss, namesOk n s

theorem edge_lt {n : Nat} {ss : List (List Nat)} (hv : Valid n ss) {a b : Nat} (h : edge ss a b = true) : a < n ∧ b < n := by
  simp only [edge, List.any_eq_true] at h
  obtain ⟨s, hs, h⟩ := h
  exact ⟨(hv s hs).2 _ (pairIn_mem h).1, (hv s hs).2 _ (pairIn_mem h).2⟩

theorem tab_lt {n : Nat} {ss : List (List Nat)} (hv : Valid n ss) {a b : Nat} (h : tab n ss a b = true) : a < n ∧ b < n := by
  refine clo_least (R := fun a b => a < n ∧ b < n) (fun a b h => edge_lt hv h) (fun a b c h1 h2 => ⟨h1.1, h2.2⟩) _ _ _ h

theorem tab_trans {n : Nat} {ss : List (List Nat)} (hv : Valid n ss) {a b c : Nat} (h1 : tab n ss a b = true) (h2 : tab n ss b c = true) : tab n ss a c = true :=
  clo_step (tab_lt hv h1).2 h1 h2

theorem edge_tab {n : Nat} {ss : List (List Nat)} {a b : Nat} (h : edge ss a b = true) : tab n ss a b = true := clo_mono (k := 0) (Nat.zero_le _) h

/-! ### an order agrees just if it keeps all pairs -/

theorem agrees_iff {o s : List Nat} : agrees o s = true ↔ ∀ a b, pairIn s a b = true → o.idxOf a ≤ o.idxOf b := by
  induction s with
  | nil => simp [agrees, pairIn]
  | cons x s ih =>
    cases s with
    | nil => simp [agrees, pairIn]
    | cons y s =>
      simp only [agrees, Bool.and_eq_true, decide_eq_true_eq, ih]
      constructor
      · rintro ⟨h1, h2⟩ a b h
        rw [pairIn] at h
        simp only [Bool.or_eq_true, Bool.and_eq_true, beq_iff_eq, List.contains_iff_mem] at h
        rcases h with ⟨rfl, h⟩ | h
        · rcases List.mem_cons.1 h with rfl | h'
          · exact h1
          · exact Nat.le_trans h1 (h2 y b (by simp [pairIn, h']))
        · exact h2 a b h
      · intro h
        refine ⟨h x y (by simp [pairIn]), fun a b hab => h a b ?_⟩
        rw [pairIn, hab]; simp

/-! ### the table while it is filled -/

/-- Pairs of a spot whose first name is one of its first j. -/
def pairTo (s : List Nat) (j : Nat) (a b : Nat) : Bool := (List.range j).any fun t => s.getD t 0 == a && (s.drop (t + 1)).contains b

theorem pairTo_succ (s : List Nat) (j a b : Nat) : pairTo s (j + 1) a b = (pairTo s j a b || (s.getD j 0 == a && (s.drop (j + 1)).contains b)) := by
  simp [pairTo, List.range_succ]

theorem pairTo_cons (x : Nat) (s : List Nat) (j a b : Nat) : pairTo (x :: s) (j + 1) a b = ((x == a && s.contains b) || pairTo s j a b) := by
  induction j with
  | zero => simp [pairTo]
  | succ j ih =>
    rw [pairTo_succ, ih, pairTo_succ]
    simp [Bool.or_assoc]

theorem pairTo_all (s : List Nat) (a b : Nat) : pairTo s s.length a b = pairIn s a b := by
  induction s with
  | nil => simp [pairTo, pairIn]
  | cons x s ih => rw [List.length_cons, pairTo_cons, ih, pairIn]

def mOut (ss : List (List Nat)) (i : Nat) : Nat → Nat → Bool := edge (ss.take i)
def mMid (ss : List (List Nat)) (i : Nat) (s : List Nat) (j : Nat) : Nat → Nat → Bool := fun a b => mOut ss i a b || pairTo s j a b
def mIn (ss : List (List Nat)) (i : Nat) (s : List Nat) (j p : Nat) : Nat → Nat → Bool := fun a b => mMid ss i s j a b || (s.getD j 0 == a && ((s.drop (j + 1)).take p).contains b)
def setB (M : Nat → Nat → Bool) (x y : Nat) : Nat → Nat → Bool := fun a b => if a = x ∧ b = y then true else M a b

theorem mMid_zero (ss : List (List Nat)) (i : Nat) (s : List Nat) : mMid ss i s 0 = mOut ss i := by funext a b; simp [mMid, pairTo]
theorem mIn_zero (ss : List (List Nat)) (i : Nat) (s : List Nat) (j : Nat) : mIn ss i s j 0 = mMid ss i s j := by funext a b; simp [mIn]
theorem mIn_succ (ss : List (List Nat)) (i : Nat) (s : List Nat) (j p : Nat) (hp : p < (s.drop (j + 1)).length) :
    mIn ss i s j (p + 1) = setB (mIn ss i s j p) (s.getD j 0) ((s.drop (j + 1)).getD p 0) := by
  funext a b
  simp only [mIn, setB]
  rw [List.take_succ_eq_append_getElem hp]
  generalize s.drop (j + 1) = t at *
  have e : t.getD p 0 = t[p] := by simp [List.getD, hp]
  rw [e]
  by_cases h : a = s.getD j 0 ∧ b = t[p]
  · rw [if_pos h, h.1, h.2]
    have : t[p] ∈ t.take p ++ [t[p]] := by simp only [List.mem_append, List.mem_singleton, or_true]
    simp only [List.contains_eq_mem, this, decide_true, beq_self_eq_true, Bool.and_self, Bool.or_true]
  · rw [if_neg h]
    congr 1
    simp only [List.contains_eq_mem, List.mem_append, List.mem_singleton]
    by_cases ha : s.getD j 0 = a
    · have hb : ¬ b = t[p] := fun e => h ⟨ha.symm, e⟩
      have hb2 : decide (b = t[p]) = false := by simpa using hb
      simp only [hb, or_false]
    · have : (s.getD j 0 == a) = false := by simpa using ha
      rw [this]; simp
theorem mIn_all (ss : List (List Nat)) (i : Nat) (s : List Nat) (j : Nat) (p : Nat) (hp : (s.drop (j + 1)).length ≤ p) : mIn ss i s j p = mMid ss i s (j + 1) := by
  funext a b
  simp only [mIn, mMid]
  rw [List.take_of_length_le hp, pairTo_succ, Bool.or_assoc]
theorem mMid_all (ss : List (List Nat)) (i : Nat) (hi : i < ss.length) (j : Nat) (hj : ss[i].length ≤ j) (hj2 : j ≤ ss[i].length) : mMid ss i ss[i] j = mOut ss (i + 1) := by
  have : j = ss[i].length := by omega
  subst this
  funext a b
  simp only [mMid, mOut, pairTo_all, edge]
  rw [List.take_succ_eq_append_getElem hi, List.any_append]
  simp
theorem mOut_all (ss : List (List Nat)) (i : Nat) (hi : ss.length ≤ i) : mOut ss i = clo (edge ss) 0 := by
  funext a b; simp only [mOut, clo]; rw [List.take_of_length_le hi]
theorem mOut_zero (ss : List (List Nat)) : mOut ss 0 = fun _ _ => false := by funext a b; simp [mOut, edge]

/-- The table in the middle of a stage of the closure. -/
def stage (E : Nat → Nat → Bool) (k i j : Nat) : Nat → Nat → Bool := fun a b => if a < i ∨ (a = i ∧ b < j) then clo E (k + 1) a b else clo E k a b

theorem stage_row (E : Nat → Nat → Bool) (k i j a : Nat) : stage E k i j a k = clo E k a k := by
  simp only [stage]; split
  · simp only [clo]
    cases h : clo E k a k <;> simp
  · rfl
theorem stage_col (E : Nat → Nat → Bool) (k i j b : Nat) : stage E k i j k b = clo E k k b := by
  simp only [stage]; split
  · simp only [clo]
    cases h : clo E k k b <;> simp
  · rfl
theorem stage_set (E : Nat → Nat → Bool) (k i j : Nat) (h1 : clo E k i k = true) (h2 : clo E k k j = true) : stage E k i (j + 1) = setB (stage E k i j) i j := by
  funext a b
  simp only [stage, setB]
  by_cases h : a = i ∧ b = j
  · obtain ⟨rfl, rfl⟩ := h
    simp [clo, h1, h2]
  · rw [if_neg h]
    by_cases h3 : a < i ∨ (a = i ∧ b < j)
    · rw [if_pos (by omega), if_pos h3]
    · rw [if_neg (by omega), if_neg h3]
theorem stage_skip (E : Nat → Nat → Bool) (k i j : Nat) (h : (clo E k i k && clo E k k j) = false) : stage E k i (j + 1) = stage E k i j := by
  funext a b
  simp only [stage]
  by_cases h3 : a < i ∨ (a = i ∧ b < j)
  · rw [if_pos (by omega), if_pos h3]
  · rw [if_neg h3]
    by_cases h4 : a = i ∧ b = j
    · obtain ⟨rfl, rfl⟩ := h4
      rw [if_pos (by omega)]; simp only [clo]; rw [h]; simp
    · rw [if_neg (by omega)]
theorem stage_zero (E : Nat → Nat → Bool) (k : Nat) : stage E k 0 0 = clo E k := by funext a b; simp [stage]
theorem clo_out {n : Nat} {ss : List (List Nat)} (hv : Valid n ss) (k a b : Nat) (h : n ≤ a ∨ n ≤ b) : clo (edge ss) k a b = false := by
  cases hc : clo (edge ss) k a b with
  | false => rfl
  | true =>
    have := clo_least (R := fun a b => a < n ∧ b < n) (fun a b h => edge_lt hv h) (fun a b c h1 h2 => ⟨h1.1, h2.2⟩) _ _ _ hc
    omega
theorem stage_next {n : Nat} {ss : List (List Nat)} (hv : Valid n ss) (k i j : Nat) (hj : n ≤ j) : stage (edge ss) k i j = stage (edge ss) k (i + 1) 0 := by
  funext a b
  simp only [stage]
  by_cases h : a < i ∨ (a = i ∧ b < j)
  · rw [if_pos h, if_pos (by omega)]
  · rw [if_neg h]
    by_cases h2 : a < i + 1 ∨ (a = i + 1 ∧ b < 0)
    · rw [if_pos h2, clo_out hv _ a b (by omega), clo_out hv _ a b (by omega)]
    · rw [if_neg h2]
theorem stage_all {n : Nat} {ss : List (List Nat)} (hv : Valid n ss) (k i : Nat) (hi : n ≤ i) : stage (edge ss) k i 0 = clo (edge ss) (k + 1) := by
  funext a b
  simp only [stage]
  by_cases h : a < i ∨ (a = i ∧ b < 0)
  · rw [if_pos h]
  · rw [if_neg h, clo_out hv _ a b (by omega), clo_out hv _ a b (by omega)]

end Go.StripM
/- Plain mathematics: how many orders there are after some names. No condition; nothing of the program. -/
namespace Go.StripM

def card (n : Nat) (t : Nat → Bool) : Nat := ((List.range n).filter fun i => t i).length

theorem card_le (n : Nat) (t : Nat → Bool) : card n t ≤ n := by
  have := List.length_filter_le (fun i => t i) (List.range n); simpa [card] using this

theorem card_congr {n : Nat} {t u : Nat → Bool} (h : ∀ i, i < n → t i = u i) : card n t = card n u := by
  unfold card
  rw [List.filter_congr fun i hi => h i (List.mem_range.1 hi)]

theorem card_upd {n : Nat} {t : Nat → Bool} {x : Nat} (hx : x < n) (ht : t x = false) : card n (upd t x) = card n t + 1 := by
  induction n with
  | zero => omega
  | succ n ih =>
    unfold card at *
    rw [List.range_succ, List.filter_append, List.filter_append, List.length_append, List.length_append]
    by_cases e : x = n
    · subst e
      have h1 : (List.range x).filter (fun i => upd t x i) = (List.range x).filter fun i => t i := List.filter_congr fun i hi => by
        have := List.mem_range.1 hi
        simp only [upd]; rw [if_neg (by omega)]
      rw [h1]
      simp [upd, ht]
    · rw [ih (by omega)]
      have : upd t x n = t n := by simp only [upd]; rw [if_neg (fun h => e h.symm)]
      rw [show ([n].filter fun i => upd t x i) = [n].filter fun i => t i from List.filter_congr fun i hi => by rw [List.mem_singleton.1 hi]; exact this]; omega

theorem free_congr {T : Nat → Nat → Bool} {n : Nat} {t u : Nat → Bool} (h : ∀ i, i < n → t i = u i) {x : Nat} (hx : x < n) : free T n t x = free T n u x := by
  unfold free
  rw [h x hx]
  congr 1
  rw [Bool.eq_iff_iff, List.all_eq_true, List.all_eq_true]
  constructor
  · intro k i hi; rw [← h i (List.mem_range.1 hi)]; exact k i hi
  · intro k i hi; rw [h i (List.mem_range.1 hi)]; exact k i hi

theorem ways_congr {T : Nat → Nat → Bool} {n : Nat} : ∀ (k : Nat) {t u : Nat → Bool}, (∀ i, i < n → t i = u i) → ways T n k t = ways T n k u := by
  intro k
  induction k with
  | zero => intro t u _; rfl
  | succ k ih =>
    intro t u h
    simp only [ways]
    congr 1
    apply List.map_congr_left
    intro x hx
    have hx := List.mem_range.1 hx
    rw [free_congr h hx, ih (t := upd t x) (u := upd u x)]
    intro i hi
    simp only [upd]
    split
    · rfl
    · exact h i hi

theorem sum_le {l : List Nat} {c : Nat} (h : ∀ x ∈ l, x ≤ c) : l.sum ≤ l.length * c := by
  induction l with
  | nil => simp
  | cons x l ih =>
    have h1 := h x (by simp)
    have h2 := ih fun y hy => h y (by simp [hy])
    simp only [List.sum_cons, List.length_cons, Nat.succ_mul]
    omega

theorem ways_le (T : Nat → Nat → Bool) (n : Nat) : ∀ (k : Nat) (t : Nat → Bool), ways T n k t ≤ n ^ k := by
  intro k
  induction k with
  | zero => intro t; simp [ways]
  | succ k ih =>
    intro t
    simp only [ways]
    refine Nat.le_trans (sum_le (c := n ^ k) ?_) (by simp [Nat.pow_succ, Nat.mul_comm])
    intro x hx
    simp only [List.mem_map] at hx
    obtain ⟨y, _, rfl⟩ := hx
    split
    · exact ih _
    · exact Nat.zero_le _

theorem ways_small (T : Nat → Nat → Bool) {n k : Nat} (hn : n ≤ 6) (hk : k ≤ 6) (t : Nat → Bool) : ways T n k t ≤ 46656 := by
  refine Nat.le_trans (ways_le T n k t) ?_
  refine Nat.le_trans (Nat.pow_le_pow_left hn k) ?_
  exact Nat.pow_le_pow_right (n := 6) (by decide) hk

/-- How many orders there are after some names. -/
def after (T : Nat → Nat → Bool) (n : Nat) (t : Nat → Bool) : Nat := ways T n (n - card n t) t
theorem after_congr {T : Nat → Nat → Bool} {n : Nat} (hn : n ≤ 6) : ∀ (t u : Nat → Bool), (∀ i, i < 6 → t i = u i) → after T n t = after T n u := by
  intro t u h
  have h' : ∀ i, i < n → t i = u i := fun i hi => h i (by omega)
  unfold after
  rw [card_congr h', ways_congr _ h']

/-- The numbers of orders after some names and one more, for each of the first x names. -/
def nextWays (T : Nat → Nat → Bool) (n k : Nat) (t : Nat → Bool) (x : Nat) : List Nat := ((List.range x).filter fun y => free T n t y).map fun y => ways T n k (upd t y)
theorem nextWays_succ (T : Nat → Nat → Bool) (n k : Nat) (t : Nat → Bool) (x : Nat) :
    nextWays T n k t (x + 1) = if free T n t x then nextWays T n k t x ++ [ways T n k (upd t x)] else nextWays T n k t x := by
  unfold nextWays
  rw [List.range_succ, List.filter_append, List.map_append]
  cases h : free T n t x <;> simp [h]
theorem nextWays_sum (T : Nat → Nat → Bool) (n k : Nat) (t : Nat → Bool) (x : Nat) : (nextWays T n k t x).sum = ((List.range x).map fun y => if free T n t y then ways T n k (upd t y) else 0).sum := by
  induction x with
  | zero => rfl
  | succ x ih =>
    rw [nextWays_succ, List.range_succ, List.map_append, List.sum_append, ← ih]
    cases h : free T n t x <;> simp [h]
theorem nextWays_len (T : Nat → Nat → Bool) (n k : Nat) (t : Nat → Bool) (x : Nat) : (nextWays T n k t x).length ≤ x := by
  unfold nextWays
  rw [List.length_map]
  have := List.length_filter_le (fun y => free T n t y) (List.range x); simpa using this
theorem nextWays_small (T : Nat → Nat → Bool) {n k : Nat} (hn : n ≤ 6) (hk : k ≤ 6) (t : Nat → Bool) {x : Nat} (hx : x ≤ 6) (j : Nat) : ((nextWays T n k t x).take j).sum ≤ 1000000 := by
  refine Nat.le_trans (sum_le (c := 46656) ?_) ?_
  · intro y hy
    have hy := List.mem_of_mem_take hy
    simp only [nextWays, List.mem_map] at hy
    obtain ⟨z, _, rfl⟩ := hy
    exact ways_small T hn hk _
  · have h1 := nextWays_len T n k t x
    have h2 : ((nextWays T n k t x).take j).length ≤ 6 := by rw [List.length_take]; omega
    have := Nat.mul_le_mul_right 46656 h2
    omega

end Go.StripM
/- Plain mathematics: no cycle: fewer names behind. No condition; nothing of the program. -/
namespace Go.StripM

theorem cyc_false {n : Nat} {ss : List (List Nat)} (h : cyc n ss = false) {i : Nat} (hi : i < n) : tab n ss i i = false := by
  rw [cyc, List.any_eq_false] at h
  simpa using h i (by simpa using hi)

theorem filter_lt {α : Type} {p q : α → Bool} {l : List α} (h : ∀ x ∈ l, p x = true → q x = true) {y : α} (hy : y ∈ l) (hq : q y = true) (hp : p y = false) : (l.filter p).length < (l.filter q).length := by
  induction l with
  | nil => cases hy
  | cons x l ih =>
    have hle : (l.filter p).length ≤ (l.filter q).length := by
      have : ∀ l' : List α, (∀ x ∈ l', p x = true → q x = true) → (l'.filter p).length ≤ (l'.filter q).length := by
        intro l'
        induction l' with
        | nil => intro _; simp
        | cons a l' ih' =>
          intro h'
          have h1 := ih' fun x hx => h' x (by simp [hx])
          have h2 := h' a (by simp)
          cases ha : p a
          · rw [List.filter_cons_of_neg (by simp [ha])]
            cases hb : q a
            · rw [List.filter_cons_of_neg (by simp [hb])]; exact h1
            · rw [List.filter_cons_of_pos hb, List.length_cons]; omega
          · rw [List.filter_cons_of_pos ha, List.filter_cons_of_pos (h2 ha), List.length_cons, List.length_cons]; omega
      exact this l fun x hx => h x (by simp [hx])
    have h2 := h x (by simp)
    rcases List.mem_cons.1 hy with rfl | hy'
    · rw [List.filter_cons_of_neg (by simp [hp]), List.filter_cons_of_pos hq, List.length_cons]; omega
    · have h1 := ih (fun x hx => h x (by simp [hx])) hy'
      cases ha : p x
      · rw [List.filter_cons_of_neg (by simp [ha])]
        cases hb : q x
        · rw [List.filter_cons_of_neg (by simp [hb])]; exact h1
        · rw [List.filter_cons_of_pos hb, List.length_cons]; omega
      · rw [List.filter_cons_of_pos ha, List.filter_cons_of_pos (h2 ha), List.length_cons, List.length_cons]; omega

/-- Fewer names come behind one that comes behind another one. -/
theorem behind_lt {n : Nat} {ss : List (List Nat)} (hv : Valid n ss) (hc : cyc n ss = false) {x y : Nat} (hy : y < n) (h : tab n ss x y = true) :
    ((List.range n).filter fun i => tab n ss y i).length < ((List.range n).filter fun i => tab n ss x i).length :=
  filter_lt (fun _ _ hi => tab_trans hv h hi) (List.mem_range.2 hy) h (cyc_false hc hy)

end Go.StripM
/- Plain mathematics: the orders that a search finds are those that no spot contradicts; how many there are; the least and the greatest places. No condition; nothing of the program. -/
namespace Go.StripM

/-! ### what follows after some names -/

def tails (n : Nat) : Nat → List Nat → List (List Nat)
  | 0, _ => [[]]
  | k + 1, now => (List.range n).flatMap fun x => if x ∈ now then [] else (tails n k (now ++ [x])).map (x :: ·)

theorem ords_tails (n : Nat) : ∀ k now, ords n k now = (tails n k now).map (now ++ ·) := by
  intro k
  induction k with
  | zero => intro now; simp [ords, tails]
  | succ k ih =>
    intro now
    simp only [ords, tails, List.map_flatMap]
    congr 1; funext x
    split
    · rfl
    · rw [ih, List.map_map]; congr 1; funext l; simp

def okSeq (T : Nat → Nat → Bool) (n : Nat) : List Nat → List Nat → Bool
  | _, [] => true
  | now, x :: r => (List.range n).all (fun i => !T i x || now.contains i) && okSeq T n (now ++ [x]) r

theorem filter_none {α : Type} (l : List α) : l.filter (fun _ => false) = [] := List.filter_eq_nil_iff.2 fun _ _ => by simp

theorem dfs_tails (T : Nat → Nat → Bool) (n : Nat) : ∀ k now, dfs T n k now = ((tails n k now).filter (okSeq T n now)).map (now ++ ·) := by
  intro k
  induction k with
  | zero => intro now; simp [dfs, tails, List.filter_cons, okSeq]
  | succ k ih =>
    intro now
    simp only [dfs, tails, List.filter_flatMap, List.map_flatMap]
    congr 1; funext x
    by_cases h : x ∈ now
    · simp [free, h]
    · rw [if_neg h, ih, List.filter_map, List.map_map]
      cases hf : (List.range n).all (fun i => !T i x || now.contains i)
      · have h1 : free T n (fun i => now.contains i) x = false := by simp only [free, hf, Bool.and_false]
        have h2 : (okSeq T n now ∘ fun l => x :: l) = fun _ => false := by funext l; simp only [Function.comp, okSeq, hf, Bool.false_and]
        rw [h1, h2, filter_none]; rfl
      · have h1 : free T n (fun i => now.contains i) x = true := by simp only [free, hf, Bool.and_true]; simpa using h
        have h2 : (okSeq T n now ∘ fun l => x :: l) = okSeq T n (now ++ [x]) := by funext l; simp only [Function.comp, okSeq, hf, Bool.true_and]
        rw [h1, h2, if_pos rfl]
        congr 1; funext l; simp

theorem ways_tails (T : Nat → Nat → Bool) (n : Nat) : ∀ k now (t : Nat → Bool), (∀ i, t i = now.contains i) → ways T n k t = ((tails n k now).filter (okSeq T n now)).length := by
  intro k
  induction k with
  | zero => intro now t _; simp [ways, tails, List.filter_cons, okSeq]
  | succ k ih =>
    intro now t ht
    simp only [ways, tails, List.filter_flatMap, List.length_flatMap]
    congr 1
    apply List.map_congr_left
    intro x _
    have ht' : t = fun i => now.contains i := funext ht
    subst ht'
    by_cases h : x ∈ now
    · simp [free, h]
    · rw [if_neg h, List.filter_map, List.length_map]
      cases hf : (List.range n).all (fun i => !T i x || now.contains i)
      · have h1 : free T n (fun i => now.contains i) x = false := by simp only [free, hf, Bool.and_false]
        have h2 : (okSeq T n now ∘ fun l => x :: l) = fun _ => false := by funext l; simp only [Function.comp, okSeq, hf, Bool.false_and]
        rw [h1, h2, filter_none]; rfl
      · have h1 : free T n (fun i => now.contains i) x = true := by simp only [free, hf, Bool.and_true]; simpa using h
        have h2 : (okSeq T n now ∘ fun l => x :: l) = okSeq T n (now ++ [x]) := by funext l; simp only [Function.comp, okSeq, hf, Bool.true_and]
        rw [h1, h2, if_pos rfl]
        refine ih (now ++ [x]) _ fun i => ?_
        simp only [upd]
        by_cases e : i = x <;> simp [e, List.contains_eq_mem]

theorem mem_tails {n : Nat} : ∀ {k : Nat} {now o : List Nat}, o ∈ tails n k now ↔ o.length = k ∧ o.Nodup ∧ ∀ x ∈ o, x < n ∧ x ∉ now := by
  intro k
  induction k with
  | zero =>
    intro now o
    simp only [tails, List.mem_singleton]
    constructor
    · rintro rfl; simp
    · rintro ⟨h, _⟩; exact List.eq_nil_of_length_eq_zero h
  | succ k ih =>
    intro now o
    simp only [tails, List.mem_flatMap, List.mem_range]
    constructor
    · rintro ⟨x, hx, h⟩
      split at h
      · cases h
      · rename_i hn
        simp only [List.mem_map] at h
        obtain ⟨l, hl, rfl⟩ := h
        obtain ⟨h1, h2, h3⟩ := ih.1 hl
        refine ⟨by simp [h1], List.nodup_cons.2 ⟨fun hxl => (h3 x hxl).2 (by simp), h2⟩, fun y hy => ?_⟩
        rcases List.mem_cons.1 hy with rfl | hy
        · exact ⟨hx, hn⟩
        · exact ⟨(h3 y hy).1, fun h => (h3 y hy).2 (by simp [h])⟩
    · rintro ⟨h1, h2, h3⟩
      cases o with
      | nil => simp at h1
      | cons x l =>
        obtain ⟨h4, h5⟩ := List.nodup_cons.1 h2
        refine ⟨x, (h3 x (by simp)).1, ?_⟩
        rw [if_neg (h3 x (by simp)).2]
        refine List.mem_map.2 ⟨l, ih.2 ⟨by simpa using h1, h5, fun y hy => ⟨(h3 y (by simp [hy])).1, fun h => ?_⟩⟩, rfl⟩
        rcases List.mem_append.1 h with h | h
        · exact (h3 y (by simp [hy])).2 h
        · rw [List.mem_singleton.1 h] at hy; exact h4 hy

theorem isOrd_iff {n : Nat} {o : List Nat} : isOrd n o ↔ o ∈ tails n n [] := by rw [mem_tails]; simp [isOrd]
theorem ords_nil (n : Nat) : ords n n [] = tails n n [] := by rw [ords_tails]; simp
theorem mem_all {n : Nat} {ss : List (List Nat)} {o : List Nat} : o ∈ all n ss ↔ isOrd n o ∧ okOrd ss o = true := by rw [all, List.mem_filter, ords_nil, isOrd_iff]

theorem nodup_le : ∀ (n : Nat) (l : List Nat), l.Nodup → (∀ x ∈ l, x < n) → l.length ≤ n := by
  intro n
  induction n with
  | zero => intro l _ h; cases l with
    | nil => simp
    | cons x l => have := h x (by simp); omega
  | succ n ih =>
    intro l hd h
    have h1 := ih (l.erase n) (hd.erase n) fun x hx => by
      have := (List.Nodup.mem_erase_iff hd).1 hx
      have := h x this.2
      omega
    rw [List.length_erase] at h1
    split at h1 <;> omega

theorem ord_mem {n : Nat} {o : List Nat} (h : isOrd n o) {x : Nat} (hx : x < n) : x ∈ o := by
  refine Decidable.byContradiction fun hn => ?_
  have := nodup_le n (x :: o) (List.nodup_cons.2 ⟨hn, h.2.1⟩) fun y hy => by
    rcases List.mem_cons.1 hy with rfl | hy
    · exact hx
    · exact h.2.2 y hy
  rw [List.length_cons, h.1] at this
  omega

theorem idxOf_inj {o : List Nat} {a b : Nat} (ha : a ∈ o) (h : o.idxOf a = o.idxOf b) : a = b := by
  have h1 := List.idxOf_lt_length_of_mem ha
  have e1 : o[o.idxOf a] = a := List.getElem_idxOf h1
  have e2 : o[o.idxOf b]'(h ▸ h1) = b := List.getElem_idxOf (h ▸ h1)
  rw [← e1, ← e2]
  simp only [h]

theorem pairIn_ne {s : List Nat} {a b : Nat} (hd : s.Nodup) (h : pairIn s a b = true) : a ≠ b := by
  induction s with
  | nil => simp [pairIn] at h
  | cons x s ih =>
    obtain ⟨h1, h2⟩ := List.nodup_cons.1 hd
    simp only [pairIn, Bool.or_eq_true, Bool.and_eq_true, beq_iff_eq, List.contains_iff_mem] at h
    rcases h with ⟨rfl, h⟩ | h
    · rintro rfl; exact h1 h
    · exact ih h2 h

theorem okOrd_iff {ss : List (List Nat)} {o : List Nat} : okOrd ss o = true ↔ ∀ a b, edge ss a b = true → o.idxOf a ≤ o.idxOf b := by
  simp only [okOrd, List.all_eq_true, agrees_iff, edge, List.any_eq_true]
  exact ⟨fun h a b ⟨s, hs, hp⟩ => h s hs a b hp, fun h s hs a b hp => h a b ⟨s, hs, hp⟩⟩

/-- In an order that no spot contradicts, what comes after what by spots does so. -/
theorem ord_lt {n : Nat} {ss : List (List Nat)} {o : List Nat} (hv : Valid n ss) (ho : isOrd n o) (hk : okOrd ss o = true) {a b : Nat} (h : tab n ss a b = true) : o.idxOf a < o.idxOf b := by
  refine clo_least (R := fun a b => o.idxOf a < o.idxOf b) (fun a b hE => ?_) (fun a b c h1 h2 => Nat.lt_trans h1 h2) _ _ _ h
  have h1 := okOrd_iff.1 hk a b hE
  have h2 := edge_lt hv hE
  obtain ⟨s, hs, hp⟩ := List.any_eq_true.1 hE
  have h3 := pairIn_ne (hv s hs).1 hp
  rcases Nat.lt_or_ge (o.idxOf a) (o.idxOf b) with h | h
  · exact h
  · exact absurd (idxOf_inj (ord_mem ho h2.1) (by omega)) h3

theorem okSeq_iff {T : Nat → Nat → Bool} {n : Nat} : ∀ {r now : List Nat}, okSeq T n now r = true ↔ ∀ j (h : j < r.length) i, i < n → T i r[j] = true → i ∈ now ++ r.take j := by
  intro r
  induction r with
  | nil => intro now; simp [okSeq]
  | cons x r ih =>
    intro now
    simp only [okSeq, Bool.and_eq_true, ih]
    constructor
    · rintro ⟨h1, h2⟩ j h i hi ht
      cases j with
      | zero =>
        rw [List.all_eq_true] at h1
        have := h1 i (List.mem_range.2 hi)
        simp only [List.getElem_cons_zero] at ht
        simpa [ht] using this
      | succ j =>
        have := h2 j (by simpa using h) i hi (by simpa using ht)
        simpa using this
    · intro h
      constructor
      · rw [List.all_eq_true]
        intro i hi
        cases ht : T i x
        · rfl
        · have := h 0 (by simp) i (List.mem_range.1 hi) (by simpa using ht)
          simpa using this
      · intro j hj i hi ht
        have := h (j + 1) (by simpa using hj) i hi (by simpa using ht)
        simpa using this

theorem mem_take_idx {o : List Nat} {a j : Nat} (hd : o.Nodup) (hj : j ≤ o.length) : a ∈ o.take j ↔ o.idxOf a < j := by
  constructor
  · intro h
    obtain ⟨i, hi, e⟩ := List.mem_iff_getElem.1 h
    rw [List.getElem_take] at e
    have hi' : i < j := by rw [List.length_take] at hi; omega
    have : o.idxOf a = i := by rw [← e]; exact List.Nodup.idxOf_getElem hd i (by omega)
    omega
  · intro h
    have h1 : o.idxOf a < o.length := by omega
    refine List.mem_iff_getElem.2 ⟨o.idxOf a, by rw [List.length_take]; omega, ?_⟩
    rw [List.getElem_take]
    exact List.getElem_idxOf h1

theorem okSeq_ord {n : Nat} {ss : List (List Nat)} {o : List Nat} (hv : Valid n ss) (ho : isOrd n o) : (okSeq (tab n ss) n [] o = true ↔ ∀ a b, tab n ss a b = true → o.idxOf a < o.idxOf b) := by
  rw [okSeq_iff]
  constructor
  · intro h a b ht
    have hl := tab_lt hv ht
    have hb := ord_mem ho hl.2
    have hi := List.idxOf_lt_length_of_mem hb
    have := h (o.idxOf b) hi a hl.1 (by rw [List.getElem_idxOf hi]; exact ht)
    rw [List.nil_append, mem_take_idx ho.2.1 (by omega)] at this
    exact this
  · intro h j hj i hi ht
    rw [List.nil_append, mem_take_idx ho.2.1 (by omega)]
    have := h i o[j] ht
    rw [List.Nodup.idxOf_getElem ho.2.1 j hj] at this
    exact this

theorem okOrd_of_lt {n : Nat} {ss : List (List Nat)} {o : List Nat} (h : ∀ a b, tab n ss a b = true → o.idxOf a < o.idxOf b) : okOrd ss o = true :=
  okOrd_iff.2 fun a b hE => Nat.le_of_lt (h a b (edge_tab hE))

theorem dfs_all {n : Nat} {ss : List (List Nat)} (hv : Valid n ss) : dfs (tab n ss) n n [] = all n ss := by
  rw [dfs_tails, all, ords_nil]
  have : ((fun l : List Nat => [] ++ l) : List Nat → List Nat) = id := by funext l; rfl
  rw [this, List.map_id]
  apply List.filter_congr
  intro o ho
  have ho := isOrd_iff.2 ho
  rw [Bool.eq_iff_iff, okSeq_ord hv ho]
  exact ⟨okOrd_of_lt, fun h a b => ord_lt hv ho h⟩

theorem ways_all {n : Nat} {ss : List (List Nat)} (hv : Valid n ss) : ways (tab n ss) n n (fun _ => false) = (all n ss).length := by
  rw [ways_tails (tab n ss) n n [] _ (fun i => by simp), ← dfs_all hv, dfs_tails, List.length_map]

theorem all_cyc {n : Nat} {ss : List (List Nat)} (hv : Valid n ss) (h : cyc n ss = true) : all n ss = [] := by
  rw [List.eq_nil_iff_forall_not_mem]
  intro o ho
  obtain ⟨h1, h2⟩ := mem_all.1 ho
  simp only [cyc, List.any_eq_true, List.mem_range] at h
  obtain ⟨i, _, hi⟩ := h
  have := ord_lt hv h1 h2 hi
  omega

/-! ### orders, pair by pair -/

def okP (T : Nat → Nat → Bool) (o : List Nat) : Prop := o.Pairwise fun a b => T b a = false

theorem sub_len {l1 l2 : List Nat} (hd : l1.Nodup) (h : ∀ x ∈ l1, x ∈ l2) : l1.length ≤ l2.length := by
  induction l1 generalizing l2 with
  | nil => simp
  | cons x l1 ih =>
    obtain ⟨h1, h2⟩ := List.nodup_cons.1 hd
    have hx := h x (by simp)
    have := ih (l2 := l2.erase x) h2 fun y hy => (List.mem_erase_of_ne (fun e : y = x => h1 (e ▸ hy))).2 (h y (by simp [hy]))
    rw [List.length_erase_of_mem hx] at this
    have := List.length_pos_of_mem hx
    rw [List.length_cons]; omega

theorem filter_len {n : Nat} {o : List Nat} (ho : isOrd n o) (p : Nat → Bool) : (o.filter p).length = ((List.range n).filter p).length := by
  apply Nat.le_antisymm
  · refine sub_len (ho.2.1.filter _) fun x hx => ?_
    obtain ⟨h1, h2⟩ := List.mem_filter.1 hx
    exact List.mem_filter.2 ⟨List.mem_range.2 (ho.2.2 x h1), h2⟩
  · refine sub_len (List.nodup_range.filter _) fun x hx => ?_
    obtain ⟨h1, h2⟩ := List.mem_filter.1 hx
    exact List.mem_filter.2 ⟨ord_mem ho (List.mem_range.1 h1), h2⟩

theorem okP_iff {n : Nat} {ss : List (List Nat)} {o : List Nat} (hv : Valid n ss) (hc : cyc n ss = false) (ho : isOrd n o) : okOrd ss o = true ↔ okP (tab n ss) o := by
  constructor
  · intro hk
    refine List.pairwise_iff_getElem.2 fun i j hi hj hij => ?_
    cases h : tab n ss o[j] o[i]
    · rfl
    · have := ord_lt hv ho hk h
      rw [List.Nodup.idxOf_getElem ho.2.1, List.Nodup.idxOf_getElem ho.2.1] at this
      omega
  · intro h
    refine okOrd_of_lt (n := n) fun a b ht => ?_
    obtain ⟨ha, hb⟩ := tab_lt hv ht
    have ia := List.idxOf_lt_length_of_mem (ord_mem ho ha)
    have ib := List.idxOf_lt_length_of_mem (ord_mem ho hb)
    rcases Nat.lt_trichotomy (o.idxOf a) (o.idxOf b) with h1 | h1 | h1
    · exact h1
    · have := idxOf_inj (ord_mem ho ha) h1
      rw [this, cyc_false hc hb] at ht; cases ht
    · have := List.pairwise_iff_getElem.1 h _ _ ib ia h1
      rw [List.getElem_idxOf ia, List.getElem_idxOf ib, ht] at this; cases this

/-- Some names, among them each that comes before one of them, may all come first. -/
def split (p : Nat → Bool) (o : List Nat) : List Nat := o.filter p ++ o.filter fun a => !p a

theorem split_ord {n : Nat} {p : Nat → Bool} {o : List Nat} (ho : isOrd n o) : isOrd n (split p o) := by
  refine ⟨?_, ?_, ?_⟩
  · rw [split, List.length_append, ← List.countP_eq_length_filter, ← List.countP_eq_length_filter, ← ho.1]
    have := List.length_eq_countP_add_countP p (l := o)
    simp only [Bool.not_eq_true, Bool.decide_eq_false] at this
    omega
  · rw [split, List.nodup_append]
    refine ⟨ho.2.1.filter _, ho.2.1.filter _, fun a ha b hb e => ?_⟩
    have h1 := (List.mem_filter.1 ha).2
    have h2 := (List.mem_filter.1 hb).2
    rw [← e, h1] at h2; cases h2
  · intro x hx
    rcases List.mem_append.1 hx with h | h <;> exact ho.2.2 x (List.mem_filter.1 h).1

theorem split_ok {T : Nat → Nat → Bool} {p : Nat → Bool} {o : List Nat} (h : okP T o) (hp : ∀ a b, T a b = true → p b = true → p a = true) : okP T (split p o) := by
  refine List.pairwise_append.2 ⟨h.filter _, h.filter _, fun a ha b hb => ?_⟩
  have h1 := (List.mem_filter.1 ha).2
  have h2 := (List.mem_filter.1 hb).2
  cases ht : T b a
  · rfl
  · rw [hp b a ht h1] at h2; cases h2

theorem split_all {n : Nat} {ss : List (List Nat)} {p : Nat → Bool} {o : List Nat} (hv : Valid n ss) (hc : cyc n ss = false) (ho : o ∈ all n ss) (hp : ∀ a b, tab n ss a b = true → p b = true → p a = true) : split p o ∈ all n ss := by
  obtain ⟨h1, h2⟩ := mem_all.1 ho
  exact mem_all.2 ⟨split_ord h1, (okP_iff hv hc (split_ord h1)).2 (split_ok ((okP_iff hv hc h1).1 h2) hp)⟩

theorem before_lt {n : Nat} {ss : List (List Nat)} (hv : Valid n ss) (hc : cyc n ss = false) {x y : Nat} (hx : x < n) (h : tab n ss x y = true) :
    ((List.range n).filter fun i => tab n ss i x).length < ((List.range n).filter fun i => tab n ss i y).length :=
  filter_lt (fun _ _ hi => tab_trans hv hi h) (List.mem_range.2 hx) h (cyc_false hc hx)

/-- Where no spot contradicts another, there is an order. -/
theorem all_some {n : Nat} {ss : List (List Nat)} (hv : Valid n ss) (hc : cyc n ss = false) : ∃ o, o ∈ all n ss := by
  let r : Nat → Nat → Bool := fun a b => decide (((List.range n).filter fun i => tab n ss i a).length ≤ ((List.range n).filter fun i => tab n ss i b).length)
  have hp := List.mergeSort_perm (List.range n) r
  have ho : isOrd n ((List.range n).mergeSort r) := ⟨by rw [hp.length_eq, List.length_range], hp.symm.nodup List.nodup_range, fun x hx => List.mem_range.1 (hp.mem_iff.1 hx)⟩
  refine ⟨_, mem_all.2 ⟨ho, (okP_iff hv hc ho).2 ?_⟩⟩
  have hs := List.pairwise_mergeSort (le := r) (fun a b c h1 h2 => by simp only [r, decide_eq_true_eq] at *; omega) (fun a b => by simp only [r, Bool.or_eq_true, decide_eq_true_eq]; omega) (List.range n)
  refine hs.imp_of_mem fun {a b} ha hb hab => ?_
  cases ht : tab n ss b a
  · rfl
  · have := before_lt hv hc (ho.2.2 b hb) ht
    simp only [r, decide_eq_true_eq] at hab
    omega

theorem all_nil {n : Nat} {ss : List (List Nat)} (hv : Valid n ss) : all n ss = [] ↔ cyc n ss = true := by
  refine ⟨fun h => ?_, all_cyc hv⟩
  cases hc : cyc n ss
  · obtain ⟨o, ho⟩ := all_some hv hc
    rw [h] at ho; cases ho
  · rfl

/-! ### the least and the greatest place -/

theorem place_low {n : Nat} {ss : List (List Nat)} {o : List Nat} {x : Nat} (hv : Valid n ss) (ho : o ∈ all n ss) (hx : x < n) : ((List.range n).filter fun i => tab n ss i x).length ≤ o.idxOf x := by
  obtain ⟨h1, h2⟩ := mem_all.1 ho
  have hi := List.idxOf_lt_length_of_mem (ord_mem h1 hx)
  have := sub_len (l1 := (List.range n).filter fun i => tab n ss i x) (l2 := o.take (o.idxOf x)) (List.nodup_range.filter _) fun y hy => by
    have := (List.mem_filter.1 hy).2
    exact (mem_take_idx h1.2.1 (by omega)).2 (ord_lt hv h1 h2 this)
  rw [List.length_take] at this
  omega

theorem place_high {n : Nat} {ss : List (List Nat)} {o : List Nat} {x : Nat} (hv : Valid n ss) (ho : o ∈ all n ss) (hx : x < n) : o.idxOf x + 1 + ((List.range n).filter fun i => tab n ss x i).length ≤ n := by
  obtain ⟨h1, h2⟩ := mem_all.1 ho
  have hi := List.idxOf_lt_length_of_mem (ord_mem h1 hx)
  have := sub_len (l1 := (List.range n).filter fun i => tab n ss x i) (l2 := o.drop (o.idxOf x + 1)) (List.nodup_range.filter _) fun y hy => by
    obtain ⟨hy1, hy⟩ := List.mem_filter.1 hy
    have hlt := ord_lt hv h1 h2 hy
    have hyo := List.idxOf_lt_length_of_mem (ord_mem h1 (List.mem_range.1 hy1))
    refine List.mem_iff_getElem.2 ⟨o.idxOf y - (o.idxOf x + 1), by rw [List.length_drop]; omega, ?_⟩
    rw [List.getElem_drop]
    have e : o.idxOf x + 1 + (o.idxOf y - (o.idxOf x + 1)) = o.idxOf y := by omega
    simp only [e]
    exact List.getElem_idxOf hyo
  rw [List.length_drop, h1.1] at this
  rw [h1.1] at hi
  omega

theorem nodup_mid {u v : List Nat} {x : Nat} (h : (u ++ x :: v).Nodup) : x ∉ u ∧ x ∉ v := by
  rw [List.nodup_append] at h
  exact ⟨fun hx => h.2.2 x hx x (by simp) rfl, (List.nodup_cons.1 h.2.1).1⟩

/-- An order in which one name comes as early as it can. -/
theorem place_early {n : Nat} {ss : List (List Nat)} {x : Nat} (hv : Valid n ss) (hc : cyc n ss = false) (hx : x < n) : ∃ o, o ∈ all n ss ∧ o.idxOf x = ((List.range n).filter fun i => tab n ss i x).length := by
  obtain ⟨o, ho⟩ := all_some hv hc
  obtain ⟨h1, h2⟩ := mem_all.1 ho
  have hP := (okP_iff hv hc h1).1 h2
  refine ⟨_, split_all (p := fun a => tab n ss a x || a == x) hv hc ho fun a b ht hb => ?_, ?_⟩
  · simp only [Bool.or_eq_true, beq_iff_eq] at hb ⊢
    rcases hb with hb | rfl
    · exact .inl (tab_trans hv ht hb)
    · exact .inl ht
  · rw [← filter_len h1]
    obtain ⟨u, v, e⟩ := List.append_of_mem (ord_mem h1 hx)
    have hn := nodup_mid (e ▸ h1.2.1)
    rw [okP, e, List.pairwise_append, List.pairwise_cons] at hP
    have hvx : v.filter (fun a => tab n ss a x) = [] := List.filter_eq_nil_iff.2 fun y hy => by rw [hP.2.1.1 y hy]; simp
    have hux : u.filter (fun a => tab n ss a x || a == x) = u.filter fun a => tab n ss a x := List.filter_congr fun y hy => by
      have : (y == x) = false := by simpa using fun e : y = x => hn.1 (e ▸ hy)
      rw [this, Bool.or_false]
    have hxx : tab n ss x x = false := cyc_false hc hx
    rw [e, split, List.filter_append, List.filter_append, List.filter_cons, List.filter_cons]
    simp only [beq_self_eq_true, Bool.or_true, if_true, hxx, Bool.false_eq_true, if_false, hvx, List.append_nil, hux]
    rw [List.append_assoc, List.idxOf_append, if_neg (fun h => hn.1 (List.mem_filter.1 h).1), List.cons_append, List.idxOf_cons_self]
    simp
    exact ⟨hxx, hP.2.1.1⟩

/-- An order in which one name comes as late as it can. -/
theorem place_late {n : Nat} {ss : List (List Nat)} {x : Nat} (hv : Valid n ss) (hc : cyc n ss = false) (hx : x < n) : ∃ o, o ∈ all n ss ∧ o.idxOf x + 1 + ((List.range n).filter fun i => tab n ss x i).length = n := by
  obtain ⟨o, ho⟩ := all_some hv hc
  obtain ⟨h1, h2⟩ := mem_all.1 ho
  have hP := (okP_iff hv hc h1).1 h2
  refine ⟨_, split_all (p := fun a => !tab n ss x a && !(a == x)) hv hc ho fun a b ht hb => ?_, ?_⟩
  · simp only [Bool.and_eq_true, Bool.not_eq_true', beq_eq_false_iff_ne] at hb ⊢
    refine ⟨?_, fun e => ?_⟩
    · cases h : tab n ss x a
      · rfl
      · rw [tab_trans hv h ht] at hb; cases hb.1
    · rw [e] at ht; rw [ht] at hb; cases hb.1
  · rw [← filter_len h1]
    obtain ⟨u, v, e⟩ := List.append_of_mem (ord_mem h1 hx)
    have hn := nodup_mid (e ▸ h1.2.1)
    have hlen : u.length + (v.length + 1) = n := by have := h1.1; rw [e, List.length_append, List.length_cons] at this; exact this
    rw [okP, e, List.pairwise_append, List.pairwise_cons] at hP
    have hux : ∀ y ∈ u, tab n ss x y = false := fun y hy => hP.2.2 y hy x (by simp)
    have hu1 : u.filter (fun a => !tab n ss x a && !(a == x)) = u := List.filter_eq_self.2 fun y hy => by
      have : (y == x) = false := by simpa using fun e : y = x => hn.1 (e ▸ hy)
      rw [this, hux y hy]; rfl
    have hu2 : u.filter (fun a => !(!tab n ss x a && !(a == x))) = [] := List.filter_eq_nil_iff.2 fun y hy => by
      have : (y == x) = false := by simpa using fun e : y = x => hn.1 (e ▸ hy)
      rw [this, hux y hy]; simp
    have hu3 : u.filter (fun a => tab n ss x a) = [] := List.filter_eq_nil_iff.2 fun y hy => by rw [hux y hy]; simp
    have hv1 : v.filter (fun a => !tab n ss x a && !(a == x)) = v.filter fun a => !tab n ss x a := List.filter_congr fun y hy => by
      have : (y == x) = false := by simpa using fun e : y = x => hn.2 (e ▸ hy)
      rw [this]; simp
    have hxx : tab n ss x x = false := cyc_false hc hx
    have hcount : (v.filter fun a => tab n ss x a).length + (v.filter fun a => !tab n ss x a).length = v.length := by
      rw [← List.countP_eq_length_filter, ← List.countP_eq_length_filter]
      have := List.length_eq_countP_add_countP (fun a => tab n ss x a) (l := v)
      simp only [Bool.not_eq_true, Bool.decide_eq_false] at this
      omega
    have hxn : x ∉ u ++ v.filter fun a => !tab n ss x a := fun h => by
      rcases List.mem_append.1 h with h | h
      · exact hn.1 h
      · exact hn.2 (List.mem_filter.1 h).1
    rw [e, split]
    simp only [List.filter_append, List.filter_cons, beq_self_eq_true, Bool.not_true, Bool.and_false, Bool.not_false, Bool.false_eq_true, if_false, if_true, hxx, hu1, hu2, hu3, hv1, List.nil_append]
    rw [List.idxOf_append, if_neg hxn, List.idxOf_cons_self, List.length_append]
    omega

/-! ### the first order -/

theorem free_some {n : Nat} {ss : List (List Nat)} (hv : Valid n ss) (hc : cyc n ss = false) {pre : List Nat} : ∀ (m x : Nat), ((List.range n).filter fun i => tab n ss i x).length ≤ m → x < n → x ∉ pre →
    ∃ y, y < n ∧ free (tab n ss) n (fun i => pre.contains i) y = true := by
  intro m
  induction m with
  | zero =>
    intro x hm hx hp
    refine ⟨x, hx, ?_⟩
    have h0 : (List.range n).filter (fun i => tab n ss i x) = [] := List.eq_nil_of_length_eq_zero (by omega)
    simp only [free, Bool.and_eq_true, List.all_eq_true, List.mem_range]
    refine ⟨by simpa using hp, fun i hi => ?_⟩
    have := List.filter_eq_nil_iff.1 h0 i (List.mem_range.2 hi)
    simp only [Bool.not_eq_true] at this
    rw [this]; rfl
  | succ m ih =>
    intro x hm hx hp
    cases hf : free (tab n ss) n (fun i => pre.contains i) x
    · have : ∃ a, a < n ∧ tab n ss a x = true ∧ a ∉ pre := by
        refine Decidable.byContradiction fun hno => ?_
        have h1 : free (tab n ss) n (fun i => pre.contains i) x = true := by
          simp only [free, Bool.and_eq_true, List.all_eq_true, List.mem_range]
          refine ⟨by simpa using hp, fun i hi => ?_⟩
          cases ht : tab n ss i x
          · rfl
          · have : i ∈ pre := Decidable.byContradiction fun hn => hno ⟨i, hi, ht, hn⟩
            simpa using this
        rw [hf] at h1; cases h1
      obtain ⟨a, ha, ht, hn⟩ := this
      have := before_lt hv hc ha ht
      exact ih a (by omega) ha hn
    · exact ⟨x, hx, hf⟩

/-- What comes first is closed under what must come before. -/
structure Pre (n : Nat) (ss : List (List Nat)) (pre : List Nat) : Prop where
  nd : pre.Nodup
  lt : ∀ x ∈ pre, x < n
  cl : ∀ y ∈ pre, ∀ a, tab n ss a y = true → a ∈ pre

theorem Pre.nil (n : Nat) (ss : List (List Nat)) : Pre n ss [] := ⟨.nil, fun x h => (by cases h), fun y h => (by cases h)⟩
theorem Pre.snoc {n : Nat} {ss : List (List Nat)} {pre : List Nat} (hv : Valid n ss) (h : Pre n ss pre) {x : Nat} (hx : x < n) (hf : free (tab n ss) n (fun i => pre.contains i) x = true) : Pre n ss (pre ++ [x]) := by
  simp only [free, Bool.and_eq_true, List.all_eq_true, List.mem_range] at hf
  obtain ⟨h1, h2⟩ := hf
  have hxp : x ∉ pre := by simpa using h1
  refine ⟨?_, fun y hy => ?_, fun y hy a ht => ?_⟩
  · rw [List.nodup_append]
    refine ⟨h.nd, by simp, fun a ha b hb e => ?_⟩
    rw [List.mem_singleton.1 hb] at e
    exact hxp (e ▸ ha)
  · rcases List.mem_append.1 hy with hy | hy
    · exact h.lt y hy
    · rw [List.mem_singleton.1 hy]; exact hx
  · refine List.mem_append.2 (.inl ?_)
    rcases List.mem_append.1 hy with hy | hy
    · exact h.cl y hy a ht
    · rw [List.mem_singleton.1 hy] at ht
      have := h2 a (tab_lt hv ht).1
      simpa [ht] using this

theorem pre_more {n : Nat} {ss : List (List Nat)} {pre : List Nat} (hv : Valid n ss) (hc : cyc n ss = false) (h : Pre n ss pre) (hl : pre.length < n) : ∃ y, y < n ∧ free (tab n ss) n (fun i => pre.contains i) y = true := by
  have : ∃ x, x < n ∧ x ∉ pre := by
    refine Decidable.byContradiction fun hno => ?_
    have := sub_len (l1 := List.range n) (l2 := pre) List.nodup_range fun x hx => Decidable.byContradiction fun hn => hno ⟨x, List.mem_range.1 hx, hn⟩
    rw [List.length_range] at this; omega
  obtain ⟨x, hx, hp⟩ := this
  exact free_some hv hc _ x (Nat.le_refl _) hx hp

theorem dfs_some {n : Nat} {ss : List (List Nat)} (hv : Valid n ss) (hc : cyc n ss = false) : ∀ (k : Nat) (pre : List Nat), pre.length + k = n → Pre n ss pre → dfs (tab n ss) n k pre ≠ [] := by
  intro k
  induction k with
  | zero => intro pre _ _; simp [dfs]
  | succ k ih =>
    intro pre hl h
    obtain ⟨y, hy, hf⟩ := pre_more hv hc h (by omega)
    have h1 := ih (pre ++ [y]) (by rw [List.length_append, List.length_singleton]; omega) (h.snoc hv hy hf)
    obtain ⟨o, ho⟩ := List.exists_mem_of_ne_nil _ h1
    refine List.ne_nil_of_mem (a := o) ?_
    simp only [dfs, List.mem_flatMap, List.mem_range]
    exact ⟨y, hy, by rw [if_pos hf]; exact ho⟩

theorem dfs_head {T : Nat → Nat → Bool} {n k x : Nat} {pre : List Nat} (hx : x < n) (hf : free T n (fun i => pre.contains i) x = true) (hno : ∀ y, y < x → free T n (fun i => pre.contains i) y = false)
    (hs : dfs T n k (pre ++ [x]) ≠ []) : (dfs T n (k + 1) pre).head? = (dfs T n k (pre ++ [x])).head? := by
  have hr : List.range n = List.range x ++ x :: (List.range n).drop (x + 1) := by
    have h1 : (List.range n).take x = List.range x := by rw [List.take_range, Nat.min_eq_left (by omega)]
    have h2 := List.drop_eq_getElem_cons (l := List.range n) (i := x) (by simpa using hx)
    rw [List.getElem_range] at h2
    rw [← h1, ← h2, List.take_append_drop]
  rw [dfs, hr, List.flatMap_append, List.flatMap_cons, if_pos hf]
  have h0 : ((List.range x).flatMap fun x => if free T n (fun i => pre.contains i) x = true then dfs T n k (pre ++ [x]) else []) = [] := by
    rw [List.flatMap_eq_nil_iff]
    intro y hy
    rw [hno y (List.mem_range.1 hy)]; rfl
  rw [h0, List.nil_append, List.head?_append]
  cases hd : dfs T n k (pre ++ [x]) with
  | nil => exact absurd hd hs
  | cons a l => rfl

end Go.StripM
/- Plain mathematics: levels of names, which there are just if no spot contradicts another; the greatest one is the longest chain. No condition; nothing of the program. -/
namespace Go.StripM

/-- Two names of a spot, one right behind the other. -/
def adj : List Nat → List (Nat × Nat)
  | a :: b :: s => (a, b) :: adj (b :: s)
  | _ => []
def pairs (ss : List (List Nat)) : List (Nat × Nat) := ss.flatMap adj
def rx (st : List Nat × Bool) (p : Nat × Nat) : List Nat × Bool :=
  if st.1.getD p.2 0 ≤ st.1.getD p.1 0 then (st.1.set p.2 (st.1.getD p.1 0 + 1), true) else st
def turn (ss : List (List Nat)) (l : List Nat) : List Nat × Bool := (pairs ss).foldl rx (l, false)
def levT (ss : List (List Nat)) : Nat → List Nat → Option (List Nat)
  | 0, _ => none
  | k + 1, l => if (turn ss l).2 = true then levT ss k (turn ss l).1 else some (turn ss l).1
def levels (n : Nat) (ss : List (List Nat)) : Option (List Nat) := levT ss (n + 1) (List.replicate n 1)

theorem adj_pair {s : List Nat} {p : Nat × Nat} (h : p ∈ adj s) : pairIn s p.1 p.2 = true := by
  induction s with
  | nil => simp [adj] at h
  | cons x s ih =>
    cases s with
    | nil => simp [adj] at h
    | cons y s =>
      simp only [adj, List.mem_cons] at h
      rcases h with rfl | h
      · simp [pairIn]
      · rw [pairIn, ih h]; simp
theorem pairs_edge {ss : List (List Nat)} {p : Nat × Nat} (h : p ∈ pairs ss) : edge ss p.1 p.2 = true := by
  simp only [pairs, List.mem_flatMap] at h
  obtain ⟨s, hs, h⟩ := h
  exact List.any_eq_true.2 ⟨s, hs, adj_pair h⟩

theorem adj_strict {f : Nat → Nat} {s : List Nat} (h : ∀ p ∈ adj s, f p.1 < f p.2) {a b : Nat} (hp : pairIn s a b = true) : f a < f b := by
  induction s generalizing a b with
  | nil => simp [pairIn] at hp
  | cons x s ih =>
    cases s with
    | nil => simp [pairIn] at hp
    | cons y s =>
      have h1 := h (x, y) (by simp [adj])
      have ih := @ih (fun p hp => h p (by simp [adj, hp]))
      rw [pairIn] at hp
      simp only [Bool.or_eq_true, Bool.and_eq_true, beq_iff_eq, List.contains_iff_mem] at hp
      rcases hp with ⟨rfl, hp⟩ | hp
      · rcases List.mem_cons.1 hp with rfl | hp'
        · exact h1
        · exact Nat.lt_trans h1 (ih (by simp [pairIn, hp']))
      · exact ih hp

theorem tab_strict {n : Nat} {ss : List (List Nat)} {f : Nat → Nat} (h : ∀ p ∈ pairs ss, f p.1 < f p.2) {a b : Nat} (ht : tab n ss a b = true) : f a < f b := by
  refine clo_least (R := fun a b => f a < f b) (fun a b hE => ?_) (fun a b c h1 h2 => Nat.lt_trans h1 h2) _ _ _ ht
  obtain ⟨s, hs, hp⟩ := List.any_eq_true.1 hE
  exact adj_strict (fun p hp => h p (List.mem_flatMap.2 ⟨s, hs, hp⟩)) hp

theorem cyc_of_strict {n : Nat} {ss : List (List Nat)} {f : Nat → Nat} (h : ∀ p ∈ pairs ss, f p.1 < f p.2) : cyc n ss = false := by
  cases hc : cyc n ss
  · rfl
  · simp only [cyc, List.any_eq_true] at hc
    obtain ⟨i, _, hi⟩ := hc
    have := tab_strict h hi
    omega

/-- There are so many names after each other, the last of which is this one. -/
inductive ChTo (P : List (Nat × Nat)) : Nat → Nat → Prop
  | one (x : Nat) : ChTo P x 1
  | step {a b m : Nat} : ChTo P a m → (a, b) ∈ P → ChTo P b (m + 1)

theorem ChTo.pos {P : List (Nat × Nat)} {x m : Nat} (h : ChTo P x m) : 1 ≤ m := by cases h <;> omega

theorem bf_lt {n : Nat} {ss : List (List Nat)} (hc : cyc n ss = false) {x : Nat} (hx : x < n) : ((List.range n).filter fun i => tab n ss i x).length < n := by
  have := filter_lt (p := fun i => tab n ss i x) (q := fun _ => true) (l := List.range n) (fun _ _ _ => rfl) (List.mem_range.2 hx) rfl (cyc_false hc hx)
  rw [List.filter_eq_self.2 (fun _ _ => rfl), List.length_range] at this
  exact this

theorem chTo_bf {n : Nat} {ss : List (List Nat)} (hv : Valid n ss) (hc : cyc n ss = false) {x m : Nat} (h : ChTo (pairs ss) x m) : m ≤ ((List.range n).filter fun i => tab n ss i x).length + 1 := by
  induction h with
  | one x => omega
  | step h1 h2 ih =>
    have hE := pairs_edge h2
    dsimp only at hE
    have := before_lt hv hc (edge_lt hv hE).1 (edge_tab (n := n) hE)
    omega

theorem chTo_le {n : Nat} {ss : List (List Nat)} (hv : Valid n ss) (hc : cyc n ss = false) {x m : Nat} (hx : x < n) (h : ChTo (pairs ss) x m) : m ≤ n := by
  have := chTo_bf hv hc h
  have := bf_lt hc hx
  omega

theorem getD_set {l : List Nat} {i j v : Nat} (hi : i < l.length) : (l.set i v).getD j 0 = if j = i then v else l.getD j 0 := by
  simp only [List.getD, List.getElem?_set]
  by_cases h : i = j
  · subst h; simp [hi]
  · rw [if_neg h, if_neg (fun e => h e.symm)]

structure St (P : List (Nat × Nat)) (n : Nat) (l : List Nat) : Prop where
  len : l.length = n
  ch : ∀ x, x < n → ChTo P x (l.getD x 0)

theorem rx_facts {P : List (Nat × Nat)} {n : Nat} {l : List Nat} {c : Bool} {p : Nat × Nat} (hs : St P n l) (hp : p ∈ P) (h1 : p.1 < n) (h2 : p.2 < n) :
    St P n (rx (l, c) p).1 ∧ (∀ x, l.getD x 0 ≤ (rx (l, c) p).1.getD x 0) ∧ l.getD p.1 0 < (rx (l, c) p).1.getD p.2 0 ∧ ((rx (l, c) p).2 = false → c = false ∧ (rx (l, c) p).1 = l) := by
  have hrx : rx (l, c) p = if l.getD p.2 0 ≤ l.getD p.1 0 then (l.set p.2 (l.getD p.1 0 + 1), true) else (l, c) := rfl
  rw [hrx]
  split
  · rename_i hle
    dsimp only
    have hl : p.2 < l.length := by rw [hs.len]; exact h2
    refine ⟨⟨by rw [List.length_set]; exact hs.len, fun x hx => ?_⟩, fun x => ?_, ?_, fun h => by cases h⟩
    · rw [getD_set hl]
      split
      · rename_i e; subst e; exact .step (hs.ch _ h1) hp
      · exact hs.ch x hx
    · rw [getD_set hl]
      split
      · rename_i e; subst e; exact Nat.le_succ_of_le hle
      · exact Nat.le_refl _
    · rw [getD_set hl, if_pos rfl]; exact Nat.lt_succ_self _
  · rename_i hle
    exact ⟨hs, fun x => Nat.le_refl _, Nat.lt_of_not_le hle, fun h => ⟨h, rfl⟩⟩

theorem fold_facts {P : List (Nat × Nat)} {n : Nat} : ∀ (Q : List (Nat × Nat)) (l : List Nat) (c : Bool), (∀ p ∈ Q, p ∈ P ∧ p.1 < n ∧ p.2 < n) → St P n l →
    St P n (Q.foldl rx (l, c)).1 ∧ (∀ x, l.getD x 0 ≤ (Q.foldl rx (l, c)).1.getD x 0) ∧ (∀ p ∈ Q, l.getD p.1 0 < (Q.foldl rx (l, c)).1.getD p.2 0) ∧ ((Q.foldl rx (l, c)).2 = false → c = false ∧ (Q.foldl rx (l, c)).1 = l) := by
  intro Q
  induction Q with
  | nil => intro l c _ hs; exact ⟨hs, fun x => Nat.le_refl _, fun p hp => (by cases hp), fun h => ⟨h, rfl⟩⟩
  | cons q Q ih =>
    intro l c hQ hs
    obtain ⟨q1, q2, q3⟩ := hQ q (by simp)
    obtain ⟨a1, a2, a3, a4⟩ := rx_facts (c := c) hs q1 q2 q3
    rw [List.foldl_cons]
    rcases hr : rx (l, c) q with ⟨l', c'⟩
    rw [hr] at a1 a2 a3 a4
    obtain ⟨b1, b2, b3, b4⟩ := ih l' c' (fun p hp => hQ p (by simp [hp])) a1
    refine ⟨b1, fun x => Nat.le_trans (a2 x) (b2 x), fun p hp => ?_, fun h => ?_⟩
    · rcases List.mem_cons.1 hp with rfl | hp
      · exact Nat.lt_of_lt_of_le a3 (b2 _)
      · exact Nat.lt_of_le_of_lt (a2 _) (b3 p hp)
    · obtain ⟨h1, h2⟩ := b4 h
      obtain ⟨h3, h4⟩ := a4 h1
      exact ⟨h3, h2.trans h4⟩

theorem fold_still (Q : List (Nat × Nat)) (l : List Nat) (c : Bool) (h : ∀ p ∈ Q, l.getD p.1 0 < l.getD p.2 0) : Q.foldl rx (l, c) = (l, c) := by
  induction Q with
  | nil => rfl
  | cons q Q ih =>
    have : rx (l, c) q = (l, c) := by
      unfold rx
      rw [if_neg]
      have := h q (by simp)
      simp only; omega
    rw [List.foldl_cons, this]
    exact ih fun p hp => h p (by simp [hp])

theorem pairs_lt {n : Nat} {ss : List (List Nat)} (hv : Valid n ss) : ∀ p ∈ pairs ss, p ∈ pairs ss ∧ p.1 < n ∧ p.2 < n := fun p hp => ⟨hp, edge_lt hv (pairs_edge hp)⟩

theorem levT_strict {n : Nat} {ss : List (List Nat)} (hv : Valid n ss) : ∀ (k : Nat) (l l' : List Nat), St (pairs ss) n l → levT ss k l = some l' → St (pairs ss) n l' ∧ ∀ p ∈ pairs ss, l'.getD p.1 0 < l'.getD p.2 0 := by
  intro k
  induction k with
  | zero => intro l l' _ h; cases h
  | succ k ih =>
    intro l l' hs h
    obtain ⟨a1, a2, a3, a4⟩ := fold_facts (pairs ss) l false (pairs_lt hv) hs
    rw [levT] at h
    by_cases hc : (turn ss l).2 = true
    · rw [if_pos hc] at h
      exact ih _ _ a1 h
    · rw [if_neg hc] at h
      injection h with h
      subst h
      refine ⟨a1, fun p hp => ?_⟩
      have := a3 p hp
      have e := (a4 (by simpa [turn] using hc)).2
      simp only [turn]
      rw [e] at this ⊢
      exact this

theorem St.start (P : List (Nat × Nat)) (n : Nat) : St P n (List.replicate n 1) :=
  ⟨List.length_replicate, fun x hx => by
    have : (List.replicate n 1).getD x 0 = 1 := by simp [List.getD, hx]
    rw [this]; exact .one x⟩

theorem levT_some {n : Nat} {ss : List (List Nat)} (hv : Valid n ss) (hc : cyc n ss = false) : ∀ (k t : Nat) (l : List Nat), k + t = n → St (pairs ss) n l → (∀ x m, x < n → m ≤ t + 1 → ChTo (pairs ss) x m → m ≤ l.getD x 0) → ∃ l', levT ss (k + 1) l = some l' := by
  intro k
  induction k with
  | zero =>
    intro t l ht hs hI
    have : turn ss l = (l, false) := fold_still _ _ _ fun p hp => by
      obtain ⟨_, h1, h2⟩ := pairs_lt hv p hp
      have h3 := hs.ch _ h1
      have h4 := chTo_le hv hc h1 h3
      have := hI p.2 (l.getD p.1 0 + 1) h2 (by omega) (.step h3 hp)
      omega
    exact ⟨l, by rw [levT, this]; rfl⟩
  | succ k ih =>
    intro t l ht hs hI
    obtain ⟨a1, a2, a3, a4⟩ := fold_facts (pairs ss) l false (pairs_lt hv) hs
    rw [levT]
    by_cases h : (turn ss l).2 = true
    · rw [if_pos h]
      refine ih (t + 1) _ (by omega) a1 fun x m hx hm hch => ?_
      cases hch with
      | one => exact (a1.ch x hx).pos
      | step h1 h2 =>
        have := hI _ _ (pairs_lt hv _ h2).2.1 (by omega) h1
        exact Nat.lt_of_le_of_lt this (a3 _ h2)
    · rw [if_neg h]; exact ⟨_, rfl⟩

theorem levels_some {n : Nat} {ss : List (List Nat)} (hv : Valid n ss) (hc : cyc n ss = false) :
    ∃ l, levels n ss = some l ∧ l.length = n ∧ (∀ x, x < n → ChTo (pairs ss) x (l.getD x 0)) ∧ ∀ p ∈ pairs ss, l.getD p.1 0 < l.getD p.2 0 := by
  obtain ⟨l, hl⟩ := levT_some hv hc n 0 (List.replicate n 1) (by omega) (St.start _ _) fun x m hx hm _ => by
    have : (List.replicate n 1).getD x 0 = 1 := by simp [List.getD, hx]
    rw [this]; omega
  obtain ⟨h1, h2⟩ := levT_strict hv _ _ _ (St.start _ _) hl
  exact ⟨l, hl, h1.len, h1.ch, h2⟩

theorem levels_none {n : Nat} {ss : List (List Nat)} (hv : Valid n ss) (hc : cyc n ss = true) : levels n ss = none := by
  cases h : levels n ss with
  | none => rfl
  | some l =>
    have := (levT_strict hv _ _ _ (St.start _ _) h).2
    rw [cyc_of_strict (f := fun x => l.getD x 0) this] at hc
    cases hc

end Go.StripM
/- Plain mathematics: all lists of spots, the shorter ones first. No condition; nothing of the program. -/
namespace Go.StripM

/-- The first number that may follow in a list. -/
def fromOf (l : List Nat) : Nat := match l.getLast? with | some x => x + 1 | none => 0
/-- A list with one number more, below k. -/
def extTo (l : List Nat) (k : Nat) : List (List Nat) := ((List.range k).filter fun x => decide (fromOf l ≤ x)).map fun x => l ++ [x]
def outQ (m : Nat) : Nat → List (List Nat)
  | 0 => [[]]
  | i + 1 => outQ m i ++ extTo ((outQ m i).getD i []) m
def listsOf (m : Nat) : List (List Nat) := outQ m (2 ^ m)

theorem extTo_succ (l : List Nat) (k : Nat) (h : fromOf l ≤ k) : extTo l (k + 1) = extTo l k ++ [l ++ [k]] := by
  unfold extTo
  rw [List.range_succ, List.filter_append, List.map_append]
  have : [k].filter (fun x => decide (fromOf l ≤ x)) = [k] := by
    rw [List.filter_cons_of_pos (by simpa using h)]; rfl
  rw [this]; rfl
theorem extTo_from (l : List Nat) (k : Nat) (h : k ≤ fromOf l) : extTo l k = [] := by
  unfold extTo
  rw [List.map_eq_nil_iff, List.filter_eq_nil_iff]
  intro x hx
  have := List.mem_range.1 hx
  simp; omega

theorem outQ_facts : ∀ m, m ≤ 6 → ∀ i, i ≤ 2 ^ m → (outQ m i).length ≤ 64 ∧ (i < 2 ^ m → i < (outQ m i).length) ∧ (i = 2 ^ m → (outQ m i).length = i) ∧ ∀ l ∈ outQ m i, l.length ≤ 6 ∧ fromOf l ≤ m ∧ ∀ x ∈ l, x < m := by
  have h : ∀ m : Fin 7, ∀ i : Fin 65, i.1 ≤ 2 ^ m.1 → (outQ m i).length ≤ 64 ∧ (i.1 < 2 ^ m.1 → i.1 < (outQ m i).length) ∧ (i.1 = 2 ^ m.1 → (outQ m i).length = i.1) ∧ (outQ m i).all (fun l => decide (l.length ≤ 6 ∧ fromOf l ≤ m.1) && l.all fun x => decide (x < m.1)) = true := by decide +kernel
  intro m hm i hi
  have h64 : i < 65 := by
    have : 2 ^ m ≤ 2 ^ 6 := Nat.pow_le_pow_right (by decide) hm
    omega
  obtain ⟨h1, h2, h3, h4⟩ := h ⟨m, by omega⟩ ⟨i, h64⟩ hi
  refine ⟨h1, h2, h3, fun l hl => ?_⟩
  rw [List.all_eq_true] at h4
  have := h4 l hl
  simp only [Bool.and_eq_true, decide_eq_true_eq, List.all_eq_true] at this
  exact ⟨this.1.1, this.1.2, this.2⟩

end Go.StripM
/- Plain mathematics: all lists of spots by their lengths; the first one, and all of the shortest ones, with some property; lexicographic order. No condition; nothing of the program. -/
namespace Go.StripM

/-- All lists of d numbers more, in increasing order, that begin with a list. -/
def chs (m : Nat) : Nat → List Nat → List (List Nat)
  | 0, now => [now]
  | d + 1, now => ((List.range m).filter fun t => decide (fromOf now ≤ t)).flatMap fun t => chs m d (now ++ [t])

theorem listsOf_chs {m : Nat} (hm : m ≤ 6) : listsOf m = (List.range (m + 1)).flatMap fun d => chs m d [] := by
  have h : ∀ m : Fin 7, listsOf m.1 = (List.range (m.1 + 1)).flatMap fun d => chs m.1 d [] := by decide +kernel
  exact h ⟨m, by omega⟩

theorem chs_len {m : Nat} : ∀ {d : Nat} {now l : List Nat}, l ∈ chs m d now → l.length = now.length + d := by
  intro d
  induction d with
  | zero => intro now l h; simp only [chs, List.mem_singleton] at h; subst h; rfl
  | succ d ih =>
    intro now l h
    simp only [chs, List.mem_flatMap] at h
    obtain ⟨t, _, h⟩ := h
    have := ih h
    rw [this, List.length_append, List.length_singleton]; omega

/-- The first of all lists, the shorter ones first. -/
theorem find_chs {m : Nat} (hm : m ≤ 6) (p : List Nat → Bool) : (listsOf m).find? p = (List.range (m + 1)).findSome? fun d => (chs m d []).find? p := by
  rw [listsOf_chs hm, List.find?_flatMap]

/-- All of the shortest ones. -/
def least (p : List Nat → Bool) : List (List (List Nat)) → List (List Nat)
  | [] => []
  | g :: gs => if g.filter p = [] then least p gs else g.filter p

def wr (p : List Nat → Bool) : List (List Nat) → List (List Nat) → List (List Nat)
  | acc, [] => acc
  | acc, l :: L => if acc ≠ [] ∧ (acc.headD []).length < l.length then acc else if p l then wr p (acc ++ [l]) L else wr p acc L

theorem wr_stop {p : List Nat → Bool} {acc : List (List Nat)} {L : List (List Nat)} (ha : acc ≠ []) (h : ∀ l ∈ L, (acc.headD []).length < l.length) : wr p acc L = acc := by
  cases L with
  | nil => rfl
  | cons l L => rw [wr, if_pos ⟨ha, h l (by simp)⟩]

theorem wr_group {p : List Nat → Bool} {d : Nat} : ∀ (G acc L : List (List Nat)), (∀ l ∈ G, l.length = d) → (∀ l ∈ acc, l.length = d) → wr p acc (G ++ L) = wr p (acc ++ G.filter p) L := by
  intro G
  induction G with
  | nil => intro acc L _ _; simp
  | cons g G ih =>
    intro acc L hG ha
    have hg := hG g (by simp)
    have hno : ¬ (acc ≠ [] ∧ (acc.headD []).length < g.length) := by
      rintro ⟨h1, h2⟩
      cases acc with
      | nil => exact h1 rfl
      | cons a acc => have := ha a (by simp); simp only [List.headD_cons] at h2; omega
    rw [List.cons_append, wr, if_neg hno]
    cases hp : p g
    · rw [if_neg (by simp), ih acc L (fun l hl => hG l (by simp [hl])) ha, List.filter_cons_of_neg (by simp [hp])]
    · rw [if_pos rfl, ih (acc ++ [g]) L (fun l hl => hG l (by simp [hl])) (fun l hl => by
        rcases List.mem_append.1 hl with h | h
        · exact ha l h
        · rw [List.mem_singleton.1 h]; exact hg), List.filter_cons_of_pos hp]
      simp

theorem wr_least {p : List Nat → Bool} (f : Nat → List (List Nat)) (hf : ∀ d, ∀ l ∈ f d, l.length = d) : ∀ (k a : Nat), wr p [] (((List.range' a k).map f).flatten) = least p ((List.range' a k).map f) := by
  intro k
  induction k with
  | zero => intro a; rfl
  | succ k ih =>
    intro a
    rw [List.range'_succ, List.map_cons, List.flatten_cons, wr_group (d := a) _ _ _ (hf a) (fun l h => by cases h), List.nil_append, least]
    by_cases h : (f a).filter p = []
    · rw [if_pos h, h]; exact ih (a + 1)
    · rw [if_neg h]
      refine wr_stop h fun l hl => ?_
      obtain ⟨g, hg, hl⟩ := List.mem_flatten.1 hl
      obtain ⟨d, hd, rfl⟩ := List.mem_map.1 hg
      obtain ⟨hd, _⟩ := List.mem_range'_1.1 hd
      have h1 := hf d l hl
      cases hq : (f a).filter p with
      | nil => exact absurd hq h
      | cons x xs =>
        have hx : x ∈ (f a).filter p := by rw [hq]; simp
        have := hf a x (List.mem_filter.1 hx).1
        simp only [List.headD_cons]; omega

theorem wr_chs {m : Nat} (hm : m ≤ 6) (p : List Nat → Bool) : wr p [] (listsOf m) = least p ((List.range (m + 1)).map fun d => chs m d []) := by
  rw [listsOf_chs hm, List.flatMap_def, List.range_eq_range']
  exact wr_least _ (fun d l hl => by have := chs_len hl; simpa using this) _ _

/-! ### rising lists -/

/-- A list rises, from a number on, and has only numbers below m. -/
def risingF (m : Nat) : Nat → List Nat → Prop
  | _, [] => True
  | a, x :: l => a ≤ x ∧ x < m ∧ risingF m (x + 1) l

theorem fromOf_snoc' (l : List Nat) (x : Nat) : fromOf (l ++ [x]) = x + 1 := by simp [fromOf]

theorem mem_chs {m : Nat} : ∀ {d : Nat} {now l : List Nat}, l ∈ chs m d now ↔ ∃ r, l = now ++ r ∧ r.length = d ∧ risingF m (fromOf now) r := by
  intro d
  induction d with
  | zero =>
    intro now l
    simp only [chs, List.mem_singleton]
    constructor
    · rintro rfl; exact ⟨[], by simp, rfl, trivial⟩
    · rintro ⟨r, rfl, h, _⟩; rw [List.eq_nil_of_length_eq_zero h]; simp
  | succ d ih =>
    intro now l
    simp only [chs, List.mem_flatMap, List.mem_filter, List.mem_range, decide_eq_true_eq]
    constructor
    · rintro ⟨t, ⟨h1, h2⟩, h⟩
      obtain ⟨r, rfl, h3, h4⟩ := ih.1 h
      rw [fromOf_snoc'] at h4
      exact ⟨t :: r, by simp, by simp [h3], h2, h1, h4⟩
    · rintro ⟨r, rfl, h1, h2⟩
      cases r with
      | nil => simp at h1
      | cons t r => exact ⟨t, ⟨h2.2.1, h2.1⟩, ih.2 ⟨r, by simp, by simpa using h1, by rw [fromOf_snoc']; exact h2.2.2⟩⟩

theorem risingF_le {m : Nat} : ∀ {l : List Nat} {a : Nat}, risingF m a l → a ≤ m → l.length + a ≤ m := by
  intro l
  induction l with
  | nil => intro a _ h; simpa using h
  | cons x l ih =>
    intro a h _
    obtain ⟨h1, h2, h3⟩ := h
    have := ih h3 (by omega)
    rw [List.length_cons]; omega

theorem mem_listsOf {m : Nat} (hm : m ≤ 6) {l : List Nat} : l ∈ listsOf m ↔ risingF m 0 l := by
  rw [listsOf_chs hm]
  simp only [List.mem_flatMap, List.mem_range, mem_chs]
  constructor
  · rintro ⟨d, _, r, rfl, _, h⟩; exact h
  · intro h
    have := risingF_le h (Nat.zero_le _)
    exact ⟨l.length, by omega, l, by simp, rfl, h⟩

/-! ### lexicographic order -/

def lexB : List Nat → List Nat → Bool
  | x :: a, y :: b => decide (x < y) || (x == y && lexB a b)
  | [], _ :: _ => true
  | _, [] => false

theorem lexB_pre (c : List Nat) {a b : List Nat} : lexB (c ++ a) (c ++ b) = lexB a b := by
  induction c with
  | nil => rfl
  | cons x c ih => simp [lexB, ih]

theorem lexB_irrefl (a : List Nat) : lexB a a = false := by
  induction a with
  | nil => rfl
  | cons x a ih => simp [lexB, ih]

theorem lexB_trans : ∀ {a b c : List Nat}, lexB a b = true → lexB b c = true → lexB a c = true := by
  intro a
  induction a with
  | nil =>
    intro b c h1 h2
    cases b with
    | nil => simp [lexB] at h1
    | cons y b => cases c with
      | nil => simp [lexB] at h2
      | cons z c => rfl
  | cons x a ih =>
    intro b c h1 h2
    cases b with
    | nil => simp [lexB] at h1
    | cons y b => cases c with
      | nil => simp [lexB] at h2
      | cons z c =>
        simp only [lexB, Bool.or_eq_true, decide_eq_true_eq, Bool.and_eq_true, beq_iff_eq] at *
        rcases h1 with h1 | ⟨rfl, h1⟩
        · rcases h2 with h2 | ⟨rfl, h2⟩
          · exact .inl (by omega)
          · exact .inl h1
        · rcases h2 with h2 | ⟨rfl, h2⟩
          · exact .inl h2
          · exact .inr ⟨rfl, ih h1 h2⟩

theorem lexB_asymm {a b : List Nat} (h : lexB a b = true) : lexB b a = false := by
  cases h2 : lexB b a
  · rfl
  · have := lexB_trans h h2
    rw [lexB_irrefl] at this; cases this

theorem range_lt (n : Nat) : (List.range n).Pairwise (· < ·) := List.pairwise_lt_range

theorem chs_pre {m d : Nat} {now l : List Nat} (h : l ∈ chs m d now) : ∃ r, l = now ++ r := by
  obtain ⟨r, h, _⟩ := mem_chs.1 h; exact ⟨r, h⟩

theorem chs_sorted (m : Nat) : ∀ (d : Nat) (now : List Nat), (chs m d now).Pairwise fun a b => lexB a b = true := by
  intro d
  induction d with
  | zero => intro now; simp [chs]
  | succ d ih =>
    intro now
    simp only [chs, List.pairwise_flatMap]
    refine ⟨fun t _ => ih _, ((range_lt m).filter _).imp fun {a b} hab x hx y hy => ?_⟩
    obtain ⟨r, rfl⟩ := chs_pre hx
    obtain ⟨s, rfl⟩ := chs_pre hy
    rw [List.append_assoc, List.append_assoc, lexB_pre]
    simp [lexB, hab]

theorem tails_sorted (n : Nat) : ∀ (k : Nat) (now : List Nat), (tails n k now).Pairwise fun a b => lexB a b = true := by
  intro k
  induction k with
  | zero => intro now; simp [tails]
  | succ k ih =>
    intro now
    simp only [tails, List.pairwise_flatMap]
    refine ⟨fun t _ => ?_, (range_lt n).imp fun {a b} hab x hx y hy => ?_⟩
    · split
      · exact .nil
      · exact List.pairwise_map.2 ((ih _).imp fun {a b} h => by simpa [lexB] using h)
    · split at hx
      · cases hx
      · split at hy
        · cases hy
        · obtain ⟨r, _, rfl⟩ := List.mem_map.1 hx
          obtain ⟨s, _, rfl⟩ := List.mem_map.1 hy
          simp [lexB, hab]

theorem all_sorted (n : Nat) (ss : List (List Nat)) : (all n ss).Pairwise fun a b => lexB a b = true := by
  rw [all, ords_nil]; exact (tails_sorted n n []).filter _

/-- What comes first in a sorted list. -/
theorem head_least {l : List (List Nat)} {x o : List Nat} (hs : l.Pairwise fun a b => lexB a b = true) (hx : l.head? = some x) (ho : o ∈ l) : o = x ∨ lexB x o = true := by
  cases l with
  | nil => cases hx
  | cons a l =>
    simp only [List.head?_cons, Option.some.injEq] at hx
    subst hx
    rcases List.mem_cons.1 ho with h | h
    · exact .inl h
    · exact .inr ((List.pairwise_cons.1 hs).1 o h)

/-- Shorter, or as long and lexicographically before. -/
def lenLex (a b : List Nat) : Bool := decide (a.length < b.length) || (decide (a.length = b.length) && lexB a b)

theorem listsOf_sorted {m : Nat} (hm : m ≤ 6) : (listsOf m).Pairwise fun a b => lenLex a b = true := by
  rw [listsOf_chs hm, List.pairwise_flatMap]
  refine ⟨fun d _ => (chs_sorted m d []).imp_of_mem fun {a b} ha hb h => ?_, (range_lt (m + 1)).imp fun {d e} hde x hx y hy => ?_⟩
  · have h1 := chs_len ha
    have h2 := chs_len hb
    simp [lenLex, h, h1, h2]
  · have h1 := chs_len hx
    have h2 := chs_len hy
    simp only [List.length_nil, Nat.zero_add] at h1 h2
    simp only [lenLex, Bool.or_eq_true, decide_eq_true_eq]
    exact .inl (by omega)

/-- The first list with a property: any other one with it does not come before. -/
theorem find_least {p : List Nat → Bool} : ∀ {L : List (List Nat)} {x o : List Nat}, (L.Pairwise fun a b => lenLex a b = true) → L.find? p = some x → o ∈ L → p o = true → o = x ∨ lenLex x o = true := by
  intro L
  induction L with
  | nil => intro x o _ h; cases h
  | cons a L ih =>
    intro x o hs hx ho hp
    rw [List.find?_cons] at hx
    obtain ⟨h1, h2⟩ := List.pairwise_cons.1 hs
    cases ha : p a
    · rw [ha] at hx
      rcases List.mem_cons.1 ho with rfl | ho
      · rw [ha] at hp; cases hp
      · exact ih h2 hx ho hp
    · rw [ha] at hx
      simp only [Option.some.injEq] at hx
      subst hx
      rcases List.mem_cons.1 ho with h | ho
      · exact .inl h
      · exact .inr (h1 o ho)

end Go.StripM
