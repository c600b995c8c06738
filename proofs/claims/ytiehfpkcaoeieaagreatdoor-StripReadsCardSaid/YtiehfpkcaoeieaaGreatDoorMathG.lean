/- What the laws say of orders, in plain mathematics: the first order, words, places, the next names, owners. No condition. -/
import Derived.Test.YtiehfpkcaoeieaaGreatDoorM14
set_option linter.unusedVariables false
set_option linter.unusedSimpArgs false
namespace Go.Proofs.YtiehfpkcaoeieaaGreatDoor
open Go.StripM

theorem first_facts {n : Nat} {ss : List (List Nat)} {f : List Nat} (hf : (all n ss).head? = some f) : isOrd n f ∧ okOrd ss f = true :=
  mem_all.1 (List.mem_of_head? hf)
theorem rival {n : Nat} {ss : List (List Nat)} {f o : List Nat} (hv : Valid n ss) (hf : (all n ss).head? = some f) (ho : isOrd n o) (hk : okOrd ss o = true) : lexB o f = false ∧ (o = f ∨ 1 < cnt n ss) := by
  have hm := mem_all.2 ⟨ho, hk⟩
  rcases head_least (all_sorted n ss) hf hm with rfl | hl
  · exact ⟨lexB_irrefl _, .inl rfl⟩
  · refine ⟨lexB_asymm hl, .inr ?_⟩
    rw [cnt_all hv]
    cases h : all n ss with
    | nil => rw [h] at hm; cases hm
    | cons x r =>
      rw [h] at hm hf
      simp only [List.head?_cons, Option.some.injEq] at hf
      subst hf
      rcases List.mem_cons.1 hm with rfl | hr
      · rw [lexB_irrefl] at hl; cases hl
      · have := List.length_pos_of_mem hr
        simp only [List.length_cons]
        omega

theorem filter_not_len {α : Type} (p : α → Bool) (l : List α) : (l.filter p).length + (l.filter fun x => !p x).length = l.length := by
  induction l with
  | nil => rfl
  | cons x l ih => cases h : p x <;> simp [List.filter_cons, h] <;> omega
theorem valid_snoc {n : Nat} {ss : List (List Nat)} {s : List Nat} (hv : Valid n ss) (h : namesOk n s) : Valid n (ss ++ [s]) := by
  intro t ht
  rcases List.mem_append.1 ht with ht | ht
  · exact hv t ht
  · simp only [List.mem_singleton] at ht; subst ht; exact h
theorem cnt_with {n : Nat} {ss : List (List Nat)} {s : List Nat} (hv : Valid n ss) (h : namesOk n s) : cnt n (ss ++ [s]) = ((all n ss).filter fun o => agrees o s).length := by
  rw [cnt_all (valid_snoc hv h), all, all, List.filter_filter]
  congr 1
  apply List.filter_congr
  intro o _
  simp [okOrd, Bool.and_comm]
theorem idx_ne {n : Nat} {o : List Nat} {a b : Nat} (ho : isOrd n o) (ha : a < n) (hne : a ≠ b) : o.idxOf a ≠ o.idxOf b := fun e => hne (idxOf_inj (ord_mem ho ha) e)
theorem agrees_pair (o : List Nat) (a b : Nat) : agrees o [a, b] = decide (o.idxOf a ≤ o.idxOf b) := by simp [agrees]
theorem cnt_two {n : Nat} {ss : List (List Nat)} {a b : Nat} (hv : Valid n ss) (ha : a < n) (hb : b < n) (hne : a ≠ b) : cnt n (ss ++ [[a, b]]) + cnt n (ss ++ [[b, a]]) = cnt n ss := by
  rw [cnt_with hv (pair_names ha hb hne), cnt_with hv (pair_names hb ha (Ne.symm hne)), cnt_all hv]
  have : (all n ss).filter (fun o => agrees o [b, a]) = (all n ss).filter (fun o => !agrees o [a, b]) := by
    apply List.filter_congr
    intro o ho
    have := idx_ne (mem_all.1 ho).1 ha hne
    rw [agrees_pair, agrees_pair, ← decide_not]
    exact decide_eq_decide.2 (by omega)
  rw [this]
  exact filter_not_len _ _

theorem word_sure {x c : Nat} (h0 : c ≠ 0) : wordI x c = 3 ↔ x = c := by
  unfold wordI; split
  · constructor
    · intro h; cases h
    · intro h; omega
  · split
    · exact ⟨fun _ => by assumption, fun _ => rfl⟩
    · exact ⟨fun h => (by cases h), fun h => absurd h (by assumption)⟩
theorem word_never (x c : Nat) : wordI x c = 1 ↔ x = 0 := by
  unfold wordI; split
  · exact ⟨fun _ => by assumption, fun _ => rfl⟩
  · split
    · exact ⟨fun h => (by cases h), fun h => absurd h (by assumption)⟩
    · exact ⟨fun h => (by cases h), fun h => absurd h (by assumption)⟩
theorem word_in (x c : Nat) : 1 ≤ wordI x c ∧ wordI x c ≤ 3 := by unfold wordI; split <;> (try split) <;> omega
theorem word_two {x y c : Nat} (h : x + y = c) (h0 : c ≠ 0) : wordI x c + wordI y c = 4 := by
  unfold wordI; split <;> (try split) <;> (try split) <;> (try split) <;> omega
theorem word_may {x y c : Nat} (h : x + y = c) (hx : x ≠ 0) (hy : y ≠ 0) : wordI x c = 2 := by
  unfold wordI; rw [if_neg hx, if_neg (by omega)]

theorem sure_all {n : Nat} {ss : List (List Nat)} {a b : Nat} (hv : Valid n ss) (ha : a < n) (hb : b < n) (hne : a ≠ b) (h : cnt n (ss ++ [[a, b]]) = cnt n ss) {o : List Nat} (ho : o ∈ all n ss) : o.idxOf a < o.idxOf b := by
  rw [cnt_with hv (pair_names ha hb hne), cnt_all hv] at h
  have h1 := (List.length_filter_eq_length_iff.1 h) o ho
  rw [agrees_pair] at h1
  have h2 := idx_ne (mem_all.1 ho).1 ha hne
  have := of_decide_eq_true h1
  omega
theorem place_in {n : Nat} {ss : List (List Nat)} {x : Nat} (hv : Valid n ss) (hx : x < n) {o : List Nat} (ho : o ∈ all n ss) : befores (tab n ss) x n ≤ o.idxOf x ∧ o.idxOf x + 1 + behinds (tab n ss) x n ≤ n :=
  ⟨place_low hv ho hx, place_high hv ho hx⟩
theorem sure_places {n : Nat} {ss : List (List Nat)} {a b : Nat} (hv : Valid n ss) (hc : cyc n ss = false) (ha : a < n) (hb : b < n) (hne : a ≠ b) (h : cnt n (ss ++ [[a, b]]) = cnt n ss) :
    befores (tab n ss) a n < befores (tab n ss) b n ∧ behinds (tab n ss) b n < behinds (tab n ss) a n := by
  obtain ⟨o, ho, he⟩ := place_early hv hc hb
  obtain ⟨q, hq, hl⟩ := place_late hv hc ha
  have h1 := sure_all hv ha hb hne h ho
  have h2 := sure_all hv ha hb hne h hq
  have h3 := (place_in hv ha ho).1
  have h4 := (place_in hv hb hq).2
  unfold befores behinds at *
  omega
/-- The least place is not behind the greatest one. -/
theorem place_span {n : Nat} {ss : List (List Nat)} {x : Nat} (hv : Valid n ss) (hc : cyc n ss = false) (hx : x < n) : befores (tab n ss) x n + behinds (tab n ss) x n + 1 ≤ n := by
  obtain ⟨o, ho⟩ := all_some hv hc
  have := place_in hv hx ho
  omega

/-! ### the best of some triples -/

def tLess (x y : Nat × Nat × Nat) : Prop := x.1 < y.1 ∨ x.1 = y.1 ∧ x.2.1 < y.2.1
theorem tLess_trans {x y z : Nat × Nat × Nat} (h : tLess x y) (k : tLess y z) : tLess x z := by unfold tLess at *; omega
theorem bestT_cons (t x : Nat × Nat × Nat) (ts : List (Nat × Nat × Nat)) : bestT t (x :: ts) = bestT (if x.2.2 < t.2.2 then x else t) ts := rfl
theorem bestT_mem : ∀ (ts : List (Nat × Nat × Nat)) (t : Nat × Nat × Nat), bestT t ts ∈ t :: ts
  | [], t => by simp [bestT]
  | x :: ts, t => by
    rw [bestT_cons]
    have := bestT_mem ts (if x.2.2 < t.2.2 then x else t)
    rcases List.mem_cons.1 this with h | h
    · rw [h]; split <;> simp
    · exact List.mem_cons_of_mem _ (List.mem_cons_of_mem _ h)
theorem bestT_le : ∀ (ts : List (Nat × Nat × Nat)) (t y : Nat × Nat × Nat), y ∈ t :: ts → (bestT t ts).2.2 ≤ y.2.2
  | [], t, y, h => by simp only [List.mem_singleton] at h; subst h; exact Nat.le_refl _
  | x :: ts, t, y, h => by
    rw [bestT_cons]
    have h0 := bestT_le ts (if x.2.2 < t.2.2 then x else t) _ List.mem_cons_self
    rcases List.mem_cons.1 h with rfl | h
    · refine Nat.le_trans h0 ?_; split <;> omega
    · rcases List.mem_cons.1 h with rfl | h
      · refine Nat.le_trans h0 ?_; split <;> omega
      · exact bestT_le ts _ y (List.mem_cons_of_mem _ h)
theorem bestT_first : ∀ (ts : List (Nat × Nat × Nat)) (t y : Nat × Nat × Nat), (t :: ts).Pairwise tLess → y ∈ t :: ts → y.2.2 = (bestT t ts).2.2 → y = bestT t ts ∨ tLess (bestT t ts) y
  | [], t, y, _, h, _ => by simp only [List.mem_singleton] at h; subst h; exact .inl rfl
  | x :: ts, t, y, hp, h, he => by
    rw [bestT_cons] at he ⊢
    have hp1 := List.pairwise_cons.1 hp
    have hp2 := List.pairwise_cons.1 hp1.2
    have h0 := bestT_le ts (if x.2.2 < t.2.2 then x else t) _ List.mem_cons_self
    by_cases hx : x.2.2 < t.2.2
    · rw [if_pos hx] at he h0 ⊢
      rcases List.mem_cons.1 h with rfl | h
      · omega
      · exact bestT_first ts x y hp1.2 h he
    · rw [if_neg hx] at he h0 ⊢
      have hpt : (t :: ts).Pairwise tLess := List.pairwise_cons.2 ⟨fun z hz => hp1.1 z (List.mem_cons_of_mem _ hz), hp2.2⟩
      rcases List.mem_cons.1 h with rfl | h
      · exact bestT_first ts y y hpt List.mem_cons_self he
      · rcases List.mem_cons.1 h with rfl | h
        · have htx := hp1.1 y List.mem_cons_self
          rcases bestT_first ts t t hpt List.mem_cons_self (by omega) with hb | hb
          · rw [← hb]; exact .inr htx
          · exact .inr (tLess_trans hb htx)
        · exact bestT_first ts t y hpt (List.mem_cons_of_mem _ h) he

theorem mem_allT {n : Nat} {ss : List (List Nat)} {x : Nat × Nat × Nat} : x ∈ allT n ss n ↔ ∃ a c, a < c ∧ c < n ∧ x = trip n ss a c := by
  simp only [allT, rowT, List.mem_flatMap, List.mem_range, List.mem_map, List.mem_filter, decide_eq_true_eq]
  constructor
  · rintro ⟨a, _, c, ⟨hc, hac⟩, rfl⟩; exact ⟨a, c, hac, hc, rfl⟩
  · rintro ⟨a, c, hac, hc, rfl⟩; exact ⟨a, by omega, c, ⟨hc, hac⟩, rfl⟩
theorem allT_sorted (n : Nat) (ss : List (List Nat)) : (allT n ss n).Pairwise tLess := by
  simp only [allT, rowT, List.pairwise_flatMap]
  refine ⟨fun a _ => ?_, (range_lt n).imp fun {a b} hab x hx y hy => ?_⟩
  · exact List.pairwise_map.2 (((range_lt n).filter _).imp fun {c d} h => .inr ⟨rfl, h⟩)
  · obtain ⟨c, _, rfl⟩ := List.mem_map.1 hx
    obtain ⟨d, _, rfl⟩ := List.mem_map.1 hy
    exact .inl hab
theorem next_facts {n : Nat} {ss : List (List Nat)} (h2 : 2 ≤ n) : (∃ a c, a < c ∧ c < n ∧ nextOf n ss = trip n ss a c) ∧
    ∀ a c, a < c → c < n → (nextOf n ss).2.2 ≤ (trip n ss a c).2.2 ∧ ((trip n ss a c).2.2 = (nextOf n ss).2.2 → (nextOf n ss).1 < a ∨ (nextOf n ss).1 = a ∧ (nextOf n ss).2.1 ≤ c) := by
  have hm : trip n ss 0 1 ∈ allT n ss n := mem_allT.2 ⟨0, 1, by omega, by omega, rfl⟩
  have hs := allT_sorted n ss
  have hmem := @mem_allT n ss
  unfold nextOf
  generalize allT n ss n = L at *
  cases L with
  | nil => cases hm
  | cons t ts =>
    simp only [List.headD_cons, List.tail_cons]
    refine ⟨hmem.1 (bestT_mem ts t), fun a c hac hc => ?_⟩
    have hin := hmem.2 ⟨a, c, hac, hc, rfl⟩
    refine ⟨bestT_le ts t _ hin, fun he => ?_⟩
    rcases bestT_first ts t _ hs hin he with h | h
    · rw [← h]; exact .inr ⟨rfl, Nat.le_refl _⟩
    · rcases h with h | ⟨h1, h3⟩
      · exact .inl h
      · exact .inr ⟨h1, Nat.le_of_lt h3⟩

/-! ### owners -/

theorem strict_some {n : Nat} {ss : List (List Nat)} (hv : Valid n ss) (hc : cyc n ss = false) : ∃ f : Nat → Nat, ∀ p ∈ pairs ss, f p.1 < f p.2 := by
  obtain ⟨l, _, _, _, h⟩ := levels_some hv hc
  exact ⟨fun x => l.getD x 0, h⟩
theorem adj_map (r : Nat → Nat) : ∀ l : List Nat, adj (l.map r) = (adj l).map fun p => (r p.1, r p.2)
  | [] => rfl
  | [_] => rfl
  | a :: b :: l => by
    have := adj_map r (b :: l)
    simp only [List.map_cons] at this ⊢
    simp only [adj, List.map_cons, this]
theorem pairs_rep (one other : Nat) (ss : List (List Nat)) : pairs (ss.map (rep one other)) = (pairs ss).map fun p => (if p.1 = other then one else p.1, if p.2 = other then one else p.2) := by
  induction ss with
  | nil => rfl
  | cons s ss ih =>
    simp only [pairs, List.map_cons, List.flatMap_cons, List.map_append] at *
    rw [ih, rep, adj_map fun x => if x = other then one else x]
theorem pairIn_or {a b : Nat} : ∀ {s : List Nat}, a ∈ s → b ∈ s → a ≠ b → pairIn s a b = true ∨ pairIn s b a = true
  | [], h, _, _ => by cases h
  | x :: s, ha, hb, hne => by
    simp only [pairIn, Bool.or_eq_true, Bool.and_eq_true, beq_iff_eq, List.contains_iff_mem]
    rcases List.mem_cons.1 ha with h1 | h1
    · rcases List.mem_cons.1 hb with h2 | h2
      · exact absurd (h1.trans h2.symm) hne
      · exact .inl (.inl ⟨h1.symm, h2⟩)
    · rcases List.mem_cons.1 hb with h2 | h2
      · exact .inr (.inl ⟨h2.symm, h1⟩)
      · rcases pairIn_or h1 h2 hne with h | h
        · exact .inl (.inr h)
        · exact .inr (.inr h)
theorem same_iff {n : Nat} {ss : List (List Nat)} {one other : Nat} (hv : Valid n ss) (h1 : one < n) (hne : one ≠ other) :
    sameOf n ss one other = true ↔ ∃ g : Nat → Nat, (∀ p ∈ pairs ss, g p.1 < g p.2) ∧ g one = g other := by
  simp only [sameOf, Bool.and_eq_true, Bool.not_eq_true']
  constructor
  · rintro ⟨hb, hc⟩
    obtain ⟨f, hf⟩ := strict_some (rep_valid hv h1 hb) hc
    rw [pairs_rep] at hf
    refine ⟨fun x => f (if x = other then one else x), fun p hp => hf _ (List.mem_map.2 ⟨p, hp, rfl⟩), ?_⟩
    simp only [if_neg hne, if_pos]
  · rintro ⟨g, hg, he⟩
    refine ⟨?_, ?_⟩
    · rw [bothIn, List.any_eq_false]
      intro s hs hb
      simp only [Bool.and_eq_true, decide_eq_true_eq] at hb
      have hst : ∀ {a b}, pairIn s a b = true → g a < g b := fun h => adj_strict (fun p hp => hg p (List.mem_flatMap.2 ⟨s, hs, hp⟩)) h
      rcases pairIn_or hb.2 hb.1 hne with h | h
      · have := hst h; omega
      · have := hst h; omega
    · refine cyc_of_strict (f := g) ?_
      rw [pairs_rep]
      intro p hp
      obtain ⟨q, hq, rfl⟩ := List.mem_map.1 hp
      have hr : ∀ x, g (if x = other then one else x) = g x := fun x => by split <;> simp_all
      simp only [hr]
      exact hg q hq
theorem same_symm {n : Nat} {ss : List (List Nat)} {one other : Nat} (hv : Valid n ss) (h1 : one < n) (h2 : other < n) (hne : one ≠ other) : sameOf n ss other one = sameOf n ss one other := by
  rw [Bool.eq_iff_iff, same_iff hv h1 hne, same_iff hv h2 (Ne.symm hne)]
  constructor <;> exact fun ⟨g, h, e⟩ => ⟨g, h, e.symm⟩
theorem pairs_snoc (ss : List (List Nat)) (a b : Nat) : pairs (ss ++ [[a, b]]) = pairs ss ++ [(a, b)] := by simp [pairs, adj]
theorem same_word {n : Nat} {ss : List (List Nat)} {one other : Nat} (hv : Valid n ss) (h1 : one < n) (h2 : other < n) (hne : one ≠ other) (h : sameOf n ss one other = true) :
    cyc n ss = false ∧ cnt n (ss ++ [[one, other]]) ≠ 0 := by
  obtain ⟨g, hg, he⟩ := (same_iff hv h1 hne).1 h
  refine ⟨cyc_of_strict hg, fun h0 => ?_⟩
  rw [cnt_zero (valid_snoc hv (pair_names h1 h2 hne))] at h0
  rw [cyc_of_strict (f := fun x => 2 * g x + if x = other then 1 else 0)] at h0
  · cases h0
  · rw [pairs_snoc]
    intro p hp
    rcases List.mem_append.1 hp with hp | hp
    · have := hg p hp
      show 2 * g p.1 + (if p.1 = other then 1 else 0) < 2 * g p.2 + if p.2 = other then 1 else 0
      split <;> split <;> omega
    · simp only [List.mem_singleton] at hp
      subst hp
      show 2 * g one + (if one = other then 1 else 0) < 2 * g other + if other = other then 1 else 0
      rw [if_neg hne, if_pos rfl, he]
      omega
theorem owners_le {n : Nat} {ss : List (List Nat)} (hn : n ≤ 6) (hv : Valid n ss) (hc : cyc n ss = false) : ownersOf n ss ≤ n := by
  obtain ⟨l, _, hl, hch, hs⟩ := levels_some hv hc
  exact owners_bound hs (fun x hx => chTo_le hv hc hx (hch x hx)) (fun x hx => (hch x hx).pos)
theorem owners_pos {n : Nat} {ss : List (List Nat)} (hn : n ≤ 6) (h1 : 1 ≤ n) (hv : Valid n ss) (hc : cyc n ss = false) : 1 ≤ ownersOf n ss := by
  obtain ⟨l, _, hl, hch, hs⟩ := levels_some hv hc
  exact Nat.le_trans (hch 0 h1).pos (owners_chTo hn hv hc h1 (hch 0 h1))

/-! ### numbers proposed for the names -/

/-- How many of the first k numbers are new. -/
def newsTo (zs : List Int) (k : Nat) : Nat := ((List.range k).filter fun i => !decide (zs.getD i 0 ∈ zs.take i)).length
theorem newsTo_succ (zs : List Int) (k : Nat) : newsTo zs (k + 1) = newsTo zs k + if zs.getD k 0 ∈ zs.take k then 0 else 1 := by
  unfold newsTo
  rw [List.range_succ, List.filter_append, List.length_append]
  by_cases h : zs.getD k 0 ∈ zs.take k
  · rw [if_pos h, List.filter_cons, if_neg (by simp only [decide_eq_true h]; decide)]; rfl
  · rw [if_neg h, List.filter_cons, if_pos (by simp only [decide_eq_false h]; decide)]; rfl
theorem newsTo_le (zs : List Int) (k : Nat) : newsTo zs k ≤ k := by
  have := List.length_filter_le (fun i => !decide (zs.getD i 0 ∈ zs.take i)) (List.range k); simpa [newsTo] using this
theorem first_at {zs : List Int} {x : Nat} (hx : x < zs.length) : ∃ i, i < zs.length ∧ zs.getD i 0 = zs.getD x 0 ∧ zs.getD i 0 ∉ zs.take i := by
  have hm : zs.getD x 0 ∈ zs := by rw [List.getD_eq_getElem?_getD, List.getElem?_eq_getElem hx]; exact List.getElem_mem hx
  have hi := List.idxOf_lt_length_of_mem hm
  have he : zs.getD (zs.idxOf (zs.getD x 0)) 0 = zs.getD x 0 := by
    rw [List.getD_eq_getElem?_getD (i := zs.idxOf _), List.getElem?_eq_getElem hi]; exact List.getElem_idxOf hi
  refine ⟨_, hi, he, ?_⟩
  rw [he]
  intro h
  obtain ⟨j, hj, hje⟩ := List.mem_iff_getElem.1 h
  have hj' : j < zs.idxOf (zs.getD x 0) := by rw [List.length_take] at hj; omega
  have h3 : zs[j]'(by omega) = zs.getD x 0 := by rw [← hje]; exact (List.getElem_take ..).symm
  have := List.not_of_lt_findIdx (xs := zs) (p := fun y => y == zs.getD x 0) (i := j) hj'
  simp [h3] at this
/-- Numbers that grow along the spots are as many as the owners, or more. -/
theorem owners_many {n : Nat} {ss : List (List Nat)} {zs : List Int} (hv : Valid n ss) (hz : zs.length = n) (h : ∀ p ∈ pairs ss, zs.getD p.1 0 < zs.getD p.2 0) :
    cyc n ss = false ∧ ownersOf n ss ≤ newsTo zs n ∧ ∀ one other, one < n → other < n → one ≠ other → zs.getD one 0 = zs.getD other 0 → sameOf n ss one other = true := by
  let f : Nat → Nat := fun x => ((List.range n).filter fun i => !decide (zs.getD i 0 ∈ zs.take i) && decide (zs.getD i 0 ≤ zs.getD x 0)).length
  have hf : ∀ p ∈ pairs ss, f p.1 < f p.2 := by
    intro p hp
    have hlt := h p hp
    obtain ⟨_, _, hp2⟩ := pairs_lt hv p hp
    obtain ⟨i, hi, he, hn⟩ := first_at (zs := zs) (x := p.2) (by omega)
    refine Go.StripM.filter_lt (y := i) (fun x _ hx => ?_) (List.mem_range.2 (by omega)) ?_ ?_
    · simp only [Bool.and_eq_true, Bool.not_eq_true', decide_eq_false_iff_not, decide_eq_true_eq] at hx ⊢
      exact ⟨hx.1, by omega⟩
    · simp only [Bool.and_eq_true, Bool.not_eq_true', decide_eq_false_iff_not, decide_eq_true_eq]
      exact ⟨hn, by omega⟩
    · simp only [Bool.and_eq_false_iff, decide_eq_false_iff_not]
      exact .inr (by omega)
  refine ⟨cyc_of_strict hf, owners_bound hf (fun x _ => ?_) (fun x hx => ?_), fun one other h1 h2 hne he => (same_iff hv h1 hne).2 ⟨f, hf, ?_⟩⟩
  · unfold newsTo
    have : ((List.range n).filter fun i => !decide (zs.getD i 0 ∈ zs.take i) && decide (zs.getD i 0 ≤ zs.getD x 0)) = ((List.range n).filter fun i => !decide (zs.getD i 0 ∈ zs.take i)).filter fun i => decide (zs.getD i 0 ≤ zs.getD x 0) := by
      rw [List.filter_filter]; exact List.filter_congr fun i _ => Bool.and_comm _ _
    simp only [f, this]
    exact List.length_filter_le _ _
  · obtain ⟨i, hi, he, hn⟩ := first_at (zs := zs) (x := x) (by omega)
    refine List.length_pos_of_mem (a := i) (List.mem_filter.2 ⟨List.mem_range.2 (by omega), ?_⟩)
    simp only [Bool.and_eq_true, Bool.not_eq_true', decide_eq_false_iff_not, decide_eq_true_eq]
    exact ⟨hn, by omega⟩
  · simp only [f, he]

end Go.Proofs.YtiehfpkcaoeieaaGreatDoor
