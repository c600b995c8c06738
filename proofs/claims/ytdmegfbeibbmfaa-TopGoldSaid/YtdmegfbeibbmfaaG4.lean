/- Contracts and mathematics, joined: MemoR, MemoE, MemoA. Conditions stand with each. -/
import Derived.Test.YtdmegfbeibbmfaaG3
import Derived.Maps.Keyed
set_option linter.unusedVariables false
set_option linter.unusedSimpArgs false
/- A map from 3 numbers to what is so: what was noted. No condition. -/
namespace Go.Proofs.Ytdmegfbeibbmfaa.RestM
open Go.RowKit Go.My

def kv (a b c : Int) : Value := .agg #[.int .i64 a, .int .i64 b, .int .i64 c]
theorem inj {a b c a' b' c' : Int} (h : kv a b c = kv a' b' c') : a = a' ∧ b = b' ∧ c = c' := by simpa [kv] using h
def keq (a b c a' b' c' : Int) : Bool := a == a' && (b == b' && (c == c'))
theorem keq_iff {a b c a' b' c' : Int} : keq a b c a' b' c' = true ↔ a = a' ∧ b = b' ∧ c = c' := by simp [keq]
theorem equal (a b c a' b' c' : Int) (w : World) : (Op.equal 139 (kv a b c) (kv a' b' c')).run Try.prog w = .ok (keq a b c a' b' c') w := by
  have h1 : ∀ (a b : Int), (Op.equalIn 9999 3 (.int .i64 a) (.int .i64 b)).run Try.prog w = .ok (a == b) w := fun a b => by
    exact run_equalIn_int w 9998 3 .i64 .i64 a b Try.underlying3
  simp only [Op.equal, Op.maxDepth]
  unfold Op.equalIn
  have p0 : ∀ (a b c : Int), (part 3 #[.int .i64 a, .int .i64 b, .int .i64 c] 0).run Try.prog w = .ok (.int .i64 a) w := fun a b c => by kernel_rfl
  have p1 : ∀ (a b c : Int), (part 3 #[.int .i64 a, .int .i64 b, .int .i64 c] 1).run Try.prog w = .ok (.int .i64 b) w := fun a b c => by kernel_rfl
  have p2 : ∀ (a b c : Int), (part 3 #[.int .i64 a, .int .i64 b, .int .i64 c] 2).run Try.prog w = .ok (.int .i64 c) w := fun a b c => by kernel_rfl
  simp [run_underlying Try.underlying139, kv, h1, p0, Result.andThen, keq]
  by_cases ha : a = a'
  · by_cases hb : b = b'
    · by_cases hc : c = c' <;> simp [ha, hb, hc, h1, p1, p2, Result.andThen]
    · simp [ha, hb, h1, p1, p2, Result.andThen]
  · simp [ha]
theorem check (q : Bool) (a b c : Int) (w : World) : (Instr.checkKey q 10000 139 (kv a b c)).run Try.prog w = .ok () w := by kernel_rfl
theorem same' (a b c : Int) (n : Nat) : Instr.sameBits (n + 2) (kv a b c) (kv a b c) = true := by
  simp [kv, Instr.sameBits]
theorem same (a b c : Int) : ∀ n, 2 ≤ n → Instr.sameBits n (kv a b c) (kv a b c) = true := by
  intro n hn
  obtain ⟨m, rfl⟩ : ∃ m, n = m + 2 := ⟨n - 2, by omega⟩
  exact same' a b c m
theorem stays (a b c : Int) (w : World) : (Instr.keyThatStays (kv a b c) (kv a b c)).run Try.prog w = .ok (kv a b c) w := by
  have h := same a b c 10000 (by decide)
  simp [Instr.keyThatStays, h]
theorem make (w : World) : (Instr.makeMap 112 none).run Try.prog w = .ok (.map (some w.heap.size)) (w.alloc (.map #[] 0)) := by kernel_rfl

theorem find (a b c : Int) (w : World) : ∀ (es : List MapEntry) (i : Nat), (∀ e ∈ es, ∃ a' b' c', e.key = kv a' b' c') →
    (∃ j e, es[j]? = some e ∧ e.key = kv a b c ∧ (Instr.findAsking 139 (kv a b c) es i).run Try.prog w = .ok (some (i + j, e.val)) w) ∨ ((∀ e ∈ es, e.key ≠ kv a b c) ∧ (Instr.findAsking 139 (kv a b c) es i).run Try.prog w = .ok none w) := by
  intro es
  induction es with
  | nil => intro i _; exact .inr ⟨by simp, rfl⟩
  | cons e es ih =>
    intro i hk
    obtain ⟨a', b', c', hu⟩ := hk e (by simp)
    have hr : (Instr.findAsking 139 (kv a b c) (e :: es) i).run Try.prog w = (if keq a b c a' b' c' = true then .ok (some (i, e.val)) w else (Instr.findAsking 139 (kv a b c) es (i + 1)).run Try.prog w) := by
      simp only [Instr.findAsking, Sem.run_bind, hu, equal, Result.andThen]
      split <;> rfl
    rw [hr]
    by_cases hv : keq a b c a' b' c' = true
    · rw [if_pos hv]
      obtain ⟨rfl, rfl, rfl⟩ := keq_iff.1 hv
      exact .inl ⟨0, e, rfl, hu, rfl⟩
    · rw [if_neg hv]
      rcases ih (i + 1) (fun e he => hk e (by simp [he])) with ⟨j, e', h1, h2, h3⟩ | h
      · exact .inl ⟨j + 1, e', by simpa using h1, h2, by rw [h3, show i + 1 + j = i + (j + 1) by omega]⟩
      · refine .inr ⟨fun e' he' => ?_, h.2⟩
        rcases List.mem_cons.1 he' with rfl | he'
        · rw [hu]
          intro e2
          obtain ⟨rfl, rfl, rfl⟩ := inj e2
          exact hv (keq_iff.2 ⟨rfl, rfl, rfl⟩)
        · exact h.1 e' he'
theorem findKey (a b c : Int) (w : World) (es : List MapEntry) (hk : ∀ e ∈ es, ∃ a' b' c', e.key = kv a' b' c') :
    (∃ j e, es[j]? = some e ∧ e.key = kv a b c ∧ (Instr.findKey 139 (kv a b c) es).run Try.prog w = .ok (some (j, e.val)) w) ∨ ((∀ e ∈ es, e.key ≠ kv a b c) ∧ (Instr.findKey 139 (kv a b c) es).run Try.prog w = .ok none w) := by
  cases es with
  | nil => exact .inr (by simp [Instr.findKey, run_underlying Try.underlying139, Instr.findNow, Result.andThen])
  | cons e es =>
    have : (Instr.findKey 139 (kv a b c) (e :: es)).run Try.prog w = (Instr.findAsking 139 (kv a b c) (e :: es) 0).run Try.prog w := by
      simp [Instr.findKey, run_underlying Try.underlying139, Instr.findNow, Instr.sameNow, Result.andThen]
    rw [this]
    rcases find a b c w (e :: es) 0 hk with ⟨j, e', h1, h2, h3⟩ | h
    · exact .inl ⟨j, e', h1, h2, by rw [h3, Nat.zero_add]⟩
    · exact .inr h

/-- The map in block q notes what f says. -/
def Memo (w : World) (q : Nat) (f : Int → Int → Int → Bool) : Prop := ∃ es clock, w.heap[q]? = some (.map es clock) ∧ ∀ e ∈ es.toList, ∃ a b c, e.key = kv a b c ∧ e.val = .bool (f a b c)
theorem Memo.new (w : World) (f : Int → Int → Int → Bool) : Memo (w.alloc (.map #[] 0)) w.heap.size f := ⟨#[], 0, heap_alloc_new w _, fun e he => by simp at he⟩
theorem Memo.keep {w w' : World} {q : Nat} {f : Int → Int → Int → Bool} (h : Memo w q f) (hs : w'.heap[q]? = w.heap[q]?) : Memo w' q f := by
  obtain ⟨es, clock, hb, he⟩ := h
  exact ⟨es, clock, hs.trans hb, he⟩
theorem Memo.lt {w : World} {q : Nat} {f : Int → Int → Int → Bool} (h : Memo w q f) : q < w.heap.size := by
  obtain ⟨es, clock, hb, _⟩ := h
  exact (Array.getElem?_eq_some_iff.1 hb).1
theorem Memo.ext {w w' : World} {q : Nat} {f : Int → Int → Int → Bool} (h : Memo w q f) (hE : Ext w w') : Memo w' q f := h.keep (hE.block q h.lt)
theorem Memo.not {w : World} {q : Nat} {f : Int → Int → Int → Bool} (h : Memo w q f) {p : Addr} {v : Value} (hc : w.cell? p = some v) : ¬ p.block = q := by
  obtain ⟨es, clock, hb, _⟩ := h
  rintro rfl
  unfold World.cell? at hc
  rw [hb] at hc
  cases hc

theorem look {w : World} {q : Nat} {f : Int → Int → Int → Bool} (h : Memo w q f) (a b c : Int) :
    ∃ (v : Bool) (ok : Bool), (Instr.lookup 112 (.map (some q)) (kv a b c) true).run Try.prog w = .ok (.tuple #[.bool v, .bool ok]) w ∧ (ok = true → v = f a b c) := by
  obtain ⟨es, clock, hb, he⟩ := h
  have hz : (zeroValue 4).run Try.prog w = .ok (.bool false) w := by kernel_rfl
  rcases findKey a b c w es.toList (fun e hm => by obtain ⟨a', b', c', hu, _⟩ := he e hm; exact ⟨a', b', c', hu⟩) with ⟨j, e, h1, h2, h3⟩ | ⟨hno, h3⟩
  · have hm : e ∈ es.toList := List.mem_of_getElem? h1
    obtain ⟨a', b', c', hu, hv⟩ := he e hm
    obtain ⟨rfl, rfl, rfl⟩ := inj (hu.symm.trans h2)
    refine ⟨f a' b' c', true, ?_, fun _ => rfl⟩
    simp [Instr.lookup, run_underlying Try.underlying112, MapKept.run_getObj_map hb, check, h3, hv, Result.andThen]
  · refine ⟨false, false, ?_, fun h => by simp at h⟩
    simp [Instr.lookup, run_underlying Try.underlying112, MapKept.run_getObj_map hb, check, h3, hz, Result.andThen]

open Go.ChangeMaps in
theorem note {w : World} {q : Nat} {f : Int → Int → Int → Bool} (h : Memo w q f) (a b c : Int) :
    ∃ w', (Instr.mapUpdate 112 (.map (some q)) (kv a b c) (.bool (f a b c))).run Try.prog w = .ok () w' ∧ Memo w' q f ∧ w.grownBy w' (some q) ∧ w'.heap.size = w.heap.size := by
  obtain ⟨es, clock, hb, he⟩ := h
  have hg : ∀ (es' : Array MapEntry) (clock' : Nat), w.grownBy (setBlock w q (.map es' clock')) (some q) ∧ (setBlock w q (.map es' clock')).heap.size = w.heap.size := fun es' clock' =>
    ⟨⟨rfl, rfl, rfl, by simp [setBlock], fun k _ hk => ChangeMaps.heap_setBlock_other hb _ (fun e => hk (by rw [e]))⟩, by simp [setBlock]⟩
  rcases findKey a b c w es.toList (fun e hm => by obtain ⟨a', b', c', hu, _⟩ := he e hm; exact ⟨a', b', c', hu⟩) with ⟨j, e, h1, h2, h3⟩ | ⟨hno, h3⟩
  · have hj : es[j]? = some e := by simpa using h1
    have hlist : (es.modify j (fun e' => { e' with key := kv a b c, val := .bool (f a b c) })).toList = es.toList.set j { e with key := kv a b c, val := .bool (f a b c) } := by rw [Array.toList_modify, ChangeMaps.modify_eq_set _ _ _ _ h1]
    refine ⟨setBlock w q (.map (es.modify j (fun e' => { e' with key := kv a b c, val := .bool (f a b c) })) clock), ?_, ⟨_, _, heap_setBlock_same hb _, ?_⟩, hg _ _⟩
    · simp [Instr.mapUpdate, run_underlying Try.underlying112, MapKept.run_getObj_map hb, check, h3, hj, h2, stays, MapKept.run_setObj_map _ hb, Result.andThen, setBlock]
    · intro x hx
      rw [hlist] at hx
      rcases List.mem_or_eq_of_mem_set hx with hx | rfl
      · exact he x hx
      · exact ⟨a, b, c, rfl, rfl⟩
  · refine ⟨setBlock w q (.map (es.push ⟨kv a b c, .bool (f a b c), clock⟩) (clock + 1)), ?_, ⟨_, _, heap_setBlock_same hb _, ?_⟩, hg _ _⟩
    · simp [Instr.mapUpdate, run_underlying Try.underlying112, MapKept.run_getObj_map hb, check, h3, MapKept.run_setObj_map _ hb, Result.andThen, setBlock]
    · intro x hx
      simp only [Array.toList_push, List.mem_append, List.mem_singleton] at hx
      rcases hx with hx | rfl
      · exact he x hx
      · exact ⟨a, b, c, rfl, rfl⟩

section
variable {ops : Array Oper} {rest : List Oper} {o : Oper} {ac : Act} {w : World} {Q : Exit → Act → World → Prop}
theorem at_lookup (m x : Operand) (_ho : o.op = .lookup 112 m x true) (h : wpList Try.prog ops Q (o :: rest) ac w) : wpList Try.prog ops Q (o :: rest) ac w := h
theorem at_update (m x y : Operand) (_ho : o.op = .mapUpdate 112 m x y) (h : wpList Try.prog ops Q (o :: rest) ac w) : wpList Try.prog ops Q (o :: rest) ac w := h
theorem at_make (_ho : o.op = .makeMap 112 none) (h : wpList Try.prog ops Q (o :: rest) ac w) : wpList Try.prog ops Q (o :: rest) ac w := h
theorem wpList_lookup (hgd : o.guard = none) (m x : Operand) (ho : o.op = .lookup 112 m x true) (q : Nat) (hm : ac.eval m = .map (some q)) (a b c : Int) (hx : ac.eval x = .agg #[.int .i64 a, .int .i64 b, .int .i64 c]) (f : Int → Int → Int → Bool)
    (hM : Memo w q f) (h : ∀ (v : Bool) (ok : Bool), (ok = true → v = f a b c) → wpList Try.prog ops Q rest (ac.put o.dst (.tuple #[.bool v, .bool ok])) w) :
    wpList Try.prog ops Q (o :: rest) ac w :=
  wpList_plain hgd fun K hK => by
    obtain ⟨v, ok, h1, h2⟩ := look hM a b c
    rw [kv] at h1
    unfold Oper.wp
    simp [execOp, ho, hm, hx, h1, Result.andThen]
    exact hK _ _ (h v ok h2)
theorem wpList_update (hgd : o.guard = none) (m x y : Operand) (ho : o.op = .mapUpdate 112 m x y) (q : Nat) (hm : ac.eval m = .map (some q)) (a b c : Int) (hx : ac.eval x = .agg #[.int .i64 a, .int .i64 b, .int .i64 c]) (f : Int → Int → Int → Bool) (hy : ac.eval y = .bool (f a b c))
    (hM : Memo w q f) (h : ∀ w', Memo w' q f → w.grownBy w' (some q) → w'.heap.size = w.heap.size → wpList Try.prog ops Q rest (ac.put o.dst undef) w') :
    wpList Try.prog ops Q (o :: rest) ac w :=
  wpList_plain hgd fun K hK => by
    obtain ⟨w', h1, h2, h3, h4⟩ := note hM a b c
    rw [kv] at h1
    unfold Oper.wp
    simp [execOp, ho, hm, hx, hy, h1, Result.andThen]
    exact hK _ _ (h w' h2 h3 h4)
theorem wpList_make (hgd : o.guard = none) (ho : o.op = .makeMap 112 none) (h : wpList Try.prog ops Q rest (ac.put o.dst (.map (some w.heap.size))) (w.alloc (.map #[] 0))) : wpList Try.prog ops Q (o :: rest) ac w :=
  wpList_plain hgd fun K hK => by
    unfold Oper.wp
    simp [execOp, ho, make, Result.andThen]
    exact hK _ _ h
end

end Go.Proofs.Ytdmegfbeibbmfaa.RestM
/- A map from 2 numbers to what is so: what was noted. No condition. -/
namespace Go.Proofs.Ytdmegfbeibbmfaa.EndM
open Go.RowKit Go.My

def kv (a b : Int) : Value := .agg #[.int .i64 a, .int .i64 b]
theorem inj {a b a' b' : Int} (h : kv a b = kv a' b') : a = a' ∧ b = b' := by simpa [kv] using h
def keq (a b a' b' : Int) : Bool := a == a' && (b == b')
theorem keq_iff {a b a' b' : Int} : keq a b a' b' = true ↔ a = a' ∧ b = b' := by simp [keq]
theorem equal (a b a' b' : Int) (w : World) : (Op.equal 150 (kv a b) (kv a' b')).run Try.prog w = .ok (keq a b a' b') w := by
  have h1 : ∀ (a b : Int), (Op.equalIn 9999 3 (.int .i64 a) (.int .i64 b)).run Try.prog w = .ok (a == b) w := fun a b => by
    exact run_equalIn_int w 9998 3 .i64 .i64 a b Try.underlying3
  simp only [Op.equal, Op.maxDepth]
  unfold Op.equalIn
  have p0 : ∀ (a b : Int), (part 3 #[.int .i64 a, .int .i64 b] 0).run Try.prog w = .ok (.int .i64 a) w := fun a b => by kernel_rfl
  have p1 : ∀ (a b : Int), (part 3 #[.int .i64 a, .int .i64 b] 1).run Try.prog w = .ok (.int .i64 b) w := fun a b => by kernel_rfl
  simp [run_underlying Try.underlying150, kv, h1, p0, Result.andThen, keq]
  by_cases ha : a = a'
  · by_cases hb : b = b' <;> simp [ha, hb, h1, p1, Result.andThen]
  · simp [ha]
theorem check (q : Bool) (a b : Int) (w : World) : (Instr.checkKey q 10000 150 (kv a b)).run Try.prog w = .ok () w := by kernel_rfl
theorem same' (a b : Int) (n : Nat) : Instr.sameBits (n + 2) (kv a b) (kv a b) = true := by
  simp [kv, Instr.sameBits]
theorem same (a b : Int) : ∀ n, 2 ≤ n → Instr.sameBits n (kv a b) (kv a b) = true := by
  intro n hn
  obtain ⟨m, rfl⟩ : ∃ m, n = m + 2 := ⟨n - 2, by omega⟩
  exact same' a b m
theorem stays (a b : Int) (w : World) : (Instr.keyThatStays (kv a b) (kv a b)).run Try.prog w = .ok (kv a b) w := by
  have h := same a b 10000 (by decide)
  simp [Instr.keyThatStays, h]
theorem make (w : World) : (Instr.makeMap 102 none).run Try.prog w = .ok (.map (some w.heap.size)) (w.alloc (.map #[] 0)) := by kernel_rfl

theorem find (a b : Int) (w : World) : ∀ (es : List MapEntry) (i : Nat), (∀ e ∈ es, ∃ a' b', e.key = kv a' b') →
    (∃ j e, es[j]? = some e ∧ e.key = kv a b ∧ (Instr.findAsking 150 (kv a b) es i).run Try.prog w = .ok (some (i + j, e.val)) w) ∨ ((∀ e ∈ es, e.key ≠ kv a b) ∧ (Instr.findAsking 150 (kv a b) es i).run Try.prog w = .ok none w) := by
  intro es
  induction es with
  | nil => intro i _; exact .inr ⟨by simp, rfl⟩
  | cons e es ih =>
    intro i hk
    obtain ⟨a', b', hu⟩ := hk e (by simp)
    have hr : (Instr.findAsking 150 (kv a b) (e :: es) i).run Try.prog w = (if keq a b a' b' = true then .ok (some (i, e.val)) w else (Instr.findAsking 150 (kv a b) es (i + 1)).run Try.prog w) := by
      simp only [Instr.findAsking, Sem.run_bind, hu, equal, Result.andThen]
      split <;> rfl
    rw [hr]
    by_cases hv : keq a b a' b' = true
    · rw [if_pos hv]
      obtain ⟨rfl, rfl⟩ := keq_iff.1 hv
      exact .inl ⟨0, e, rfl, hu, rfl⟩
    · rw [if_neg hv]
      rcases ih (i + 1) (fun e he => hk e (by simp [he])) with ⟨j, e', h1, h2, h3⟩ | h
      · exact .inl ⟨j + 1, e', by simpa using h1, h2, by rw [h3, show i + 1 + j = i + (j + 1) by omega]⟩
      · refine .inr ⟨fun e' he' => ?_, h.2⟩
        rcases List.mem_cons.1 he' with rfl | he'
        · rw [hu]
          intro e2
          obtain ⟨rfl, rfl⟩ := inj e2
          exact hv (keq_iff.2 ⟨rfl, rfl⟩)
        · exact h.1 e' he'
theorem findKey (a b : Int) (w : World) (es : List MapEntry) (hk : ∀ e ∈ es, ∃ a' b', e.key = kv a' b') :
    (∃ j e, es[j]? = some e ∧ e.key = kv a b ∧ (Instr.findKey 150 (kv a b) es).run Try.prog w = .ok (some (j, e.val)) w) ∨ ((∀ e ∈ es, e.key ≠ kv a b) ∧ (Instr.findKey 150 (kv a b) es).run Try.prog w = .ok none w) := by
  cases es with
  | nil => exact .inr (by simp [Instr.findKey, run_underlying Try.underlying150, Instr.findNow, Result.andThen])
  | cons e es =>
    have : (Instr.findKey 150 (kv a b) (e :: es)).run Try.prog w = (Instr.findAsking 150 (kv a b) (e :: es) 0).run Try.prog w := by
      simp [Instr.findKey, run_underlying Try.underlying150, Instr.findNow, Instr.sameNow, Result.andThen]
    rw [this]
    rcases find a b w (e :: es) 0 hk with ⟨j, e', h1, h2, h3⟩ | h
    · exact .inl ⟨j, e', h1, h2, by rw [h3, Nat.zero_add]⟩
    · exact .inr h

/-- The map in block q notes what f says. -/
def Memo (w : World) (q : Nat) (f : Int → Int → Int) : Prop := ∃ es clock, w.heap[q]? = some (.map es clock) ∧ ∀ e ∈ es.toList, ∃ a b, e.key = kv a b ∧ e.val = .int .i64 (f a b)
theorem Memo.new (w : World) (f : Int → Int → Int) : Memo (w.alloc (.map #[] 0)) w.heap.size f := ⟨#[], 0, heap_alloc_new w _, fun e he => by simp at he⟩
theorem Memo.keep {w w' : World} {q : Nat} {f : Int → Int → Int} (h : Memo w q f) (hs : w'.heap[q]? = w.heap[q]?) : Memo w' q f := by
  obtain ⟨es, clock, hb, he⟩ := h
  exact ⟨es, clock, hs.trans hb, he⟩
theorem Memo.lt {w : World} {q : Nat} {f : Int → Int → Int} (h : Memo w q f) : q < w.heap.size := by
  obtain ⟨es, clock, hb, _⟩ := h
  exact (Array.getElem?_eq_some_iff.1 hb).1
theorem Memo.ext {w w' : World} {q : Nat} {f : Int → Int → Int} (h : Memo w q f) (hE : Ext w w') : Memo w' q f := h.keep (hE.block q h.lt)
theorem Memo.not {w : World} {q : Nat} {f : Int → Int → Int} (h : Memo w q f) {p : Addr} {v : Value} (hc : w.cell? p = some v) : ¬ p.block = q := by
  obtain ⟨es, clock, hb, _⟩ := h
  rintro rfl
  unfold World.cell? at hc
  rw [hb] at hc
  cases hc

theorem look {w : World} {q : Nat} {f : Int → Int → Int} (h : Memo w q f) (a b : Int) :
    ∃ (v : Int) (ok : Bool), (Instr.lookup 102 (.map (some q)) (kv a b) true).run Try.prog w = .ok (.tuple #[.int .i64 v, .bool ok]) w ∧ (ok = true → v = f a b) := by
  obtain ⟨es, clock, hb, he⟩ := h
  have hz : (zeroValue 3).run Try.prog w = .ok (.int .i64 0) w := by kernel_rfl
  rcases findKey a b w es.toList (fun e hm => by obtain ⟨a', b', hu, _⟩ := he e hm; exact ⟨a', b', hu⟩) with ⟨j, e, h1, h2, h3⟩ | ⟨hno, h3⟩
  · have hm : e ∈ es.toList := List.mem_of_getElem? h1
    obtain ⟨a', b', hu, hv⟩ := he e hm
    obtain ⟨rfl, rfl⟩ := inj (hu.symm.trans h2)
    refine ⟨f a' b', true, ?_, fun _ => rfl⟩
    simp [Instr.lookup, run_underlying Try.underlying102, MapKept.run_getObj_map hb, check, h3, hv, Result.andThen]
  · refine ⟨0, false, ?_, fun h => by simp at h⟩
    simp [Instr.lookup, run_underlying Try.underlying102, MapKept.run_getObj_map hb, check, h3, hz, Result.andThen]

open Go.ChangeMaps in
theorem note {w : World} {q : Nat} {f : Int → Int → Int} (h : Memo w q f) (a b : Int) :
    ∃ w', (Instr.mapUpdate 102 (.map (some q)) (kv a b) (.int .i64 (f a b))).run Try.prog w = .ok () w' ∧ Memo w' q f ∧ w.grownBy w' (some q) ∧ w'.heap.size = w.heap.size := by
  obtain ⟨es, clock, hb, he⟩ := h
  have hg : ∀ (es' : Array MapEntry) (clock' : Nat), w.grownBy (setBlock w q (.map es' clock')) (some q) ∧ (setBlock w q (.map es' clock')).heap.size = w.heap.size := fun es' clock' =>
    ⟨⟨rfl, rfl, rfl, by simp [setBlock], fun k _ hk => ChangeMaps.heap_setBlock_other hb _ (fun e => hk (by rw [e]))⟩, by simp [setBlock]⟩
  rcases findKey a b w es.toList (fun e hm => by obtain ⟨a', b', hu, _⟩ := he e hm; exact ⟨a', b', hu⟩) with ⟨j, e, h1, h2, h3⟩ | ⟨hno, h3⟩
  · have hj : es[j]? = some e := by simpa using h1
    have hlist : (es.modify j (fun e' => { e' with key := kv a b, val := .int .i64 (f a b) })).toList = es.toList.set j { e with key := kv a b, val := .int .i64 (f a b) } := by rw [Array.toList_modify, ChangeMaps.modify_eq_set _ _ _ _ h1]
    refine ⟨setBlock w q (.map (es.modify j (fun e' => { e' with key := kv a b, val := .int .i64 (f a b) })) clock), ?_, ⟨_, _, heap_setBlock_same hb _, ?_⟩, hg _ _⟩
    · simp [Instr.mapUpdate, run_underlying Try.underlying102, MapKept.run_getObj_map hb, check, h3, hj, h2, stays, MapKept.run_setObj_map _ hb, Result.andThen, setBlock]
    · intro x hx
      rw [hlist] at hx
      rcases List.mem_or_eq_of_mem_set hx with hx | rfl
      · exact he x hx
      · exact ⟨a, b, rfl, rfl⟩
  · refine ⟨setBlock w q (.map (es.push ⟨kv a b, .int .i64 (f a b), clock⟩) (clock + 1)), ?_, ⟨_, _, heap_setBlock_same hb _, ?_⟩, hg _ _⟩
    · simp [Instr.mapUpdate, run_underlying Try.underlying102, MapKept.run_getObj_map hb, check, h3, MapKept.run_setObj_map _ hb, Result.andThen, setBlock]
    · intro x hx
      simp only [Array.toList_push, List.mem_append, List.mem_singleton] at hx
      rcases hx with hx | rfl
      · exact he x hx
      · exact ⟨a, b, rfl, rfl⟩

section
variable {ops : Array Oper} {rest : List Oper} {o : Oper} {ac : Act} {w : World} {Q : Exit → Act → World → Prop}
theorem at_lookup (m x : Operand) (_ho : o.op = .lookup 102 m x true) (h : wpList Try.prog ops Q (o :: rest) ac w) : wpList Try.prog ops Q (o :: rest) ac w := h
theorem at_update (m x y : Operand) (_ho : o.op = .mapUpdate 102 m x y) (h : wpList Try.prog ops Q (o :: rest) ac w) : wpList Try.prog ops Q (o :: rest) ac w := h
theorem at_make (_ho : o.op = .makeMap 102 none) (h : wpList Try.prog ops Q (o :: rest) ac w) : wpList Try.prog ops Q (o :: rest) ac w := h
theorem wpList_lookup (hgd : o.guard = none) (m x : Operand) (ho : o.op = .lookup 102 m x true) (q : Nat) (hm : ac.eval m = .map (some q)) (a b : Int) (hx : ac.eval x = .agg #[.int .i64 a, .int .i64 b]) (f : Int → Int → Int)
    (hM : Memo w q f) (h : ∀ (v : Int) (ok : Bool), (ok = true → v = f a b) → wpList Try.prog ops Q rest (ac.put o.dst (.tuple #[.int .i64 v, .bool ok])) w) :
    wpList Try.prog ops Q (o :: rest) ac w :=
  wpList_plain hgd fun K hK => by
    obtain ⟨v, ok, h1, h2⟩ := look hM a b
    rw [kv] at h1
    unfold Oper.wp
    simp [execOp, ho, hm, hx, h1, Result.andThen]
    exact hK _ _ (h v ok h2)
theorem wpList_update (hgd : o.guard = none) (m x y : Operand) (ho : o.op = .mapUpdate 102 m x y) (q : Nat) (hm : ac.eval m = .map (some q)) (a b : Int) (hx : ac.eval x = .agg #[.int .i64 a, .int .i64 b]) (f : Int → Int → Int) (hy : ac.eval y = .int .i64 (f a b))
    (hM : Memo w q f) (h : ∀ w', Memo w' q f → w.grownBy w' (some q) → w'.heap.size = w.heap.size → wpList Try.prog ops Q rest (ac.put o.dst undef) w') :
    wpList Try.prog ops Q (o :: rest) ac w :=
  wpList_plain hgd fun K hK => by
    obtain ⟨w', h1, h2, h3, h4⟩ := note hM a b
    rw [kv] at h1
    unfold Oper.wp
    simp [execOp, ho, hm, hx, hy, h1, Result.andThen]
    exact hK _ _ (h w' h2 h3 h4)
theorem wpList_make (hgd : o.guard = none) (ho : o.op = .makeMap 102 none) (h : wpList Try.prog ops Q rest (ac.put o.dst (.map (some w.heap.size))) (w.alloc (.map #[] 0))) : wpList Try.prog ops Q (o :: rest) ac w :=
  wpList_plain hgd fun K hK => by
    unfold Oper.wp
    simp [execOp, ho, make, Result.andThen]
    exact hK _ _ h
end

end Go.Proofs.Ytdmegfbeibbmfaa.EndM
/- A map from amounts to coins, when it is empty. No condition. -/
namespace Go.Proofs.Ytdmegfbeibbmfaa.AmtM
open Go.RowKit Go.My

def kv (k c u r : Int) (e : Bool) (q : Int) : Value := .agg #[.int .i64 k, .int .i64 c, .int .i64 u, .int .i64 r, .bool e, .int .i64 q]
theorem check (b : Bool) (k c u r : Int) (e : Bool) (q : Int) (w : World) : (Instr.checkKey b 10000 123 (kv k c u r e q)).run Try.prog w = .ok () w := by kernel_rfl
theorem make (w : World) : (Instr.makeMap 67 none).run Try.prog w = .ok (.map (some w.heap.size)) (w.alloc (.map #[] 0)) := by kernel_rfl
theorem findNil (k c u r : Int) (e : Bool) (q : Int) (w : World) : (Instr.findKey 123 (kv k c u r e q) []).run Try.prog w = .ok none w := by
  simp [Instr.findKey, run_underlying Try.underlying123, Instr.findNow, Result.andThen]
theorem look {w : World} {m : Nat} {t : Nat} (h : w.heap[m]? = some (.map #[] t)) (k c u r : Int) (e : Bool) (q : Int) :
    (Instr.lookup 67 (.map (some m)) (kv k c u r e q) true).run Try.prog w = .ok (.tuple #[.int .i64 0, .bool false]) w := by
  have hz : (zeroValue 3).run Try.prog w = .ok (.int .i64 0) w := by kernel_rfl
  have h3 := findNil k c u r e q w
  simp [Instr.lookup, run_underlying Try.underlying67, MapKept.run_getObj_map h, check, h3, hz, Result.andThen]
open Go.ChangeMaps in
theorem note {w : World} {m : Nat} {t : Nat} (h : w.heap[m]? = some (.map #[] t)) (k c u r : Int) (e : Bool) (q n : Int) :
    ∃ w', (Instr.mapUpdate 67 (.map (some m)) (kv k c u r e q) (.int .i64 n)).run Try.prog w = .ok () w' ∧ w.grownBy w' (some m) := by
  have h3 := findNil k c u r e q w
  refine ⟨setBlock w m (.map ((#[] : Array MapEntry).push ⟨kv k c u r e q, .int .i64 n, t⟩) (t + 1)), ?_, ⟨rfl, rfl, rfl, by simp [setBlock], fun k _ hk => ChangeMaps.heap_setBlock_other h _ (fun e => hk (by rw [e]))⟩⟩
  simp [Instr.mapUpdate, run_underlying Try.underlying67, MapKept.run_getObj_map h, check, h3, MapKept.run_setObj_map _ h, Result.andThen, setBlock]

section
variable {ops : Array Oper} {rest : List Oper} {o : Oper} {ac : Act} {w : World} {Q : Exit → Act → World → Prop}
theorem at_lookup (m x : Operand) (_ho : o.op = .lookup 67 m x true) (h : wpList Try.prog ops Q (o :: rest) ac w) : wpList Try.prog ops Q (o :: rest) ac w := h
theorem at_update (m x y : Operand) (_ho : o.op = .mapUpdate 67 m x y) (h : wpList Try.prog ops Q (o :: rest) ac w) : wpList Try.prog ops Q (o :: rest) ac w := h
theorem at_make (_ho : o.op = .makeMap 67 none) (h : wpList Try.prog ops Q (o :: rest) ac w) : wpList Try.prog ops Q (o :: rest) ac w := h
theorem wpList_lookup (hgd : o.guard = none) (m x : Operand) (ho : o.op = .lookup 67 m x true) (q : Nat) (hm : ac.eval m = .map (some q)) (k c u r : Int) (e : Bool) (y : Int) (hx : ac.eval x = .agg #[.int .i64 k, .int .i64 c, .int .i64 u, .int .i64 r, .bool e, .int .i64 y])
    (t : Nat) (hM : w.heap[q]? = some (.map #[] t)) (h : wpList Try.prog ops Q rest (ac.put o.dst (.tuple #[.int .i64 0, .bool false])) w) :
    wpList Try.prog ops Q (o :: rest) ac w :=
  wpList_plain hgd fun K hK => by
    have h1 := look hM k c u r e y
    rw [kv] at h1
    unfold Oper.wp
    simp [execOp, ho, hm, hx, h1, Result.andThen]
    exact hK _ _ h
theorem wpList_update (hgd : o.guard = none) (m x y : Operand) (ho : o.op = .mapUpdate 67 m x y) (q : Nat) (hm : ac.eval m = .map (some q)) (k c u r : Int) (e : Bool) (z : Int) (hx : ac.eval x = .agg #[.int .i64 k, .int .i64 c, .int .i64 u, .int .i64 r, .bool e, .int .i64 z]) (n : Int) (hy : ac.eval y = .int .i64 n)
    (t : Nat) (hM : w.heap[q]? = some (.map #[] t)) (h : ∀ w', w.grownBy w' (some q) → wpList Try.prog ops Q rest (ac.put o.dst undef) w') :
    wpList Try.prog ops Q (o :: rest) ac w :=
  wpList_plain hgd fun K hK => by
    obtain ⟨w', h1, h2⟩ := note hM k c u r e z n
    rw [kv] at h1
    unfold Oper.wp
    simp [execOp, ho, hm, hx, hy, h1, Result.andThen]
    exact hK _ _ (h w' h2)
theorem wpList_make (hgd : o.guard = none) (ho : o.op = .makeMap 67 none) (h : wpList Try.prog ops Q rest (ac.put o.dst (.map (some w.heap.size))) (w.alloc (.map #[] 0))) : wpList Try.prog ops Q (o :: rest) ac w :=
  wpList_plain hgd fun K hK => by
    unfold Oper.wp
    simp [execOp, ho, make, Result.andThen]
    exact hK _ _ h
end

end Go.Proofs.Ytdmegfbeibbmfaa.AmtM
