/- Contracts and mathematics, joined: MathT, MathS. Conditions stand with each. -/
import Derived.Lib.IndexBytes
import Derived.Lib.ItoaNum
import Derived.Lib.SplitLaws
import Derived.Test.YtjpekonfjihcoaaGreatDoorM3
namespace Go.TintM
end Go.TintM
set_option maxRecDepth 100000
set_option maxHeartbeats 64000000
set_option linter.unusedVariables false
set_option linter.unusedSimpArgs false
/- Plain mathematics of the texts of sheets: lines, checks, what is read. No condition; nothing of the program. -/
namespace Go.TintM

/-- Bytes as a string. -/
abbrev bs (l : List UInt8) : ByteArray := ⟨l.toArray⟩
theorem bs_append (a b : List UInt8) : bs a ++ bs b = bs (a ++ b) := by
 apply ByteArray.ext
 simp [ByteArray.data_append]
theorem bs_size (l : List UInt8) : (bs l).size = l.length := by simp [bs, ByteArray.size]
def digs (n : Nat) : List UInt8 := Lib.decDigits n
theorem digs_len {n : Nat} (h : n < 100) : (digs n).length ≤ 2 := by
 unfold digs
 rw [Lib.decDigits]
 split
 ·simp
 ·rw [Lib.decDigits, dif_pos (by omega)]; simp
/-- A line: a word, and numbers. -/
def rowB (word : List UInt8) (ns : List Nat) : List UInt8 := word ++ ns.flatMap fun n => 32 :: digs n
theorem rowB_snoc (word : List UInt8) (ns : List Nat) (n : Nat) : rowB word (ns ++ [n]) = rowB word ns ++ 32 :: digs n := by simp [rowB]
theorem rowB_len (word : List UInt8) {ns : List Nat} (h : ∀ n ∈ ns, n < 100) : (rowB word ns).length ≤ word.length + 3 * ns.length := by
 induction ns with
 | nil => simp [rowB]
 | cons n ns ih =>
  have := ih fun m hm => h m (by simp [hm])
  have := digs_len (h n (by simp))
  simp only [rowB, List.flatMap_cons, List.length_append, List.length_cons] at *
  omega
/-- The sum of a line, up to its k-th byte, in row i. -/
def sumB (i : Nat) (s : List UInt8) (k : Nat) : Nat := ((List.range k).map fun j => (s.getD j 0).toNat * (j + 1) * (i + 1)).sum
theorem sumB_succ (i : Nat) (s : List UInt8) (k : Nat) : sumB i s (k + 1) = sumB i s k + (s.getD k 0).toNat * (k + 1) * (i + 1) := by simp [sumB, List.range_succ]
theorem term_le {x k i K I : Nat} (hx : x < 256) (hk : k < K) (hi : i < I) : x * (k + 1) * (i + 1) ≤ 256 * K * I := Nat.mul_le_mul (Nat.mul_le_mul (by omega) (by omega)) (by omega)
theorem sumB_le (i : Nat) (s : List UInt8) {k K I : Nat} (hk : k ≤ K) (hi : i < I) : sumB i s k ≤ k * (256 * K * I) := by
 induction k with
 | zero => simp [sumB]
 | succ k ih =>
  rw [sumB_succ, Nat.succ_mul]
  have := ih (by omega)
  have := term_le (x := (s.getD k 0).toNat) (UInt8.toNat_lt _) (k := k) (K := K) (by omega) hi
  omega
/-- The sum of the first k lines. -/
def sumAll (L : List (List UInt8)) (k : Nat) : Nat := ((List.range k).map fun i => sumB i (L.getD i []) (L.getD i []).length).sum
theorem sumAll_succ (L : List (List UInt8)) (k : Nat) : sumAll L (k + 1) = sumAll L k + sumB k (L.getD k []) (L.getD k []).length := by simp [sumAll, List.range_succ]
theorem sumAll_le {L : List (List UInt8)} {k : Nat} (h : ∀ s ∈ L, s.length ≤ 4000) (hk : k ≤ L.length) (hL : L.length ≤ 1000) : sumAll L k ≤ k * 4096000000000 := by
 induction k with
 | zero => simp [sumAll]
 | succ k ih =>
  rw [sumAll_succ, Nat.succ_mul]
  have := ih (by omega)
  have e : L.getD k [] = L[k] := by simp [List.getD, show k < L.length by omega]
  have h1 := h _ (List.getElem_mem (show k < L.length by omega))
  have := sumB_le k (L.getD k []) (k := (L.getD k []).length) (K := 4000) (I := 1000) (by rw [e]; exact h1) (by omega)
  have : (L.getD k []).length * (256 * 4000 * 1000) ≤ 4000 * (256 * 4000 * 1000) := Nat.mul_le_mul_right _ (by rw [e]; exact h1)
  omega
/-- The first k lines, each with its end. -/
def outAll (L : List (List UInt8)) (k : Nat) : List UInt8 := (L.take k).flatMap fun s => s ++ [10]
theorem outAll_succ {L : List (List UInt8)} {k : Nat} (hk : k < L.length) : outAll L (k + 1) = outAll L k ++ (L[k] ++ [10]) := by
 rw [outAll, List.take_succ_eq_append_getElem hk, List.flatMap_append]; simp [outAll]
theorem outAll_le {L : List (List UInt8)} {k : Nat} (h : ∀ s ∈ L, s.length ≤ 4000) (hk : k ≤ L.length) : (outAll L k).length ≤ k * 4001 := by
 induction k with
 | zero => simp [outAll]
 | succ k ih =>
  have := ih (by omega)
  have := h _ (List.getElem_mem (show k < L.length by omega))
  rw [outAll_succ (by omega), List.length_append, List.length_append, List.length_singleton, Nat.succ_mul]
  omega
def wBoard : List UInt8 := [98, 111, 97, 114, 100]
def wFade : List UInt8 := [102, 97, 100, 101]
def wTin : List UInt8 := [116, 105, 110]
/-- What a text has: the numbers of its first two lines, and those of the tins. -/
structure Tx where
 head : List Nat
 fade : List Nat
 tins : List (List Nat)
def linesB (x : Tx) : List (List UInt8) := rowB wBoard x.head :: rowB wFade x.fade :: x.tins.map (rowB wTin)
def checkOf (L : List (List UInt8)) : Nat := sumAll L L.length % 199
def wEnd : List UInt8 := [101, 110, 100, 32]
def sealB (L : List (List UInt8)) : List UInt8 := outAll L L.length ++ wEnd ++ digs (checkOf L / 100) ++ digs (checkOf L / 10 % 10) ++ digs (checkOf L % 10) ++ [10]
def textB (x : Tx) : List UInt8 := sealB (linesB x)
theorem linesB_length (x : Tx) : (linesB x).length = x.tins.length + 2 := by simp [linesB]

def isDig (b : UInt8) : Bool := decide (48 ≤ b.toNat) && decide (b.toNat ≤ 57)
def valOf (l : List UInt8) : Nat := l.foldl (fun n b => 10 * n + (b.toNat - 48)) 0
/-- The number that a word is. -/
def parseNum (l : List UInt8) : Option Nat := if (l ≠ [] ∧ l.length ≤ 2 ∧ l.all isDig = true) ∧ digs (valOf l) = l then some (valOf l) else none
theorem valOf_snoc (l : List UInt8) (b : UInt8) : valOf (l ++ [b]) = 10 * valOf l + (b.toNat - 48) := by simp [valOf]
theorem val2 {l : List UInt8} (h : l.length ≤ 2) (hd : l.all isDig = true) : valOf l < 100 := by
 match l, h with
 | [], _ => simp [valOf]
 | [a], _ => simp [isDig] at hd; simp [valOf]; omega
 | [a, b], _ => simp [isDig] at hd; simp [valOf]; omega

theorem val1 {l : List UInt8} (h : l.length ≤ 1) (hd : l.all isDig = true) : valOf l ≤ 9 := by
 match l, h with
 | [], _ => simp [valOf]
 | [a], _ => simp [isDig] at hd; simp [valOf]; omega

/-- The parts between one byte. -/
def spl (c : UInt8) : List UInt8 → List (List UInt8)
 | [] => [[]]
 | x :: l => if x = c then [] :: spl c l else (x :: (spl c l).headD []) :: (spl c l).tail
theorem spl_pos (c : UInt8) (l : List UInt8) : 1 ≤ (spl c l).length := by
 cases l with
 | nil => simp [spl]
 | cons x l => simp only [spl]; split <;> simp
theorem spl_ne (c : UInt8) (l : List UInt8) : spl c l ≠ [] := fun h => by have := spl_pos c l; rw [h] at this; simp at this
theorem spl_none {c : UInt8} {l : List UInt8} (h : c ∉ l) : spl c l = [l] := by
 induction l with
 | nil => rfl
 | cons x l ih =>
  have h1 : ¬ x = c := fun e => h (by simp [e])
  rw [spl, if_neg h1, ih (fun hm => h (by simp [hm]))]; rfl
theorem spl_hit {c : UInt8} {a : List UInt8} (b : List UInt8) (h : c ∉ a) : spl c (a ++ c :: b) = a :: spl c b := by
 induction a with
 | nil => simp [spl]
 | cons x a ih =>
  have h1 : ¬ x = c := fun e => h (by simp [e])
  rw [List.cons_append, spl, if_neg h1, ih (fun hm => h (by simp [hm]))]; rfl
theorem spl_len (c : UInt8) (l : List UInt8) : (spl c l).length ≤ l.length + 1 := by
 induction l with
 | nil => simp [spl]
 | cons x l ih =>
  simp only [spl]
  split
  ·simp; exact ih
  ·have := spl_pos c l; simp; omega
theorem spl_part {c : UInt8} {l p : List UInt8} (h : p ∈ spl c l) : p.length ≤ l.length := by
 induction l generalizing p with
 | nil => simp [spl] at h; simp [h]
 | cons x l ih =>
  simp only [spl] at h
  split at h
  ·rcases List.mem_cons.1 h with rfl | h
   ·simp
   ·have := ih h; simp; omega
  ·rcases List.mem_cons.1 h with rfl | h
   ·have : (spl c l).headD [] ∈ spl c l := by
     cases hs : spl c l with
     | nil => exact absurd hs (spl_ne c l)
     | cons a b => simp
    have := ih this
    simp; simpa using this
   ·have := ih (List.mem_of_mem_tail h); simp; omega

theorem split_spl (c : UInt8) : ∀ (m : Nat) (l : List UInt8), l.length ≤ m → Lib.splitK [c] 0 (Lib.count l [c]) l = spl c l ∧ Lib.count l [c] + 1 = (spl c l).length := by
 intro m
 induction m with
 | zero =>
  intro l h
  have : l = [] := List.eq_nil_of_length_eq_zero (by omega)
  subst this
  have h1 : Lib.index [] [c] = -1 := by rw [Lib.index_one]; rfl
  rw [Lib.count_miss h1]
  exact ⟨rfl, rfl⟩
 | succ m ih =>
  intro l h
  have hi := Lib.index_one l c
  have hge := Lib.indexByte_ge l c
  by_cases hm : Lib.indexByte l c = -1
  ·have h1 : Lib.index l [c] = -1 := by rw [hi]; exact hm
   have hno := Lib.indexByte_none hm
   have hnot : c ∉ l := fun hc => by
    obtain ⟨k, hk⟩ := List.mem_iff_getElem?.1 hc
    exact hno k hk
   rw [Lib.count_miss h1, spl_none hnot]
   exact ⟨rfl, rfl⟩
  ·obtain ⟨o, ho⟩ : ∃ o : Nat, Lib.indexByte l c = o := ⟨(Lib.indexByte l c).toNat, by omega⟩
   obtain ⟨h1, h2⟩ := Lib.indexByte_some ho
   have hidx : Lib.index l [c] = o := by rw [hi]; exact ho
   obtain ⟨hol, hoc⟩ := List.getElem?_eq_some_iff.1 h1
   have hl : l = l.take o ++ c :: l.drop (o + 1) := by
    have := List.drop_eq_getElem_cons hol
    rw [hoc] at this
    rw [← this, List.take_append_drop]
   have hnot : c ∉ l.take o := fun hc => by
    obtain ⟨k, hk⟩ := List.mem_iff_getElem?.1 hc
    rw [List.getElem?_take] at hk
    split at hk
    ·rename_i hlt; exact h2 k hlt hk
    ·cases hk
   have hs : spl c l = l.take o :: spl c (l.drop (o + 1)) := by
    have := spl_hit (l.drop (o + 1)) hnot
    rw [← hl] at this; exact this
   have hc := Lib.count_hit (by simp) hidx
   obtain ⟨i1, i2⟩ := ih (l.drop (o + 1)) (by rw [List.length_drop]; omega)
   rw [List.length_singleton] at hc
   have hne : ¬ (Lib.index l [c] == -1) = true := fun e => by have := beq_iff_eq.1 e; omega
   have hto : (Lib.index l [c]).toNat = o := by omega
   rw [hc, hs]
   refine ⟨?_, by rw [List.length_cons, ← i2]; omega⟩
   rw [Nat.add_comm, Lib.splitK, if_neg hne, hto, Nat.add_zero, List.length_singleton, i1]

theorem splitB_spl (c : UInt8) (l : List UInt8) : Lib.splitB (bs [c]) 0 (Lib.countB (bs l) (bs [c])) (bs l) = (spl c l).map bs ∧ Lib.countB (bs l) (bs [c]) + 1 = (spl c l).length := by
 obtain ⟨h1, h2⟩ := split_spl c l.length l (Nat.le_refl _)
 have h3 := Lib.splitB_data (bs [c]) 0 (Lib.countB (bs l) (bs [c])) (bs l)
 have hcb : Lib.countB (bs l) (bs [c]) = Lib.count l [c] := rfl
 have h4 : (Lib.splitB (bs [c]) 0 (Lib.countB (bs l) (bs [c])) (bs l)).map (·.data.toList) = spl c l := h3.trans (by rw [hcb]; exact h1)
 refine ⟨?_, by rw [hcb]; exact h2⟩
 rw [← h4, List.map_map]
 have : (bs ∘ fun x : ByteArray => x.data.toList) = id := by funext x; simp [bs]
 rw [this, List.map_id]

/-! ### digits -/
theorem digs_eq {n : Nat} (h : n < 100) : digs n = if n < 10 then [UInt8.ofNat (48 + n)] else [UInt8.ofNat (48 + n / 10), UInt8.ofNat (48 + n % 10)] := by
 unfold digs
 rw [Lib.decDigits]
 split
 ·rfl
 ·rw [Lib.decDigits, dif_pos (by omega)]; rfl
theorem digs_facts : ∀ n, n < 100 → (digs n ≠ [] ∧ (digs n).length ≤ 2 ∧ (digs n).all isDig = true) ∧ valOf (digs n) = n := by
 have h : ∀ n : Fin 100, ∀ d, d = (if n.1 < 10 then [UInt8.ofNat (48 + n.1)] else [UInt8.ofNat (48 + n.1 / 10), UInt8.ofNat (48 + n.1 % 10)]) → (d ≠ [] ∧ d.length ≤ 2 ∧ d.all isDig = true) ∧ valOf d = n.1 := by
  intro n d e
  subst e
  revert n
  decide +kernel
 intro n hn
 exact h ⟨n, hn⟩ _ (digs_eq hn)
theorem parse_digs {n : Nat} (h : n < 100) : parseNum (digs n) = some n := by
 obtain ⟨h1, h2⟩ := digs_facts n h
 rw [parseNum, h2, if_pos ⟨h1, rfl⟩]
theorem parse_num {l : List UInt8} {n : Nat} (h : parseNum l = some n) : n < 100 ∧ digs n = l := by
 unfold parseNum at h
 split at h
 ·rename_i hc
  injection h with h
  subst h
  exact ⟨val2 hc.1.2.1 hc.1.2.2, hc.2⟩
 ·cases h
theorem digs_no {n : Nat} (h : n < 100) {c : UInt8} (hc : c.toNat < 48) : c ∉ digs n := fun hm => by
 have := List.all_eq_true.1 (digs_facts n h).1.2.2 c hm
 simp only [isDig, Bool.and_eq_true, decide_eq_true_eq] at this
 omega

/-! ### lines -/
theorem spl_row {word : List UInt8} (hw : (32 : UInt8) ∉ word) {ns : List Nat} (h : ∀ n ∈ ns, n < 100) : spl 32 (rowB word ns) = word :: ns.map digs := by
 induction ns generalizing word with
 | nil => rw [show rowB word [] = word by simp [rowB], spl_none hw]; rfl
 | cons n ns ih =>
  have e : rowB word (n :: ns) = word ++ 32 :: rowB (digs n) ns := by simp [rowB]
  rw [e, spl_hit _ hw, ih (digs_no (h n (by simp)) (by decide)) (fun m hm => h m (by simp [hm]))]; rfl
theorem row_no10 {word : List UInt8} (hw : (10 : UInt8) ∉ word) {ns : List Nat} (h : ∀ n ∈ ns, n < 100) : (10 : UInt8) ∉ rowB word ns := by
 intro hm
 rcases List.mem_append.1 hm with hm | hm
 ·exact hw hm
 ·obtain ⟨n, hn, hm⟩ := List.mem_flatMap.1 hm
  rcases List.mem_cons.1 hm with e | hm
  ·exact absurd e (by decide)
  ·exact digs_no (h n hn) (by decide) hm
theorem spl_lines {L : List (List UInt8)} (hL : ∀ s ∈ L, (10 : UInt8) ∉ s) (t : List UInt8) : spl 10 ((L.flatMap fun s => s ++ [10]) ++ t) = L ++ spl 10 t := by
 induction L with
 | nil => rfl
 | cons s L ih =>
  have e : ((s :: L).flatMap fun s => s ++ [10]) ++ t = s ++ 10 :: ((L.flatMap fun s => s ++ [10]) ++ t) := by simp
  rw [e, spl_hit _ (hL s (by simp)), ih fun s hs => hL s (by simp [hs])]; rfl

/-- Six small numbers a line. -/
def Six (l : List Nat) : Prop := l.length = 6 ∧ ∀ n ∈ l, n < 100
structure Sm (x : Tx) : Prop where
 head : Six x.head
 fade : Six x.fade
 tins : ∀ t ∈ x.tins, Six t
theorem lines_no10 {x : Tx} (h : Sm x) : ∀ s ∈ linesB x, (10 : UInt8) ∉ s := by
 intro s hs
 rcases List.mem_cons.1 hs with rfl | hs
 ·exact row_no10 (by decide) h.head.2
 ·rcases List.mem_cons.1 hs with rfl | hs
  ·exact row_no10 (by decide) h.fade.2
  ·obtain ⟨l, hl, rfl⟩ := List.mem_map.1 hs
   exact row_no10 (by decide) (h.tins l hl).2
theorem check_small (L : List (List UInt8)) : checkOf L < 199 := Nat.mod_lt _ (by decide)
def endB (L : List (List UInt8)) : List UInt8 := wEnd ++ digs (checkOf L / 100) ++ digs (checkOf L / 10 % 10) ++ digs (checkOf L % 10)
theorem sealB_eq (L : List (List UInt8)) : sealB L = (L.flatMap fun s => s ++ [10]) ++ (endB L ++ [10]) := by
 rw [sealB, outAll, List.take_length]; simp [endB]
theorem end_no10 (L : List (List UInt8)) : (10 : UInt8) ∉ endB L := by
 have := check_small L
 intro hm
 rcases List.mem_append.1 hm with hm | hm
 ·rcases List.mem_append.1 hm with hm | hm
  ·rcases List.mem_append.1 hm with hm | hm
   ·exact absurd hm (by decide)
   ·exact digs_no (by omega) (by decide) hm
  ·exact digs_no (by omega) (by decide) hm
 ·exact digs_no (by omega) (by decide) hm
theorem spl_text {x : Tx} (h : Sm x) : spl 10 (textB x) = linesB x ++ [endB (linesB x), []] := by
 rw [textB, sealB_eq, spl_lines (lines_no10 h), spl_hit [] (end_no10 _)]; rfl

/-! ### what is read -/
/-- The six numbers of a line; the word is not looked at: the text is written anew. -/
def lineOk (row : List UInt8) : Option (List Nat) := ((spl 32 row).tail.mapM parseNum).bind fun ns => if ns.length = 6 then some ns else none
def setTx (x : Tx) (i : Nat) (ns : List Nat) : Tx := if i = 0 then { x with head := ns } else if i = 1 then { x with fade := ns } else { x with tins := x.tins ++ [ns] }
def noTx : Tx := ⟨[0, 0, 0, 0, 0, 0], [0, 0, 0, 0, 0, 0], []⟩
def stTo (rows : List (List UInt8)) : Nat → Option Tx
 | 0 => some noTx
 | i + 1 => (stTo rows i).bind fun x => (lineOk (rows.getD i [])).map (setTx x i)
def parse (l : List UInt8) : Option Tx :=
 if (spl 10 l).length < 4 then none else (stTo (spl 10 l) ((spl 10 l).length - 2)).bind fun x => if textB x = l then some x else none
theorem stTo_none {rows : List (List UInt8)} {i : Nat} (h : stTo rows i = none) : ∀ {k : Nat}, i ≤ k → stTo rows k = none := by
 intro k hk
 induction hk with
 | refl => exact h
 | step _ ih => rw [stTo, ih]; rfl
theorem mapM_digs {ns : List Nat} (h : ∀ n ∈ ns, n < 100) : (ns.map digs).mapM parseNum = some ns := by
 induction ns with
 | nil => rfl
 | cons n ns ih =>
  rw [List.map_cons, List.mapM_cons, parse_digs (h n (by simp)), ih fun m hm => h m (by simp [hm])]; rfl
theorem mapM_small {ws : List (List UInt8)} {ns : List Nat} (h : ws.mapM parseNum = some ns) : ∀ n ∈ ns, n < 100 := by
 induction ws generalizing ns with
 | nil => simp at h; subst h; simp
 | cons w ws ih =>
  rw [List.mapM_cons] at h
  cases h1 : parseNum w with
  | none => rw [h1] at h; cases h
  | some a =>
   cases h2 : ws.mapM parseNum with
   | none => rw [h1, h2] at h; cases h
   | some xs =>
    rw [h1, h2] at h
    injection h with h
    subst h
    intro n hn
    rcases List.mem_cons.1 hn with rfl | hn
    ·exact (parse_num h1).1
    ·exact ih h2 n hn
theorem lineOk_six {row : List UInt8} {ns : List Nat} (h : lineOk row = some ns) : Six ns := by
 unfold lineOk at h
 cases h1 : (spl 32 row).tail.mapM parseNum with
 | none => rw [h1] at h; cases h
 | some xs =>
  rw [h1] at h
  simp only [Option.bind_some] at h
  split at h
  ·rename_i hl; injection h with h; subst h; exact ⟨hl, mapM_small h1⟩
  ·cases h
theorem lineOk_row {word : List UInt8} (hw : (32 : UInt8) ∉ word) {s : List Nat} (h : Six s) : lineOk (rowB word s) = some s := by
 rw [lineOk, spl_row hw h.2, List.tail_cons, mapM_digs h.2, Option.bind_some, if_pos h.1]
theorem setTx_small {x : Tx} (h : Sm x) (i : Nat) {ns : List Nat} (hn : Six ns) : Sm (setTx x i ns) := by
 unfold setTx
 split
 ·exact ⟨hn, h.fade, h.tins⟩
 ·split
  ·exact ⟨h.head, hn, h.tins⟩
  ·exact ⟨h.head, h.fade, fun t ht => by
    rcases List.mem_append.1 ht with ht | ht
    ·exact h.tins t ht
    ·rw [List.mem_singleton.1 ht]; exact hn⟩
theorem stTo_small {rows : List (List UInt8)} : ∀ {i : Nat} {x : Tx}, stTo rows i = some x → Sm x := by
 intro i
 induction i with
 | zero => intro x h; injection h with h; subst h; exact ⟨⟨rfl, by simp [noTx]⟩, ⟨rfl, by simp [noTx]⟩, by simp [noTx]⟩
 | succ i ih =>
  intro x h
  rw [stTo] at h
  cases h1 : stTo rows i with
  | none => rw [h1] at h; cases h
  | some q =>
   rw [h1, Option.bind_some] at h
   cases h2 : lineOk (rows.getD i []) with
   | none => rw [h2] at h; cases h
   | some ns =>
    rw [h2] at h
    injection h with h
    subst h
    exact setTx_small (ih h1) i (lineOk_six h2)
theorem stTo_lines {x : Tx} (h : Sm x) (t : List (List UInt8)) : ∀ i, i ≤ x.tins.length → stTo (linesB x ++ t) (i + 2) = some ⟨x.head, x.fade, x.tins.take i⟩ := by
 intro i
 induction i with
 | zero =>
  intro _
  have e0 : (linesB x ++ t).getD 0 [] = rowB wBoard x.head := rfl
  have e1 : (linesB x ++ t).getD 1 [] = rowB wFade x.fade := rfl
  rw [stTo, stTo, stTo, Option.bind_some, e0, lineOk_row (by decide) h.head, Option.map_some, Option.bind_some, e1, lineOk_row (by decide) h.fade]
  rfl
 | succ i ih =>
  intro hi
  rw [stTo, ih (by omega), Option.bind_some]
  have : (linesB x ++ t).getD (i + 2) [] = rowB wTin x.tins[i] := by
   have h1 : (linesB x ++ t)[i + 2]? = some (rowB wTin x.tins[i]) := by
    rw [List.getElem?_append_left (by rw [linesB_length]; omega)]
    simp [linesB, show i < x.tins.length by omega]
   simp only [List.getD, h1, Option.getD_some]
  rw [this, lineOk_row (by decide) (h.tins _ (List.getElem_mem _)), List.take_succ_eq_append_getElem (by omega)]
  rfl
/-- What is read of a text is what was written. -/
theorem parse_text {x : Tx} (h : Sm x) : parse (textB x) = some x := by
 have hs := spl_text h
 have hl : (spl 10 (textB x)).length = x.tins.length + 4 := by rw [hs, List.length_append, linesB_length]; rfl
 rw [parse, if_neg (by omega), hl, hs]
 have e : x.tins.length + 4 - 2 = x.tins.length + 2 := by omega
 rw [e, stTo_lines h _ x.tins.length (Nat.le_refl _), List.take_length, Option.bind_some, if_pos rfl]
theorem parse_iff {l : List UInt8} {x : Tx} : parse l = some x ↔ Sm x ∧ textB x = l := by
 constructor
 ·intro h
  unfold parse at h
  split at h
  ·cases h
  ·cases h1 : stTo (spl 10 l) ((spl 10 l).length - 2) with
   | none => rw [h1] at h; cases h
   | some p =>
    rw [h1, Option.bind_some] at h
    split at h
    ·rename_i ht
     injection h with h
     subst h
     exact ⟨stTo_small h1, ht⟩
    ·cases h
 ·rintro ⟨h, rfl⟩
  exact parse_text h

end Go.TintM
/- Plain mathematics: a text of a sheet with one digit changed is none: the check; how long a text is; sheets and their texts. No condition; nothing of the program. -/
namespace Go.TintM

theorem spl_mid (c : UInt8) (v : List UInt8) : ∀ u : List UInt8, ∃ A p q B, ∀ x : UInt8, x ≠ c → spl c (u ++ x :: v) = A ++ (p ++ x :: q) :: B
 | [] => ⟨[], [], (spl c v).headD [], (spl c v).tail, fun x hx => by rw [List.nil_append, spl, if_neg hx]; rfl⟩
 | y :: u => by
  obtain ⟨A, p, q, B, h⟩ := spl_mid c v u
  by_cases hy : y = c
  ·exact ⟨[] :: A, p, q, B, fun x hx => by rw [List.cons_append, spl, if_pos hy, h x hx]; rfl⟩
  ·cases A with
   | nil => exact ⟨[], y :: p, q, B, fun x hx => by rw [List.cons_append, spl, if_neg hy, h x hx]; rfl⟩
   | cons a A => exact ⟨(y :: a) :: A, p, q, B, fun x hx => by rw [List.cons_append, spl, if_neg hy, h x hx]; rfl⟩

theorem tail_cases {α : Type} {X A B : List α} {e f z : α} (h : X ++ [e, f] = A ++ z :: B) : (B = [] ∧ z = f) ∨ (B = [f] ∧ X = A ∧ z = e) ∨ ∃ B', B = B' ++ [e, f] ∧ X = A ++ z :: B' := by
 have h1 : (X ++ [e]) ++ [f] = A ++ z :: B := by simpa using h
 by_cases hB : B = []
 ·subst hB
  exact .inl ⟨rfl, by have := (List.append_inj' h1 rfl).2; simpa using this.symm⟩
 ·obtain ⟨B1, b, rfl⟩ : ∃ B1 b, B = B1 ++ [b] := ⟨_, _, (List.dropLast_concat_getLast hB).symm⟩
  have h2 : (X ++ [e]) ++ [f] = (A ++ z :: B1) ++ [b] := by simpa using h1
  obtain ⟨h3, h4⟩ := List.append_inj' h2 rfl
  obtain rfl : f = b := by simpa using h4
  by_cases hB1 : B1 = []
  ·subst hB1
   obtain ⟨h5, h6⟩ := List.append_inj' h3 rfl
   exact .inr (.inl ⟨rfl, h5, by simpa using h6.symm⟩)
  ·obtain ⟨B2, b', rfl⟩ : ∃ B2 b, B1 = B2 ++ [b] := ⟨_, _, (List.dropLast_concat_getLast hB1).symm⟩
   have h7 : X ++ [e] = (A ++ z :: B2) ++ [b'] := by simpa using h3
   obtain ⟨h8, h9⟩ := List.append_inj' h7 rfl
   obtain rfl : e = b' := by simpa using h9
   exact .inr (.inr ⟨B2, by simp, h8⟩)

theorem sum_but {f g : Nat → Nat} {a : Nat} (h : ∀ i, i ≠ a → f i = g i) : ∀ m, a < m → ((List.range m).map f).sum + g a = ((List.range m).map g).sum + f a := by
 intro m
 induction m with
 | zero => intro h; omega
 | succ m ih =>
  intro hm
  simp only [List.range_succ, List.map_append, List.sum_append, List.map_cons, List.map_nil, List.sum_cons, List.sum_nil]
  by_cases e : a = m
  ·subst e
   have : (List.range a).map f = (List.range a).map g := List.map_congr_left fun i hi => h i (by have := List.mem_range.1 hi; omega)
   rw [this]; omega
  ·have := ih (by omega)
   have := h m (Ne.symm e)
   omega

theorem getD_mid {α : Type} (p q : List α) (x d : α) (z : α) (i : Nat) (h : i ≠ p.length) : (p ++ x :: q).getD i z = (p ++ d :: q).getD i z := by
 simp only [List.getD_eq_getElem?_getD]
 congr 1
 by_cases hi : i < p.length
 ·rw [List.getElem?_append_left hi, List.getElem?_append_left hi]
 ·rw [List.getElem?_append_right (by omega), List.getElem?_append_right (by omega)]
  obtain ⟨k, hk⟩ : ∃ k, i - p.length = k + 1 := ⟨i - p.length - 1, by omega⟩
  rw [hk]; rfl
theorem getD_here {α : Type} (p q : List α) (x z : α) : (p ++ x :: q).getD p.length z = x := by simp [List.getD_eq_getElem?_getD]
theorem sumB_mid (i : Nat) (p q : List UInt8) (x d : UInt8) : sumB i (p ++ x :: q) (p ++ x :: q).length + d.toNat * (p.length + 1) * (i + 1) = sumB i (p ++ d :: q) (p ++ d :: q).length + x.toNat * (p.length + 1) * (i + 1) := by
 have := sum_but (f := fun j => ((p ++ x :: q).getD j 0).toNat * (j + 1) * (i + 1)) (g := fun j => ((p ++ d :: q).getD j 0).toNat * (j + 1) * (i + 1)) (a := p.length)
  (fun j hj => by simp only [getD_mid p q x d 0 j hj]) (p ++ x :: q).length (by simp)
 simp only [getD_here] at this
 have hl : (p ++ x :: q).length = (p ++ d :: q).length := by simp
 unfold sumB
 rw [← hl]
 exact this
theorem sumAll_mid (A B : List (List UInt8)) (p q : List UInt8) (x d : UInt8) :
  sumAll (A ++ (p ++ x :: q) :: B) (A ++ (p ++ x :: q) :: B).length + d.toNat * (p.length + 1) * (A.length + 1) = sumAll (A ++ (p ++ d :: q) :: B) (A ++ (p ++ d :: q) :: B).length + x.toNat * (p.length + 1) * (A.length + 1) := by
 have := sum_but (f := fun i => sumB i ((A ++ (p ++ x :: q) :: B).getD i []) ((A ++ (p ++ x :: q) :: B).getD i []).length) (g := fun i => sumB i ((A ++ (p ++ d :: q) :: B).getD i []) ((A ++ (p ++ d :: q) :: B).getD i []).length) (a := A.length)
  (fun j hj => by simp only [getD_mid A B (p ++ x :: q) (p ++ d :: q) [] j hj]) (A ++ (p ++ x :: q) :: B).length (by simp)
 simp only [getD_here] at this
 have hm := sumB_mid A.length p q x d
 have hl : (A ++ (p ++ x :: q) :: B).length = (A ++ (p ++ d :: q) :: B).length := by simp
 unfold sumAll
 rw [← hl]
 omega

def decEnd (l : List UInt8) : Nat := ((l.getD 4 0).toNat - 48) * 100 + ((l.getD 5 0).toNat - 48) * 10 + ((l.getD 6 0).toNat - 48)
theorem decEnd_all : ∀ c : Fin 199, decEnd (wEnd ++ digs (c.val / 100) ++ digs (c.val / 10 % 10) ++ digs (c.val % 10)) = c.val := by decide +kernel
theorem end_check {L M : List (List UInt8)} (h : endB L = endB M) : checkOf L = checkOf M := by
 have h1 := decEnd_all ⟨checkOf L, check_small L⟩
 have h2 := decEnd_all ⟨checkOf M, check_small M⟩
 simp only at h1 h2
 rw [← h1, ← h2]
 exact congrArg decEnd h
theorem weights : ∀ k : Fin 23, ∀ i : Fin 6, ∀ x d : Fin 10, ((48 + x.val) * (k.val + 1) * (i.val + 1)) % 199 = ((48 + d.val) * (k.val + 1) * (i.val + 1)) % 199 → x = d := by decide +kernel

theorem Sm.row_len {x : Tx} (h : Sm x) {r : List UInt8} (hr : r ∈ linesB x) : r.length ≤ 23 := by
 have key : ∀ (w : List UInt8) (l : List Nat), Six l → w.length ≤ 5 → (rowB w l).length ≤ 23 := fun w l hl hw => by
  have := rowB_len w hl.2
  rw [hl.1] at this
  omega
 rcases List.mem_cons.1 hr with rfl | hr
 ·exact key _ _ h.head (by decide)
 ·rcases List.mem_cons.1 hr with rfl | hr
  ·exact key _ _ h.fade (by decide)
  ·obtain ⟨t, ht, rfl⟩ := List.mem_map.1 hr
   exact key _ _ (h.tins t ht) (by decide)
theorem flat_len (L : List (List UInt8)) (c : Nat) (h : ∀ s ∈ L, s.length ≤ c) : (L.flatMap fun s => s ++ [10]).length ≤ L.length * (c + 1) := by
 induction L with
 | nil => simp
 | cons s L ih =>
  have h1 := h s List.mem_cons_self
  have h2 := ih fun t ht => h t (List.mem_cons_of_mem _ ht)
  simp only [List.flatMap_cons, List.length_append, List.length_cons, List.length_nil, Nat.succ_mul]
  omega
theorem digs_one {n : Nat} (h : n < 10) : (digs n).length = 1 := by
 unfold digs; rw [Lib.decDigits, dif_pos h]; rfl
theorem Sm.text_len {x : Tx} (h : Sm x) (h4 : x.tins.length ≤ 4) : (textB x).length ≤ 160 := by
 have h2 := flat_len (linesB x) 23 (fun s hs => h.row_len hs)
 rw [linesB_length] at h2
 have hc := check_small (linesB x)
 have d1 := digs_one (n := checkOf (linesB x) / 100) (by omega)
 have d2 := digs_one (n := checkOf (linesB x) / 10 % 10) (by omega)
 have d3 := digs_one (n := checkOf (linesB x) % 10) (by omega)
 have h5 : (x.tins.length + 2) * 24 ≤ 6 * 24 := Nat.mul_le_mul_right _ (by omega)
 rw [textB, sealB_eq, endB]
 simp only [List.length_append, List.length_cons, List.length_nil, d1, d2, d3, wEnd]
 omega

/-- A digit changed: no text. -/
theorem spoilt {X : Tx} (hs : Sm X) (h4 : X.tins.length ≤ 4) {u v : List UInt8} {x d : Nat} (hx : x < 10) (hd : d < 10) (hne : x ≠ d) (ht : textB X = u ++ UInt8.ofNat (48 + x) :: v) : parse (u ++ UInt8.ofNat (48 + d) :: v) = none := by
 cases hp : parse (u ++ UInt8.ofNat (48 + d) :: v) with
 | none => rfl
 | some X' =>
  obtain ⟨hs', ht'⟩ := parse_iff.1 hp
  have tn : ∀ y, y < 10 → (UInt8.ofNat (48 + y)).toNat = 48 + y := fun y hy => by simp; omega
  have n10 : ∀ y, y < 10 → UInt8.ofNat (48 + y) ≠ 10 := fun y hy e => by
   have := tn y hy
   rw [e] at this
   simp at this
   omega
  have hxd : UInt8.ofNat (48 + x) ≠ UInt8.ofNat (48 + d) := fun e => by
   have := tn x hx
   rw [e, tn d hd] at this
   omega
  obtain ⟨A, p, q, B, hspl⟩ := spl_mid 10 v u
  have h1 := hspl _ (n10 x hx)
  have h2 := hspl _ (n10 d hd)
  rw [← ht, spl_text hs] at h1
  rw [← ht', spl_text hs'] at h2
  rcases tail_cases h1 with ⟨rfl, hz⟩ | ⟨rfl, hX, hz⟩ | ⟨B', rfl, hX⟩
  ·cases p <;> simp at hz
  ·rcases tail_cases h2 with ⟨hz', _⟩ | ⟨_, hX', hz'⟩ | ⟨B', hB, _⟩
   ·cases hz'
   ·rw [hX'] at hz'
    rw [hX, ← hz'] at hz
    have := List.append_cancel_left hz
    simp only [List.cons.injEq, and_true] at this
    exact absurd this hxd
   ·have := congrArg List.length hB
    simp at this
  ·rcases tail_cases h2 with ⟨hB, _⟩ | ⟨hB, _, _⟩ | ⟨B'', hB, hX'⟩
   ·have := congrArg List.length hB
    simp at this
   ·have := congrArg List.length hB
    simp at this
   ·obtain ⟨e1, e2⟩ := List.append_inj' hB (by simp)
    subst e1
    have e3 : endB (linesB X) = endB (linesB X') := by simpa using e2
    have hc := end_check e3
    rw [checkOf, checkOf, hX, hX'] at hc
    have hsum := sumAll_mid A B' p q (UInt8.ofNat (48 + x)) (UInt8.ofNat (48 + d))
    rw [tn x hx, tn d hd] at hsum
    have hA : A.length < 6 := by
     have h5 := congrArg List.length hX
     rw [linesB_length] at h5
     simp only [List.length_append, List.length_cons] at h5
     omega
    have hk : p.length < 23 := by
     have := hs.row_len (r := p ++ UInt8.ofNat (48 + x) :: q) (by rw [hX]; simp)
     simp only [List.length_append, List.length_cons] at this
     omega
    have := weights ⟨p.length, hk⟩ ⟨A.length, hA⟩ ⟨x, hx⟩ ⟨d, hd⟩ (by show ((48 + x) * (p.length + 1) * (A.length + 1)) % 199 = ((48 + d) * (p.length + 1) * (A.length + 1)) % 199; omega)
    simp only [Fin.mk.injEq] at this
    exact absurd this hne


/-! sheets and their texts -/
def txOf (s : Sh) : Tx := ⟨[s.old 0, s.old 1, s.old 2, s.ylo, s.yhi, s.off], [s.flo 0, s.fhi 0, s.flo 1, s.fhi 1, s.flo 2, s.fhi 2], s.tins⟩
theorem tx_small {s : Sh} (g : Fine s) : Sm (txOf s) := by
 have o0 := g.old 0 (by omega)
 have o1 := g.old 1 (by omega)
 have o2 := g.old 2 (by omega)
 have f0 := g.flo 0 (by omega)
 have f1 := g.flo 1 (by omega)
 have f2 := g.flo 2 (by omega)
 have e0 := g.fhi 0 (by omega)
 have e1 := g.fhi 1 (by omega)
 have e2 := g.fhi 2 (by omega)
 have y1 := g.ylo
 have y2 := g.yhi
 have y3 := g.off2
 refine ⟨⟨rfl, fun n hn => ?_⟩, ⟨rfl, fun n hn => ?_⟩, fun t ht => ⟨g.six t ht, fun n hn => ?_⟩⟩
 ·simp only [txOf, List.mem_cons, List.not_mem_nil, or_false] at hn
  rcases hn with h | h | h | h | h | h <;> omega
 ·simp only [txOf, List.mem_cons, List.not_mem_nil, or_false] at hn
  rcases hn with h | h | h | h | h | h <;> omega
 ·have h6 := g.six t ht
  have t0 := g.tin t ht 0 (by omega)
  have t1 := g.tin t ht 1 (by omega)
  have t2 := g.tin t ht 2 (by omega)
  match t, h6 with
  | [a, b, c, d, e, f], _ =>
   simp only [tlo, thi, List.getD_cons_zero, List.getD_cons_succ, Nat.mul_zero, Nat.zero_add, Nat.mul_one, show 2 * 2 = 4 from rfl, show 4 + 1 = 5 from rfl, show 2 + 1 = 3 from rfl] at t0 t1 t2
   simp only [List.mem_cons, List.not_mem_nil, or_false] at hn
   (try simp at t0 t1 t2)
   rcases hn with h | h | h | h | h | h <;> omega

end Go.TintM
