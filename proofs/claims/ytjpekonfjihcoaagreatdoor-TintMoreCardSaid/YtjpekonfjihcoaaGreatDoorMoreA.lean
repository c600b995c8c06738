/- Tins in memory of one's own: laid, appended, written. No condition. -/
import Derived.Test.YtjpekonfjihcoaaGreatDoorCBox
import Derived.Test.YtjpekonfjihcoaaGreatDoorM2
import Derived.Test.YtjpekonfjihcoaaGreatDoorMathH
namespace Go.TintM
end Go.TintM
set_option maxRecDepth 100000
set_option maxHeartbeats 64000000
set_option linter.unusedVariables false
set_option linter.unusedSimpArgs false
namespace Go.Proofs.YtjpekonfjihcoaaGreatDoor
open Go.RowKit Go.My Go.TintM

/-! rows of tins of whole numbers -/
abbrev rowsC (ts : List (List Int)) : List Value := ts.flatMap fun t => t.map (Value.int .i64)
theorem rowsC_len {ts : List (List Int)} (h6 : ∀ t ∈ ts, t.length = 6) : (rowsC ts).length = ts.length * 6 := by
 induction ts with
 | nil => rfl
 | cons a ts ih =>
  have e : rowsC (a :: ts) = a.map (Value.int .i64) ++ rowsC ts := rfl
  rw [e, List.length_append, List.length_map, h6 a List.mem_cons_self, ih fun t ht => h6 t (List.mem_cons_of_mem _ ht), List.length_cons]
  omega
theorem rowsC_get {ts : List (List Int)} (h6 : ∀ t ∈ ts, t.length = 6) {i : Nat} {t : List Int} (ht : ts[i]? = some t) {j : Nat} {x : Int} (hx : t[j]? = some x) : (rowsC ts)[i * 6 + j]? = some (.int .i64 x) := by
 induction ts generalizing i with
 | nil => simp at ht
 | cons a ts ih =>
  have ha : (a.map (Value.int .i64)).length = 6 := by rw [List.length_map]; exact h6 a List.mem_cons_self
  have e : rowsC (a :: ts) = a.map (Value.int .i64) ++ rowsC ts := rfl
  rw [e]
  cases i with
  | zero =>
   simp only [List.getElem?_cons_zero, Option.some.injEq] at ht
   subst ht
   have hj : j < 6 := by
    have := (List.getElem?_eq_some_iff.1 hx).1
    have := h6 a List.mem_cons_self
    omega
   rw [List.getElem?_append_left (by rw [ha]; omega), Nat.zero_mul, Nat.zero_add, List.getElem?_map, hx]
   rfl
  | succ i =>
   simp only [List.getElem?_cons_succ] at ht
   rw [List.getElem?_append_right (by rw [ha]; omega), ha, show (i + 1) * 6 + j - 6 = i * 6 + j by omega]
   exact ih (fun t ht => h6 t (List.mem_cons_of_mem _ ht)) ht
theorem rowsC_at {ts : List (List Int)} (h6 : ∀ t ∈ ts, t.length = 6) {j : Nat} {u : Value} (hu : (rowsC ts)[j]? = some u) : ∃ i k t x, j = i * 6 + k ∧ ts[i]? = some t ∧ t[k]? = some x ∧ u = .int .i64 x := by
 have hj := (List.getElem?_eq_some_iff.1 hu).1
 rw [rowsC_len h6] at hj
 have hi : j / 6 < ts.length := by omega
 have ht : ts[j / 6]? = some ts[j / 6] := by simp [hi]
 have hl := h6 _ (List.getElem_mem hi)
 have hk : j % 6 < ts[j / 6].length := by omega
 have hx : ts[j / 6][j % 6]? = some ts[j / 6][j % 6] := by simp [hk]
 have := rowsC_get h6 ht hx
 rw [show j / 6 * 6 + j % 6 = j by omega, hu] at this
 exact ⟨j / 6, j % 6, _, _, by omega, ht, hx, by injection this⟩
theorem rowsC_set {ts : List (List Int)} (h6 : ∀ t ∈ ts, t.length = 6) {i k : Nat} (hi : i < ts.length) (hk : k < 6) (x : Int) : (rowsC ts).set (i * 6 + k) (.int .i64 x) = rowsC (ts.set i ((ts.getD i []).set k x)) := by
 induction ts generalizing i with
 | nil => simp at hi
 | cons a ts ih =>
  have ha : (a.map (Value.int .i64)).length = 6 := by rw [List.length_map]; exact h6 a List.mem_cons_self
  have e : rowsC (a :: ts) = a.map (Value.int .i64) ++ rowsC ts := rfl
  rw [e, List.set_append]
  cases i with
  | zero =>
   rw [if_pos (by rw [ha]; omega), Nat.zero_mul, Nat.zero_add]
   simp [rowsC]
  | succ i =>
   rw [if_neg (by rw [ha]; omega), ha, show (i + 1) * 6 + k - 6 = i * 6 + k by omega, ih (fun t ht => h6 t (List.mem_cons_of_mem _ ht)) (by simpa using hi)]
   simp [rowsC]
theorem set_six {ts : List (List Int)} (h6 : ∀ t ∈ ts, t.length = 6) {i k : Nat} (x : Int) (hi : i < ts.length) : ∀ t ∈ ts.set i ((ts.getD i []).set k x), t.length = 6 := fun t ht => by
 rcases List.mem_or_eq_of_mem_set ht with h | h
 ·exact h6 t h
 ·rw [h, List.length_set]
  exact h6 _ (by simp [List.getD, hi])

/-- A tin with another span of one pigment. -/
def setPig (t : List Int) (p : Nat) (lo hi : Int) : List Int := (t.set (2 * p) lo).set (2 * p + 1) hi
theorem rowsC_pig {ts : List (List Int)} (h6 : ∀ t ∈ ts, t.length = 6) {i p : Nat} (hi : i < ts.length) (hp : p < 3) (x y : Int) :
  ((rowsC ts).set (i * 6 + p * 2) (.int .i64 x)).set (i * 6 + p * 2 + 1) (.int .i64 y) = rowsC (ts.set i (setPig (ts.getD i []) p x y)) := by
 rw [rowsC_set h6 hi (by omega) x, Nat.add_assoc, rowsC_set (set_six h6 x hi) (by rw [List.length_set]; exact hi) (by omega) y, List.set_set]
 congr 2
 simp [setPig, List.getD, hi, Nat.mul_comm p 2]
theorem pig_six {ts : List (List Int)} (h6 : ∀ t ∈ ts, t.length = 6) {i p : Nat} {x y : Int} (hi : i < ts.length) : ∀ t ∈ ts.set i (setPig (ts.getD i []) p x y), t.length = 6 := fun t ht => by
 rcases List.mem_or_eq_of_mem_set ht with h | h
 ·exact h6 t h
 ·rw [h, setPig, List.length_set, List.length_set]
  exact h6 _ (by simp [List.getD, hi])

/-! in memory -/
theorem own_ext {w w' : World} {B sz n : Nat} {e : TypeId} {v : Value} {xs : List Value} (h : w.ownsRow B e sz v n xs) (hE : Ext w w') : w'.ownsRow B e sz v n xs := by
 refine ⟨h.1, ?_⟩
 rcases h.2 with h2 | ⟨g, cap, cur, hv, hb, hg, r⟩
 ·exact .inl h2
 ·exact .inr ⟨g, cap, cur, hv, hb, (hE.block g (Array.getElem?_eq_some_iff.1 hg).1).trans hg, r⟩
theorem own_cb {W : World} {B sz n : Nat} {e : TypeId} {v : Value} {xs : List Value} (h : W.ownsRow B e sz v n xs) (hn : 0 < n) : ∃ g cap, v = .slice (some ⟨g, 0, none⟩) n cap ∧ B ≤ g ∧ n ≤ cap ∧ cap ≤ maxLen ∧ CB W g xs := by
 rcases h.2 with ⟨_, h2⟩ | ⟨g, cap, cur, rfl, hb, hh, h3, h4, h5, h7⟩
 ·omega
 ·refine ⟨g, cap, rfl, hb, h3, h4, fun i u hu => ?_, fun i _ => frozen_of_row _ _ i _ _ hh⟩
  rw [← h7, List.getElem?_take] at hu
  split at hu
  ·rw [cell_of_row W g i cur e (0, 0) hh]; simpa using hu
  ·cases hu
theorem cb_tins {W : World} {g : Nat} {ts : List (List Int)} (h : CB W g (rowsC ts)) (h6 : ∀ t ∈ ts, t.length = 6) : TinsAt W (some ⟨g, 0, none⟩) ts := fun i t ht => by
 have hl := h6 t (List.mem_of_getElem? ht)
 have h0 := h.c _ _ (rowsC_get h6 ht (show t[0]? = some t[0] by simp [hl]))
 refine ⟨g, 0, rfl, World.block_lt_of_cell? _ _ h0, hl, fun j x hx => ?_⟩
 have := h.c _ _ (rowsC_get h6 ht hx)
 rwa [show 0 + i * 6 + j = i * 6 + j by omega]
theorem tins_cells {w : World} {ad : Addr} {ts : List (List Int)} (h : TinsAt w (some ad) ts) (h6 : ∀ t ∈ ts, t.length = 6) : ∀ (j : Nat) (u : Value), (rowsC ts)[j]? = some u → w.cell? (ad.add j) = some u := fun j u hu => by
 obtain ⟨i, k, t, x, rfl, ht, hx, rfl⟩ := rowsC_at h6 hu
 obtain ⟨b, off, he, _, _, hc⟩ := h i t ht
 cases he
 rw [add_none, ← Nat.add_assoc]
 exact hc k x hx
theorem tins_pig {w : World} {ot : Option Addr} {ts : List (List Int)} (h : TinsAt w ot ts) {i p : Nat} (hi : i < ts.length) (hp : p < 3) : ∃ b off, ot = some ⟨b, off, none⟩ ∧ b < w.heap.size ∧
  w.cell? ⟨b, off + i * 6 + p * 2, none⟩ = some (.int .i64 ((ts.getD i []).getD (2 * p) 0)) ∧ w.cell? ⟨b, off + i * 6 + p * 2 + 1, none⟩ = some (.int .i64 ((ts.getD i []).getD (2 * p + 1) 0)) := by
 obtain ⟨b, off, h1, h2, h3, h4⟩ := h i ts[i] (by simp [hi])
 have e : ts.getD i [] = ts[i] := by simp [List.getD, hi]
 rw [e]
 have g0 : ∀ j, j < 6 → ts[i][j]? = some (ts[i].getD j 0) := fun j hj => by simp [List.getD, h3, hj]
 exact ⟨b, off, h1, h2, by have := h4 (2 * p) _ (g0 _ (by omega)); rwa [Nat.mul_comm 2 p] at this ⊢, by have := h4 (2 * p + 1) _ (g0 _ (by omega)); rw [Nat.mul_comm 2 p] at this ⊢; rwa [← Nat.add_assoc] at this⟩

/-- append([]TintTin(nil), l...), of some. -/
theorem wpList_appTins (i82' : (Tryz.prog.info? 82).map (fun i => (i.zero, i.size, i.bytes)) = some (some (.agg #[.int .i64 0, .int .i64 0, .int .i64 0, .int .i64 0, .int .i64 0, .int .i64 0]), 6, 48)) (w : World) {ops : Array Oper} {rest : List Oper} {o : Oper} {a : Act} {Q : Exit → Act → World → Prop} (hgd : o.guard = none) (s x : Operand)
  (ho : o.op = .call { callee := .builtin .append, args := #[s, x], argTypes := #[26, 26] }) (ts : List (List Int)) (ob : Option Addr) (cb : Nat) (hs : a.eval s = .slice none 0 0) (hx : a.eval x = .slice ob ts.length cb) (hi : TinsAt w ob ts) (h6 : ∀ t ∈ ts, t.length = 6) (h1 : 0 < ts.length)
  (hl : ts.length ≤ 1000) (h : ∀ v' w', w'.ownsRow w.heap.size 82 6 v' ts.length (rowsC ts) → Ext w w' → wpList Tryz.prog ops Q rest (a.put o.dst v') w') : wpList Tryz.prog ops Q (o :: rest) a w := by
 obtain ⟨i, hi1, hi2, hi3, hi4⟩ := info_parts i82'
 obtain ⟨b, off, rfl, _⟩ := hi 0 ts[0] (by simp [h1])
 refine wpList_append_own w hgd s x 26 ho w.heap.size 82 i (.agg #[.int .i64 0, .int .i64 0, .int .i64 0, .int .i64 0, .int .i64 0, .int .i64 0]) 6 48 Tryz.underlying26 hi1 hi2 hi3 hi4 rfl (by decide) (.slice none 0 0) 0 [] hs (World.ownsRow_nil _ _ _ _) ⟨b, off, none⟩ ts.length cb (rowsC ts) hx (rowsC_len h6) (tins_cells hi h6) ?_ ?_ ?_ (Nat.le_refl _) ?_
 ·intro u hu
  obtain ⟨j, hj⟩ := List.mem_iff_getElem?.1 hu
  obtain ⟨_, _, _, _, _, _, _, rfl⟩ := rowsC_at h6 hj
  rfl
 ·unfold maxLen; omega
 ·omega
 ·intro v' w' ho' hg _
  rw [Nat.zero_add, List.nil_append] at ho'
  exact h v' w' ho' ((Below.refl w.heap.size w).grown hg (Nat.le_refl _) fun k hk => by simp [Value.ownBlock] at hk)

/-! the sheet that is made -/
def moreX (S : SI) (p : Nat) (fl fh yl yh off : Int) (ts : List (List Int)) : SI where
 o0 := S.o0
 o1 := S.o1
 o2 := S.o2
 a0 := if p = 0 then fl else S.a0
 b0 := if p = 0 then fh else S.b0
 a1 := if p = 1 then fl else S.a1
 b1 := if p = 1 then fh else S.b1
 a2 := if p = 2 then fl else S.a2
 b2 := if p = 2 then fh else S.b2
 ylo := yl
 yhi := yh
 off := off
 tins := ts
theorem more_cells (S : SI) (ot og : Option Addr) (cap cg n p : Nat) (hp : p < 3) (fl fh yl yh off : Int) (ts : List (List Int)) (hn : ts.length = n) :
  (((((((sheetC S ot cap).toList.set 12 (.slice og n cg)).set (3 + p * 2) (.int .i64 fl)).set (3 + p * 2 + 1) (.int .i64 fh)).set 9 (.int .i64 yl)).set 10 (.int .i64 yh)).set 11 (.int .i64 off)) = (sheetC (moreX S p fl fh yl yh off ts) og cg).toList := by
 subst hn
 match p, hp with
 | 0, _ => rfl
 | 1, _ => rfl
 | 2, _ => rfl
/-- What a narrower sheet is, in numbers. -/
theorem more_narrow {s x : Sh} (g : Fine s) {i p : Nat} (hi : i < s.tins.length) (hp : p < 3) {sl sh fl fh yl yh off : Int} {more : List Int} (h6 : more.length = 6)
  (hsl : (tlo (s.tins.getD i []) p : Int) ≤ sl) (hsh : sh ≤ (thi (s.tins.getD i []) p : Int)) (hfl : (s.flo p : Int) ≤ fl) (hfh : fh ≤ (s.fhi p : Int)) (hyl : (s.ylo : Int) ≤ yl) (hyh : yh ≤ (s.yhi : Int)) (ho : (s.off : Int) ≤ off)
  (e : moreX (ofSh s) p fl fh yl yh off (((ofSh s).tins ++ [more]).set i (setPig (((ofSh s).tins ++ [more]).getD i []) p sl sh)) = ofSh x) : Narrow s x := by
 have eo0 := congrArg SI.o0 e
 have eo1 := congrArg SI.o1 e
 have eo2 := congrArg SI.o2 e
 have ea0 := congrArg SI.a0 e
 have eb0 := congrArg SI.b0 e
 have ea1 := congrArg SI.a1 e
 have eb1 := congrArg SI.b1 e
 have ea2 := congrArg SI.a2 e
 have eb2 := congrArg SI.b2 e
 have eyl := congrArg SI.ylo e
 have eyh := congrArg SI.yhi e
 have eof := congrArg SI.off e
 have ets := congrArg SI.tins e
 simp only [moreX, ofSh] at eo0 eo1 eo2 ea0 eb0 ea1 eb1 ea2 eb2 eyl eyh eof ets
 have hlen : x.tins.length = s.tins.length + 1 := by
  have := congrArg List.length ets
  simpa using this.symm
 refine ⟨fun q hq => ?_, fun q hq => ?_, fun q hq => ?_, by omega, by omega, by omega, hlen, fun j hj q hq => ?_⟩
 ·match q, hq with
  | 0, _ => omega
  | 1, _ => omega
  | 2, _ => omega
 ·match q, hq with
  | 0, _ => split at ea0 <;> (try subst p) <;> omega
  | 1, _ => split at ea1 <;> (try subst p) <;> omega
  | 2, _ => split at ea2 <;> (try subst p) <;> omega
 ·match q, hq with
  | 0, _ => split at eb0 <;> (try subst p) <;> omega
  | 1, _ => split at eb1 <;> (try subst p) <;> omega
  | 2, _ => split at eb2 <;> (try subst p) <;> omega
 ·have hx : j < x.tins.length := by omega
  have hsj : s.tins.getD j [] = s.tins[j] := by simp [List.getD, hj]
  have hxj : x.tins.getD j [] = x.tins[j] := by simp [List.getD, hx]
  have hup : ∀ (t : List Nat) k, (upL t).getD k 0 = ((t.getD k 0 : Nat) : Int) := fun t k => by
   simp only [upL, List.getD_eq_getElem?_getD, List.getElem?_map]
   cases t[k]? <;> rfl
  have hj' : (x.tins.map upL).getD j [] = upL x.tins[j] := by simp [List.getD, hx]
  have h6s : (s.tins[j]).length = 6 := g.six _ (List.getElem_mem hj)
  rw [hsj, hxj, tlo, thi, tlo, thi]
  have k1 := hup x.tins[j] (2 * q)
  have k2 := hup x.tins[j] (2 * q + 1)
  rw [← hj', ← ets] at k1 k2
  by_cases hij : i = j
  ·subst hij
   have e1 : ((s.tins.map upL ++ [more]).set i (setPig ((s.tins.map upL ++ [more]).getD i []) p sl sh)).getD i [] = setPig (upL s.tins[i]) p sl sh := by
    have e2 : (s.tins.map upL ++ [more]).getD i [] = upL s.tins[i] := by simp [List.getD, List.getElem?_append_left, hi]
    rw [e2]
    simp only [List.getD_eq_getElem?_getD]
    rw [List.getElem?_set_self (by simp; omega)]
    rfl
   rw [e1] at k1 k2
   rw [hsj] at hsl hsh
   simp only [tlo, thi] at hsl hsh
   by_cases hpq : p = q
   ·subst hpq
    have l1 : (setPig (upL s.tins[i]) p sl sh).getD (2 * p) 0 = sl := by
     simp only [setPig, List.getD_eq_getElem?_getD]
     rw [List.getElem?_set_ne (by omega), List.getElem?_set_self (by rw [upL_length]; omega)]; rfl
    have l2 : (setPig (upL s.tins[i]) p sl sh).getD (2 * p + 1) 0 = sh := by
     simp only [setPig, List.getD_eq_getElem?_getD]
     rw [List.getElem?_set_self (by rw [List.length_set, upL_length]; omega)]; rfl
    rw [l1] at k1
    rw [l2] at k2
    omega
   ·have l : ∀ k, k ≠ 2 * p → k ≠ 2 * p + 1 → (setPig (upL s.tins[i]) p sl sh).getD k 0 = (upL s.tins[i]).getD k 0 := fun k n1 n2 => by
     simp only [setPig, List.getD_eq_getElem?_getD]
     rw [List.getElem?_set_ne (fun h => n2 h.symm), List.getElem?_set_ne (fun h => n1 h.symm)]
    rw [l _ (by omega) (by omega), hup] at k1
    rw [l _ (by omega) (by omega), hup] at k2
    omega
  ·have e1 : ((s.tins.map upL ++ [more]).set i (setPig ((s.tins.map upL ++ [more]).getD i []) p sl sh)).getD j [] = upL s.tins[j] := by
    simp [List.getD, List.getElem?_set_ne hij, List.getElem?_append_left, hj]
   rw [e1, hup] at k1 k2
   omega

end Go.Proofs.YtjpekonfjihcoaaGreatDoor
