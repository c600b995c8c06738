/- Contracts and mathematics, joined: Best, Next. Conditions stand with each. -/
import Derived.Test.YtiehfpkcaoeieaaGreatDoorM8
import Derived.Test.YtiehfpkcaoeieaaGreatDoorM6
set_option linter.unusedVariables false
set_option linter.unusedSimpArgs false
/- Contracts: best of compared names; Next's comparison. No condition. -/
namespace Go.Proofs.YtiehfpkcaoeieaaGreatDoor
open Go.RowKit Go.My Go.StripM

theorem less_any (a b c d e f : Int) (w : World) : Calls Tryz.prog 94 #[.agg #[.int .i64 a, .int .i64 b, .int .i64 c], .agg #[.int .i64 d, .int .i64 e, .int .i64 f]] w fun r w' => r = .returned (.bool (decide (c < f))) ∧ Ext w w' := by
  go_enter Tryz.func94, Tryz.ntmps94
  go_wp2
  all_goals go_ret
  all_goals exact ⟨ret_bool (by simp), ((Ext.refl w).alloc _).alloc _⟩

/-- The cells of some things that are compared. -/
def TsAt (w : World) (oa : Option Addr) (ts : List (Nat × Nat × Nat)) : Prop :=
  ∀ (k : Nat) (t : Nat × Nat × Nat), ts[k]? = some t → ∃ b off, oa = some ⟨b, off, none⟩ ∧ b < w.heap.size ∧ w.cell? ⟨b, off + k * 3, none⟩ = some (.int .i64 t.1) ∧ w.cell? ⟨b, off + k * 3 + 1, none⟩ = some (.int .i64 t.2.1) ∧ w.cell? ⟨b, off + k * 3 + 2, none⟩ = some (.int .i64 t.2.2)
theorem TsAt.ext {w w' : World} {oa : Option Addr} {ts : List (Nat × Nat × Nat)} (h : TsAt w oa ts) (hE : Ext w w') : TsAt w' oa ts := by
  intro k t ht
  obtain ⟨b, off, h1, h2, h3, h4, h5⟩ := h k t ht
  exact ⟨b, off, h1, Nat.lt_of_lt_of_le h2 hE.size, cell_ext hE h3, cell_ext hE h4, cell_ext hE h5⟩

/-- The first of those with the least last number. -/
def bestT (t : Nat × Nat × Nat) (ts : List (Nat × Nat × Nat)) : Nat × Nat × Nat := ts.foldl (fun o x => if x.2.2 < o.2.2 then x else o) t

theorem bestT_succ (t : Nat × Nat × Nat) (ts : List (Nat × Nat × Nat)) (k : Nat) (hk : k < ts.length) : bestT t (ts.take (k + 1)) = if ts[k].2.2 < (bestT t (ts.take k)).2.2 then ts[k] else bestT t (ts.take k) := by
  rw [bestT, List.take_succ_eq_append_getElem hk, List.foldl_append]; rfl

theorem results_cell107 {fn : Func} {p : Tmp} (h : fn.results = #[.cell p 107]) (tmps : Array Value) (w : World) (b : Nat) (x y z : Value) (hp : tmps.getD p undef = .pointer (some ⟨b, 0, none⟩))
    (h0 : w.cell? ⟨b, 0, none⟩ = some x) (h1 : w.cell? ⟨b, 1, none⟩ = some y) (h2 : w.cell? ⟨b, 2, none⟩ = some z) : (results fn tmps).run Tryz.prog w = .ok (.agg #[x, y, z]) w := by
  have hp' : tmps[p]?.getD undef = .pointer (some ⟨b, 0, none⟩) := by simpa using hp
  have hagg : (isAgg 107).run Tryz.prog w = .ok true w := by kernel_rfl
  have hsz : (sizeOf 107).run Tryz.prog w = .ok 3 w := by kernel_rfl
  have hl : (loadCells ⟨b, 0, none⟩ 3).run Tryz.prog w = .ok #[x, y, z] w := run_loadCells_list (P := Tryz.prog) w ⟨b, 0, none⟩ [x, y, z] (fun j v hv => by
    rw [add_none]
    match j, hv with
    | 0, hv => simp at hv; subst hv; simpa using h0
    | 1, hv => simp at hv; subst hv; simpa using h1
    | 2, hv => simp at hv; subst hv; simpa using h2)
  simp [results, h, hp', asAddr, loadVar, Sem.run_bind, hagg, hsz, hl]

/-- A box of three numbers that is one's own to write. -/
structure Tri (W : World) (p : Nat) (a b c : Int) : Prop where
  c0 : W.cell? ⟨p, 0, none⟩ = some (.int .i64 a)
  c1 : W.cell? ⟨p, 1, none⟩ = some (.int .i64 b)
  c2 : W.cell? ⟨p, 2, none⟩ = some (.int .i64 c)
  f0 : W.frozen? ⟨p, 0, none⟩ = false
  f1 : W.frozen? ⟨p, 1, none⟩ = false
  f2 : W.frozen? ⟨p, 2, none⟩ = false
theorem Tri.ext {W W' : World} {p : Nat} {a b c : Int} (h : Tri W p a b c) (hE : Ext W W') : Tri W' p a b c :=
  have hp := World.block_lt_of_cell? _ _ h.c0
  ⟨cell_ext hE h.c0, cell_ext hE h.c1, cell_ext hE h.c2, (hE.frozen (by exact hp)).trans h.f0, (hE.frozen (by exact hp)).trans h.f1, (hE.frozen (by exact hp)).trans h.f2⟩

abbrev set3 (W : World) (p : Nat) (a b c : Value) : World := ((W.setCell ⟨p, 0, none⟩ a).setCell ⟨p, 1, none⟩ b).setCell ⟨p, 2, none⟩ c
theorem ext_set3 {w W : World} {p : Nat} (h : Ext w W) (hp : w.heap.size ≤ p) (a b c : Value) : Ext w (set3 W p a b c) :=
  ext_own (ext_own (ext_own h ((Turned.refl p _).set 0 a) hp) ((Turned.refl p _).set 1 b) hp) ((Turned.refl p _).set 2 c) hp
theorem Tri.set {W : World} {p : Nat} {a b c : Int} (h : Tri W p a b c) (a' b' c' : Int) : Tri (set3 W p (.int .i64 a') (.int .i64 b') (.int .i64 c')) p a' b' c' := by
  obtain ⟨h0, h1, h2, g0, g1, g2⟩ := h
  exact ⟨by go_simp, by go_simp, by go_simp, by go_simp, by go_simp, by go_simp⟩
theorem Tri.other {W : World} {p q : Nat} {a b c : Int} (h : Tri W p a b c) (hne : p ≠ q) (a' b' c' : Value) : Tri (set3 W q a' b' c') p a b c := by
  obtain ⟨h0, h1, h2, g0, g1, g2⟩ := h
  exact ⟨by go_simp, by go_simp, by go_simp, by go_simp, by go_simp, by go_simp⟩
theorem Tri.new (W : World) (a b c : Int) : Tri (W.alloc (.cells #[.int .i64 a, .int .i64 b, .int .i64 c] 107)) W.heap.size a b c := ⟨by go_simp, by go_simp, by go_simp, by go_simp, by go_simp, by go_simp⟩

set_option maxRecDepth 100000 in
set_option maxHeartbeats 1000000 in
theorem best_any (t : Nat × Nat × Nat) (ts : List (Nat × Nat × Nat)) (oa : Option Addr) (cap : Nat) (w : World) (h : TsAt w oa (t :: ts)) (hc : ts.length + 1 ≤ cap) (hc2 : cap ≤ maxLen) (hpos : 1 ≤ ts.length) :
    Calls Tryz.prog 93 #[.slice oa (ts.length + 1 : Nat) cap, .func (.func 94) #[] #[]] w fun e w' => e = .returned (.agg #[.int .i64 (bestT t ts).1, .int .i64 (bestT t ts).2.1, .int .i64 (bestT t ts).2.2]) ∧ Ext w w' := by
  obtain ⟨b, off, rfl, hb, h0, h1, h2⟩ := h 0 t rfl
  rw [Nat.zero_mul, Nat.add_zero] at h0 h1 h2
  have H := Lib.hid h; clear h
  have hc3 : cap ≤ 9223372036854775807 := by unfold maxLen at hc2; omega
  have hone1 : ¬ cap = 1 := by omega
  clear hc2
  go_enter Tryz.func93, Tryz.ntmps93
  go_wp2
  go_loopg [14] ts.length (fun g v wr => ∃ k : Nat, k + g = ts.length ∧ v = .int .i64 k ∧ Ext w wr ∧ Tri wr w.heap.size 0 0 0 ∧ Tri wr (w.heap.size + 1) (bestT t (ts.take k)).1 (bestT t (ts.take k)).2.1 (bestT t (ts.take k)).2.2)
  case atStart => exact ⟨0, by simp, rfl, ((Ext.refl w).alloc _).alloc _, (Tri.new w 0 0 0).ext ((Ext.refl _).alloc _), by have := Tri.new (w.alloc (.cells #[.int .i64 0, .int .i64 0, .int .i64 0] 107)) t.1 t.2.1 t.2.2; simpa [bestT] using this⟩
  case round =>
    obtain ⟨k, hk, rfl, hE, hr, ho⟩ := hrel
    have Hr := Lib.hid hr
    have Ho := Lib.hid ho
    have hsz : w.heap.size + 1 < wr.heap.size := World.block_lt_of_cell? _ _ ho.c0
    by_cases hlt : k < ts.length
    · obtain ⟨b', off', hbo, _, e0, e1, e2⟩ := H.out.ext hE (k + 1) ts[k] (by simp [hlt])
      obtain ⟨rfl, rfl⟩ : b = b' ∧ off = off' := by simpa using hbo
      clear hbo
      rw [show off + (k + 1) * 3 = off + 3 + k * 3 by omega] at e0 e1 e2
      have hbs := bestT_succ t ts k hlt
      clear hr h0 h1 h2
      have hlx := less_any ts[k].1 ts[k].2.1 ts[k].2.2 (bestT t (ts.take k)).1 (bestT t (ts.take k)).2.1 (bestT t (ts.take k)).2.2
      generalize hX : ts[k] = X at *
      clear hX
      by_cases hb3 : X.2.2 < (bestT t (ts.take k)).2.2
      · rw [if_pos hb3] at hbs
        have Hbs := Lib.hid hbs; clear hbs
        rw [decide_eq_true (by omega)] at hlx
        have Hle := Lib.hid hlx; clear hlx
        generalize hB : bestT t (ts.take k) = B at *
        clear hB hb3
        obtain ⟨o0, o1, o2, p0, p1, p2⟩ := ho
        go_wp2_with (first | (go_at_call 94; refine (Hle.out _).mono ?_; rintro e w1 ⟨rfl, hE1⟩; have hx7 := Lib.hid ((Tri.new wr X.1 X.2.1 X.2.2).ext hE1); have hE7 := Lib.hid (((Ext.refl wr).alloc _).trans hE1); obtain ⟨x0, x1, x2, _, _, _⟩ := hx7.out; have ho7 := Lib.hid (Ho.out.ext hE7.out); clear o0 o1 o2 p0 p1 p2; obtain ⟨o0, o1, o2, p0, p1, p2⟩ := ho7.out; clear hE1))
        go_roundg (gk - 1)
        case measure => omega
        case rel => exact ⟨k + 1, by omega, by go_num, ext_set3 (hE.trans hE7.out) (by omega) _ _ _, (Hr.out.ext hE7.out).other (by omega) _ _ _, by rw [Hbs.out]; exact ho7.out.set _ _ _⟩
      · rw [if_neg hb3] at hbs
        have Hbs := Lib.hid hbs; clear hbs
        rw [decide_eq_false (by omega)] at hlx
        have Hle := Lib.hid hlx; clear hlx
        generalize hB : bestT t (ts.take k) = B at *
        clear hB hb3
        obtain ⟨o0, o1, o2, p0, p1, p2⟩ := ho
        go_wp2_with (first | (go_at_call 94; refine (Hle.out _).mono ?_; rintro e w1 ⟨rfl, hE1⟩; have hE7 := Lib.hid (((Ext.refl wr).alloc _).trans hE1); clear hE1))
        go_roundg (gk - 1)
        case measure => omega
        case rel => exact ⟨k + 1, by omega, by go_num, hE.trans hE7.out, Hr.out.ext hE7.out, by rw [Hbs.out]; exact Ho.out.ext hE7.out⟩
    · have hkk : k = ts.length := by omega
      have hkt : bestT t (ts.take k) = bestT t ts := by rw [hkk, List.take_length]
      rw [hkt] at ho Ho
      generalize hB : bestT t ts = B at *
      have HB := Lib.hid hB
      clear hB hkt
      obtain ⟨o0, o1, o2, p0, p1, p2⟩ := ho
      obtain ⟨r0, r1, r2, s0, s1, s2⟩ := hr
      go_wp2
      refine bodyPost_ret (v := .agg #[.int .i64 B.1, .int .i64 B.2.1, .int .i64 B.2.2]) (results_cell107 rfl _ _ w.heap.size _ _ _ (by simp) (by go_simp) (by go_simp) (by go_simp)) (by simp) ⟨by rw [HB.out], ext_set3 hE (Nat.le_refl _) _ _ _⟩

set_option maxRecDepth 100000 in
set_option maxHeartbeats 1000000 in
theorem best_one (t : Nat × Nat × Nat) (oa : Option Addr) (cap : Nat) (w : World) (h : TsAt w oa [t]) (hc : 1 ≤ cap) (hc2 : cap ≤ maxLen) :
    Calls Tryz.prog 93 #[.slice oa 1 cap, .func (.func 94) #[] #[]] w fun e w' => e = .returned (.agg #[.int .i64 t.1, .int .i64 t.2.1, .int .i64 t.2.2]) ∧ Ext w w' := by
  obtain ⟨b, off, rfl, hb, h0, h1, h2⟩ := h 0 t rfl
  rw [Nat.zero_mul, Nat.add_zero] at h0 h1 h2
  clear h
  have hc3 : cap ≤ 9223372036854775807 := by unfold maxLen at hc2; omega
  clear hc2
  go_enter Tryz.func93, Tryz.ntmps93
  go_wp2
  all_goals
    go_loopg [14] 1 (fun g v wr => g = 1 ∧ v = .int .i64 0 ∧ Ext w wr ∧ Tri wr w.heap.size 0 0 0 ∧ Tri wr (w.heap.size + 1) t.1 t.2.1 t.2.2)
    case atStart => exact ⟨rfl, rfl, ((Ext.refl w).alloc _).alloc _, (Tri.new w 0 0 0).ext ((Ext.refl _).alloc _), by have := Tri.new (w.alloc (.cells #[.int .i64 0, .int .i64 0, .int .i64 0] 107)) t.1 t.2.1 t.2.2; simpa using this⟩
    case round =>
      obtain ⟨rfl, rfl, hE, hr, ho⟩ := hrel
      have hsz : w.heap.size + 1 < wr.heap.size := World.block_lt_of_cell? _ _ ho.c0
      clear h0 h1 h2
      obtain ⟨o0, o1, o2, p0, p1, p2⟩ := ho
      obtain ⟨r0, r1, r2, s0, s1, s2⟩ := hr
      go_wp2
      refine bodyPost_ret (v := .agg #[.int .i64 t.1, .int .i64 t.2.1, .int .i64 t.2.2]) (results_cell107 rfl _ _ w.heap.size _ _ _ (by simp) (by go_simp) (by go_simp) (by go_simp)) (by simp) ⟨rfl, ext_set3 hE (Nat.le_refl _) _ _ _⟩

end Go.Proofs.YtiehfpkcaoeieaaGreatDoor
/- Contract: strip.Next. No condition. -/
namespace Go.Proofs.YtiehfpkcaoeieaaGreatDoor
open Go.RowKit Go.My Go.StripM

theorem i107 : (Tryz.prog.info? 107).map (fun i => (i.zero, i.size, i.bytes)) = some (some (.agg #[.int .i64 0, .int .i64 0, .int .i64 0]), 3, 24) := by kernel_rfl

def c3 (t : Nat × Nat × Nat) : List Value := [.int .i64 t.1, .int .i64 t.2.1, .int .i64 t.2.2]
def Own3 (w : World) (base : Nat) (v : Value) (ts : List (Nat × Nat × Nat)) : Prop := w.ownsRow base 107 3 v ts.length (ts.flatMap c3)
theorem Own3.nil (w : World) (base : Nat) : Own3 w base (.slice none 0 0) [] := World.ownsRow_nil _ _ _ _
theorem Own3.ext {w w' : World} {base : Nat} {v : Value} {ts : List (Nat × Nat × Nat)} (h : Own3 w base v ts) (hE : Ext w w') : Own3 w' base v ts := by
  refine ⟨h.1, ?_⟩
  rcases h.2 with h2 | ⟨g, cap, cur, hv, hb, hg, r⟩
  · exact .inl h2
  · exact .inr ⟨g, cap, cur, hv, hb, (hE.block g (Array.getElem?_eq_some_iff.1 hg).1).trans hg, r⟩
theorem c3_len (ts : List (Nat × Nat × Nat)) : (ts.flatMap c3).length = ts.length * 3 := by
  induction ts with
  | nil => rfl
  | cons t ts ih => rw [List.flatMap_cons, List.length_append, ih, List.length_cons]; simp [c3]; omega
theorem c3_get {ts : List (Nat × Nat × Nat)} {k : Nat} {t : Nat × Nat × Nat} (h : ts[k]? = some t) (j : Nat) (hj : j < 3) : (ts.flatMap c3)[k * 3 + j]? = (c3 t)[j]? := by
  induction ts generalizing k with
  | nil => simp at h
  | cons a ts ih =>
    rw [List.flatMap_cons]
    cases k with
    | zero =>
      simp at h; subst h
      rw [List.getElem?_append_left (by simp [c3]; omega)]; simp
    | succ k =>
      rw [List.getElem?_append_right (by simp [c3]; omega)]
      rw [← ih (by simpa using h)]
      congr 1
      simp [c3]; omega
theorem Own3.slice {w : World} {base : Nat} {v : Value} {ts : List (Nat × Nat × Nat)} (h : Own3 w base v ts) : ∃ oa cap, v = .slice oa ts.length cap ∧ ts.length ≤ cap ∧ cap ≤ maxLen ∧ TsAt w oa ts := by
  rcases h.2 with ⟨rfl, h2⟩ | ⟨g, cap, cur, rfl, hb, hg, hn, hc, hs, ht⟩
  · have : ts = [] := List.eq_nil_of_length_eq_zero h2
    subst this
    exact ⟨none, 0, rfl, Nat.le_refl _, by simp [maxLen], fun k t h => by simp at h⟩
  · refine ⟨_, cap, rfl, hn, hc, fun k t hk => ⟨g, 0, rfl, (Array.getElem?_eq_some_iff.1 hg).1, ?_⟩⟩
    have hget : ∀ j, j < 3 → w.cell? ⟨g, 0 + k * 3 + j, none⟩ = (c3 t)[j]? := by
      intro j hj
      have h1 := c3_get hk j hj
      rw [← ht, List.getElem?_take, if_pos (by have := (List.getElem?_eq_some_iff.1 hk).1; omega)] at h1
      rw [cell_of_row w g (0 + k * 3 + j) cur 107 (0, 0) hg, Nat.zero_add, ← h1]
      simp
    exact ⟨hget 0 (by omega), hget 1 (by omega), hget 2 (by omega)⟩

/-- append of one. -/
theorem wpList_app3 (w : World) {ops : Array Oper} {rest : List Oper} {o : Oper} {a : Act} {Q : Exit → Act → World → Prop} (hgd : o.guard = none) (s x : Operand)
    (ho : o.op = .call { callee := .builtin .append, args := #[s, x], argTypes := #[105, 105] }) (base : Nat) (v : Value) (ts : List (Nat × Nat × Nat)) (hs : a.eval s = v)
    (hown : Own3 w base v ts) (b : Nat) (t : Nat × Nat × Nat) (hx : a.eval x = .slice (some ⟨b, 0, none⟩) 1 1)
    (h0 : w.cell? ⟨b, 0, none⟩ = some (.int .i64 t.1)) (h1 : w.cell? ⟨b, 1, none⟩ = some (.int .i64 t.2.1)) (h2 : w.cell? ⟨b, 2, none⟩ = some (.int .i64 t.2.2))
    (hl : ts.length < 1000000000) (hbase : base ≤ w.heap.size)
    (h : ∀ v' w', Own3 w' base v' (ts ++ [t]) → Below base w w' → wpList Tryz.prog ops Q rest (a.put o.dst v') w') : wpList Tryz.prog ops Q (o :: rest) a w := by
  obtain ⟨i, hi1, hi2, hi3, hi4⟩ := info_parts i107
  refine wpList_append_own w hgd s x 105 ho base 107 i _ 3 24 Tryz.underlying105 hi1 hi2 hi3 hi4 rfl (by decide) v ts.length (ts.flatMap c3) hs hown ⟨b, 0, none⟩ 1 1 (c3 t) hx rfl ?_ ?_ ?_ ?_ hbase ?_
  · intro j u hj
    rw [add_none, Nat.zero_add]
    match j, hj with
    | 0, hj => simp [c3] at hj; subst hj; exact h0
    | 1, hj => simp [c3] at hj; subst hj; exact h1
    | 2, hj => simp [c3] at hj; subst hj; exact h2
  · intro u hu; simp [c3] at hu; rcases hu with rfl | rfl | rfl <;> rfl
  · unfold maxLen; omega
  · omega
  · intro v' w' k1 k2 _
    refine h v' w' (by unfold Own3; rw [List.length_append, List.flatMap_append]; simpa using k1) ((Below.refl base w).grown k2 hbase fun k hk => ?_)
    rcases hown.2 with ⟨rfl, _⟩ | ⟨g, cap, cur, rfl, hb, _⟩
    · simp [Value.ownBlock] at hk
    · simp [Value.ownBlock] at hk; omega

theorem Bx.withE {n : Nat} {ss : List (List Nat)} {oa : Option Addr} {cap : Nat} {w W : World} (h : Bx n ss oa cap w W) (g : Good n ss) (hn : oa = none → cap = 0) (hcap : ss.length ≤ cap) {s : List Nat} {sv : Value} (hs : IsInts W sv (up s)) :
    Calls Tryz.prog 85 #[.agg #[.int .i64 n, .slice oa ss.length cap], sv] W fun e w' => ∃ oa' cap', e = .returned (.agg #[.int .i64 n, .slice oa' (ss.length + 1) cap']) ∧ RowsAt w' oa' (upp (ss ++ [s])) ∧ Ext W w' := by
  refine (with_any n ss oa cap s sv W h.rows (by have := g.len; omega) hn hcap hs).mono ?_
  rintro e w' ⟨v, h1, ⟨oa', cap', hv, _, _, _, h2⟩, h3⟩
  rw [upp_length] at hv
  exact ⟨oa', cap', by rw [h1, hv, List.length_append]; rfl, h2, h3⟩
theorem Good.countWithE {n : Nat} {ss : List (List Nat)} {W : World} (g : Good n ss) {s : List Nat} {oa' : Option Addr} {cap' : Nat} (hr : RowsAt W oa' (upp (ss ++ [s]))) (hns : namesOk n s) :
    Calls Tryz.prog 78 #[.agg #[.int .i64 n, .slice oa' (ss.length + 1) cap']] W fun e w' => e = .returned (.int .i64 (cnt n (ss ++ [s]) : Nat)) ∧ Ext W w' := by
  have := count_any n (ss ++ [s]) oa' cap' W hr (by have := g.len; simp; omega) g.le (g.valid_with hns)
  rw [show (ss ++ [s]).length = ss.length + 1 by simp] at this
  exact this
theorem is_pair {one other : Nat} (b : Nat) (W : World) (e0 : W.cell? ⟨b, 0, none⟩ = some (.int .i64 one)) (e1 : W.cell? ⟨b, 1, none⟩ = some (.int .i64 other)) (hb : b < W.heap.size) : IsInts W (.slice (some ⟨b, 0, none⟩) 2 2) (up [one, other]) := by
  refine ⟨_, 2, rfl, Nat.le_refl _, by decide, (fun e => by cases e), fun i x hx => ⟨b, 0, rfl, hb, ?_⟩⟩
  match i, hx with
  | 0, hx => simp [up] at hx; subst hx; simpa using e0
  | 1, hx => simp [up] at hx; subst hx; simpa using e1

/-- Two names, and how many orders are left at most. -/
def trip (n : Nat) (ss : List (List Nat)) (i k : Nat) : Nat × Nat × Nat := (i, k, max (cnt n (ss ++ [[i, k]])) (cnt n ss - cnt n (ss ++ [[i, k]])))
def rowT (n : Nat) (ss : List (List Nat)) (i k : Nat) : List (Nat × Nat × Nat) := ((List.range k).filter fun x => decide (i < x)).map (trip n ss i)
def allT (n : Nat) (ss : List (List Nat)) (i : Nat) : List (Nat × Nat × Nat) := (List.range i).flatMap fun i => rowT n ss i n
theorem rowT_start (n : Nat) (ss : List (List Nat)) (i : Nat) : rowT n ss i (i + 1) = [] := by
  rw [rowT, List.map_eq_nil_iff, List.filter_eq_nil_iff]
  intro x hx; have := List.mem_range.1 hx; simp; omega
theorem rowT_succ (n : Nat) (ss : List (List Nat)) (i k : Nat) (h : i < k) : rowT n ss i (k + 1) = rowT n ss i k ++ [trip n ss i k] := by
  rw [rowT, List.range_succ, List.filter_append, List.map_append]
  have : [k].filter (fun x => decide (i < x)) = [k] := by rw [List.filter_cons_of_pos (by simpa using h)]; rfl
  rw [this]; rfl
theorem rowT_len (n : Nat) (ss : List (List Nat)) (i k : Nat) : (rowT n ss i k).length ≤ k := by
  rw [rowT, List.length_map]
  have := List.length_filter_le (fun x => decide (i < x)) (List.range k); simpa using this
theorem allT_succ (n : Nat) (ss : List (List Nat)) (i : Nat) : allT n ss (i + 1) = allT n ss i ++ rowT n ss i n := by simp [allT, List.range_succ]
theorem allT_len (n : Nat) (ss : List (List Nat)) (i : Nat) : (allT n ss i).length ≤ i * n := by
  induction i with
  | zero => simp [allT]
  | succ i ih => rw [allT_succ, List.length_append, Nat.succ_mul]; have := rowT_len n ss i n; omega
theorem cnt_with_le {n : Nat} {ss : List (List Nat)} {s : List Nat} (g : Good n ss) (h : namesOk n s) : cnt n (ss ++ [s]) ≤ cnt n ss := by
  rw [cnt_all g.valid, cnt_all (g.valid_with h), all, all]
  have : (ords n n []).filter (okOrd (ss ++ [s])) = ((ords n n []).filter (okOrd ss)).filter fun o => agrees o s := by
    rw [List.filter_filter]
    apply List.filter_congr
    intro o _
    simp [okOrd, Bool.and_comm]
  rw [this]
  exact List.length_filter_le _ _
theorem cnt_small (n : Nat) (ss : List (List Nat)) (hn : n ≤ 6) : cnt n ss ≤ 46656 := by
  unfold cnt
  split
  · omega
  · exact ways_small _ hn hn _
/-- What Next hands back. -/
def nextOf (n : Nat) (ss : List (List Nat)) : Nat × Nat × Nat := bestT ((allT n ss n).headD (0, 0, 0)) (allT n ss n).tail

theorem results_tmp4 {fn : Func} {t u v x : Tmp} (h : fn.results = #[.tmp t, .tmp u, .tmp v, .tmp x]) (tmps : Array Value) (P : Program) (w : World) :
    (results fn tmps).run P w = .ok (.tuple #[tmps.getD t undef, tmps.getD u undef, tmps.getD v undef, tmps.getD x undef]) w := by
  simp [results, h]

set_option maxHeartbeats 1000000 in
theorem next_bad (n : Int) (ls : List (List Int)) (oa : Option Addr) (cap : Nat) (w : World) (h : RowsAt w oa ls) (hl : ls.length ≤ 9223372036854775807) (hbad : boardB n ls = false) :
    Calls Tryz.prog 43 #[.agg #[.int .i64 n, .slice oa ls.length cap]] w fun e w' => e = .returned (.tuple #[.int .i64 0, .int .i64 0, .int .i64 0, .int .i64 2]) ∧ Ext w w' := by
  have bx := Lib.hid (BxI.start (n := n) (cap := cap) h)
  clear h
  go_enter Tryz.func43, Tryz.ntmps43
  go_wp2_with fail
  refine wp_region_plan (.take 0 <| .take 1 <| .only 2 <| .only 3 <| .take 4 <| .take 5 <| .take 6 <| .take 7 <| .take 8 <| .done) (fun W => BxI n ls oa cap w W) mixed (by kernel_rfl) (by kernel_rfl) rfl (fun _ _ d _ _ h => by cases d <;> exact h) (bx.out.drew) ?_
  repeat (first | (refine plan_take (v := ?_) rfl rfl (fun W hW => ?_) ?_; rotate_left; (focus (have dc0 := hW.c0; have dc1 := hW.c1; go_simp; first | exact rfl | (split <;> first | exact rfl | (exfalso; omega)) | done)); simp only [Act.put, List.setIfInBounds_toArray, List.set_cons_zero, List.set_cons_succ]) | (refine plan_skip rfl rfl ?_; simp only [Act.put, List.setIfInBounds_toArray, List.set_cons_zero, List.set_cons_succ]))
  refine plan_walk rfl ?_; intro K hK
  go_wp2_with (first | (go_at_call 73; refine (bx.out.drew.board hl).mono ?_; rw [hbad]; rintro e w1 ⟨rfl, b1⟩))
  refine hK _ _ b1 ?_
  refine plan_walk rfl ?_; intro K hK
  go_wp2_with (first | (go_at_call 82; refine (b1.orErr _).mono ?_; rintro e w2 ⟨rfl, b2⟩))
  refine hK _ _ b2 ?_
  repeat (first | (refine plan_take (v := ?_) rfl rfl (fun W hW => ?_) ?_; rotate_left; (focus (skip; go_simp; first | exact rfl | (split <;> first | exact rfl | (exfalso; omega)) | done)); simp only [Act.put, List.setIfInBounds_toArray, List.set_cons_zero, List.set_cons_succ]) | (refine plan_skip rfl rfl ?_; simp only [Act.put, List.setIfInBounds_toArray, List.set_cons_zero, List.set_cons_succ]))
  refine plan_done ?_
  go_wp2
  (try simp only [Exit.inBlock, Exit.then])
  refine bodyPost_ret (results_tmp4 rfl _ _ _) rfl ?_
  exact ⟨rfl, b2.ext⟩

set_option maxHeartbeats 1000000 in
theorem next_none (n : Nat) (ss : List (List Nat)) (oa : Option Addr) (cap : Nat) (w : World) (h : RowsAt w oa (upp ss)) (g : Good n ss) (h0 : cnt n ss = 0) :
    Calls Tryz.prog 43 #[.agg #[.int .i64 n, .slice oa ss.length cap]] w fun e w' => e = .returned (.tuple #[.int .i64 0, .int .i64 0, .int .i64 0, .int .i64 7]) ∧ Ext w w' := by
  have bx := Lib.hid (Bx.start (n := n) (cap := cap) h)
  have G := Lib.hid g
  clear h g
  go_enter Tryz.func43, Tryz.ntmps43
  go_wp2_with fail
  refine wp_region_plan (.take 0 <| .take 1 <| .only 2 <| .only 3 <| .take 4 <| .take 5 <| .take 6 <| .take 7 <| .take 8 <| .done) (fun W => Bx n ss oa cap w W) mixed (by kernel_rfl) (by kernel_rfl) rfl (fun _ _ d _ _ h => by cases d <;> exact h) (bx.out.drew) ?_
  repeat (first | (refine plan_take (v := ?_) rfl rfl (fun W hW => ?_) ?_; rotate_left; (focus (have dc0 := hW.c0; have dc1 := hW.c1; go_simp; first | exact rfl | (split <;> first | exact rfl | (exfalso; omega)) | done)); simp only [Act.put, List.setIfInBounds_toArray, List.set_cons_zero, List.set_cons_succ]) | (refine plan_skip rfl rfl ?_; simp only [Act.put, List.setIfInBounds_toArray, List.set_cons_zero, List.set_cons_succ]))
  refine plan_walk rfl ?_; intro K hK
  go_wp2_with (first | (go_at_call 73; refine (bx.out.drew.board G.out).mono ?_; rintro e w1 ⟨rfl, b1⟩))
  refine hK _ _ b1 ?_
  refine plan_walk rfl ?_; intro K hK
  go_wp2_with (first | (go_at_call 82; refine (b1.orErr G.out).mono ?_; rw [h0]; rintro e w2 ⟨rfl, b2⟩))
  refine hK _ _ b2 ?_
  repeat (first | (refine plan_take (v := ?_) rfl rfl (fun W hW => ?_) ?_; rotate_left; (focus (skip; go_simp; first | exact rfl | (split <;> first | exact rfl | (exfalso; omega)) | done)); simp only [Act.put, List.setIfInBounds_toArray, List.set_cons_zero, List.set_cons_succ]) | (refine plan_skip rfl rfl ?_; simp only [Act.put, List.setIfInBounds_toArray, List.set_cons_zero, List.set_cons_succ]))
  refine plan_done ?_
  go_wp2
  (try simp only [Exit.inBlock, Exit.then])
  refine bodyPost_ret (results_tmp4 rfl _ _ _) rfl ?_
  exact ⟨rfl, b2.ext⟩

set_option maxHeartbeats 1000000 in
theorem next_one (ss : List (List Nat)) (oa : Option Addr) (cap : Nat) (w : World) (h : RowsAt w oa (upp ss)) (g : Good 1 ss) (h0 : ¬ cnt 1 ss = 0) :
    Calls Tryz.prog 43 #[.agg #[.int .i64 1, .slice oa ss.length cap]] w fun e w' => e = .returned (.tuple #[.int .i64 0, .int .i64 0, .int .i64 0, .int .i64 5]) ∧ Ext w w' := by
  have bx := Lib.hid (Bx.start (n := 1) (cap := cap) h)
  have G := Lib.hid g
  clear h g
  go_enter Tryz.func43, Tryz.ntmps43
  go_wp2_with fail
  refine wp_region_plan (.take 0 <| .take 1 <| .only 2 <| .only 3 <| .take 4 <| .take 5 <| .take 6 <| .take 7 <| .take 8 <| .done) (fun W => Bx 1 ss oa cap w W) mixed (by kernel_rfl) (by kernel_rfl) rfl (fun _ _ d _ _ h => by cases d <;> exact h) (bx.out.drew) ?_
  repeat (first | (refine plan_take (v := ?_) rfl rfl (fun W hW => ?_) ?_; rotate_left; (focus (have dc0 := hW.c0; have dc1 := hW.c1; go_simp; first | exact rfl | (split <;> first | exact rfl | (exfalso; omega)) | done)); simp only [Act.put, List.setIfInBounds_toArray, List.set_cons_zero, List.set_cons_succ]) | (refine plan_skip rfl rfl ?_; simp only [Act.put, List.setIfInBounds_toArray, List.set_cons_zero, List.set_cons_succ]))
  refine plan_walk rfl ?_; intro K hK
  go_wp2_with (first | (go_at_call 73; refine (bx.out.drew.board G.out).mono ?_; rintro e w1 ⟨rfl, b1⟩))
  refine hK _ _ b1 ?_
  refine plan_walk rfl ?_; intro K hK
  go_wp2_with (first | (go_at_call 82; refine (b1.orErr G.out).mono ?_; rw [if_neg h0]; rintro e w2 ⟨rfl, b2⟩))
  refine hK _ _ b2 ?_
  repeat (first | (refine plan_take (v := ?_) rfl rfl (fun W hW => ?_) ?_; rotate_left; (focus (skip; go_simp; first | exact rfl | (split <;> first | exact rfl | (exfalso; omega)) | done)); simp only [Act.put, List.setIfInBounds_toArray, List.set_cons_zero, List.set_cons_succ]) | (refine plan_skip rfl rfl ?_; simp only [Act.put, List.setIfInBounds_toArray, List.set_cons_zero, List.set_cons_succ]))
  refine plan_done ?_
  have B2 := Lib.hid b2
  have c0 := b2.c0
  clear b1 b2
  go_wp2
  (try simp only [Exit.inBlock, Exit.then])
  refine bodyPost_ret (results_tmp4 rfl _ _ _) rfl ?_
  exact ⟨rfl, B2.out.ext⟩

set_option maxRecDepth 100000 in
set_option maxHeartbeats 1000000 in
theorem next_any (n : Nat) (ss : List (List Nat)) (oa : Option Addr) (cap : Nat) (w : World) (h : RowsAt w oa (upp ss)) (g : Good n ss) (hn : oa = none → cap = 0) (hcap : ss.length ≤ cap) (h0 : ¬ cnt n ss = 0) (h2 : 2 ≤ n) :
    Calls Tryz.prog 43 #[.agg #[.int .i64 n, .slice oa ss.length cap]] w fun e w' => e = .returned (.tuple #[.int .i64 (nextOf n ss).1, .int .i64 (nextOf n ss).2.1, .int .i64 (nextOf n ss).2.2, .int .i64 0]) ∧ Ext w w' := by
  have bx := Lib.hid (Bx.start (n := n) (cap := cap) h)
  have G := Lib.hid g
  have hn6 := g.le
  have hNs := cnt_small n ss g.le
  have hn1 : ((n : Int) == 1) = false := by simpa using (by omega : ¬ (n : Int) = 1)
  clear h g
  go_enter Tryz.func43, Tryz.ntmps43
  go_wp2_with fail
  refine wp_region_plan (.take 0 <| .take 1 <| .only 2 <| .only 3 <| .take 4 <| .take 5 <| .take 6 <| .take 7 <| .take 8 <| .done) (fun W => Bx n ss oa cap w W) mixed (by kernel_rfl) (by kernel_rfl) rfl (fun _ _ d _ _ h => by cases d <;> exact h) (bx.out.drew) ?_
  repeat (first | (refine plan_take (v := ?_) rfl rfl (fun W hW => ?_) ?_; rotate_left; (focus (have dc0 := hW.c0; have dc1 := hW.c1; go_simp; first | exact rfl | (split <;> first | exact rfl | (exfalso; omega)) | done)); simp only [Act.put, List.setIfInBounds_toArray, List.set_cons_zero, List.set_cons_succ]) | (refine plan_skip rfl rfl ?_; simp only [Act.put, List.setIfInBounds_toArray, List.set_cons_zero, List.set_cons_succ]))
  refine plan_walk rfl ?_; intro K hK
  go_wp2_with (first | (go_at_call 73; refine (bx.out.drew.board G.out).mono ?_; rintro e w1 ⟨rfl, b1⟩))
  refine hK _ _ b1 ?_
  refine plan_walk rfl ?_; intro K hK
  go_wp2_with (first | (go_at_call 82; refine (b1.orErr G.out).mono ?_; rw [if_neg h0]; rintro e w2 ⟨rfl, b2⟩))
  refine hK _ _ b2 ?_
  repeat (first | (refine plan_take (v := ?_) rfl rfl (fun W hW => ?_) ?_; rotate_left; (focus (skip; go_simp; first | exact rfl | (split <;> first | exact rfl | (exfalso; omega)) | done)); simp only [Act.put, List.setIfInBounds_toArray, List.set_cons_zero, List.set_cons_succ]) | (refine plan_skip rfl rfl ?_; simp only [Act.put, List.setIfInBounds_toArray, List.set_cons_zero, List.set_cons_succ]))
  refine plan_done ?_
  have B2 := Lib.hid b2
  have c0 := b2.c0
  clear b1 b2 h0 bx
  go_wp2
  go_loopg [8, 28] n (fun g l v wr => ∃ i : Nat, i + g = n ∧ v = .int .i64 i ∧ Ext w2 wr ∧ Own3 wr w2.heap.size l (allT n ss i))
  case atStart => exact ⟨0, by simp, rfl, Ext.refl _, Own3.nil _ _⟩
  case round =>
    obtain ⟨i, hi, rfl, hE, hown⟩ := hrel
    have Hown := Lib.hid hown; clear hown
    obtain ⟨wo, rfl⟩ : ∃ wo : World, wo = wr := ⟨_, rfl⟩
    obtain ⟨g0, rfl⟩ : ∃ g0 : Nat, g0 = gk := ⟨_, rfl⟩
    by_cases hlt : i < n
    · go_wp2
      go_loopg [8, 10] (n - i - 1) (fun g l v wr => ∃ k : Nat, k + g = n ∧ i < k ∧ v = .int .i64 k ∧ Ext w2 wr ∧ Own3 wr w2.heap.size l (allT n ss i ++ rowT n ss i k))
      case atStart => exact ⟨i + 1, by omega, by omega, by go_num, hE, by rw [rowT_start, List.append_nil]; exact Hown.out⟩
      case round =>
        clear hE
        obtain ⟨k, hk, hik, rfl, hE, hown⟩ := hrel
        have Hown2 := Lib.hid hown
        clear hown Hown
        obtain ⟨wp, rfl⟩ : ∃ wp : World, wp = wr := ⟨_, rfl⟩
        have b2n := B2.out.next hE
        have c0 := b2n.c0
        have c1 := b2n.c1
        have B2n := Lib.hid b2n
        clear b2n
        by_cases hlt2 : k < n
        · have hns := pair_names hlt hlt2 (by omega)
          have hcl := cnt_with_le G.out hns
          have hcs : cnt n (ss ++ [[i, k]]) ≤ 46656 := by omega
          have hmaxE : max ((cnt n (ss ++ [[i, k]]) : Nat) : Int) ((cnt n ss : Nat) - (cnt n (ss ++ [[i, k]]) : Nat) : Int) = ((trip n ss i k).2.2 : Nat) := by simp only [trip]; omega
          have hrs := rowT_succ n ss i k hik
          have hll : (allT n ss i ++ rowT n ss i k).length < 1000000000 := by
            have e1 := allT_len n ss i
            have e2 := rowT_len n ss i k
            have e3 : i * n ≤ 6 * 6 := Nat.mul_le_mul (by omega) hn6
            rw [List.length_append]; omega
          have Hrs := Lib.hid hrs
          have Hll := Lib.hid hll
          have hwith := fun (W : World) (hW : Ext wp W) (e0 e1 hb) => (B2n.out.next hW).withE G.out hn hcap (is_pair (one := i) (other := k) wp.heap.size W e0 e1 hb)
          have Hwith := Lib.hid hwith
          have Hns := Lib.hid hns
          clear hrs hll hwith hns
          generalize hC : cnt n (ss ++ [[i, k]]) = C at *
          go_wp2_with (first | (go_at_call 85; refine (Hwith.out _ ((Ext.refl wp).alloc _) (by go_simp) (by go_simp) (by simp)).mono ?_; rintro e w5 ⟨oa', cap', rfl, hr5, hE5⟩; have Hr5 := Lib.hid hr5; clear hr5) | (go_at_call 78; refine (G.out.countWithE Hr5.out Hns.out).mono ?_; rw [hC]; rintro e w6 ⟨rfl, hE6⟩) | (at_builtin; refine wpList_app3 _ rfl _ _ rfl w2.heap.size _ (allT n ss i ++ rowT n ss i k) rfl ((Hown2.out.ext (((Ext.refl wp).alloc _).trans (hE5.trans hE6))).ext ((Ext.refl w6).alloc _)) w6.heap.size (trip n ss i k) rfl (by go_simp; rfl) (by go_simp; rfl) (by go_simp; omega) Hll.out (by have := (hE.trans (((Ext.refl wp).alloc _).trans (hE5.trans hE6))).size; simp at this ⊢; omega) ?_))
          all_goals
            intro v' w7 hown7 hBl
            have Ho7 := Lib.hid hown7; clear hown7
            have hE7 : Ext w2 w7 := ((hE.trans (((Ext.refl wp).alloc _).trans (hE5.trans hE6))).alloc _).below hBl (Nat.le_refl _)
            go_wp2
            go_roundg (gk - 1)
            case measure => omega
            case rel => exact ⟨k + 1, by omega, by omega, by go_num, hE7, by rw [Hrs.out]; exact Ho7.out⟩
        · have hkn : k = n := by omega
          have has : allT n ss i ++ rowT n ss i k = allT n ss (i + 1) := by rw [allT_succ, hkn]
          have Has := Lib.hid has
          clear has hkn
          go_wp2
          go_roundg (g0 - 1)
          case measure => omega
          case rel => exact ⟨i + 1, by omega, by go_num, hE, by rw [← Has.out]; exact Hown2.out⟩
    · have hin : i = n := by omega
      have ho2 := Hown.out
      rw [hin] at ho2
      obtain ⟨oa2, cap2, hv2, q1, q2, q3⟩ := ho2.slice
      have hne : 1 ≤ (allT n ss n).length := by
        have e1 : trip n ss 0 1 ∈ allT n ss n := by
          simp only [allT, List.mem_flatMap, List.mem_range]
          refine ⟨0, by omega, ?_⟩
          simp only [rowT, List.mem_map, List.mem_filter, List.mem_range]
          exact ⟨1, ⟨by omega, by decide⟩, rfl⟩
        exact List.length_pos_of_mem e1
      have hno : nextOf n ss = bestT ((allT n ss n).headD (0, 0, 0)) (allT n ss n).tail := rfl
      have Hno := Lib.hid hno
      have HE := Lib.hid hE
      clear hno ho2 Hown hin hE
      generalize hA : allT n ss n = A at *
      clear hA
      subst hv2
      match A, hne with
      | [t], _ =>
        have Hb := Lib.hid (best_one t oa2 cap2 wo q3 q1 q2)
        clear q3
        go_wp2_with (first | (go_at_call 93; refine Hb.out.mono ?_; rintro e w6 ⟨rfl, hE6⟩))
        have htri := Tri.new w6 t.1 t.2.1 t.2.2
        refine wp_region_plan (.take 0 <| .take 1 <| .take 2 <| .take 3 <| .take 4 <| .take 5 <| .take 6 <| .take 7 <| .take 8 <| .take 9 <| .done) (fun W => Ext (w6.alloc (.cells #[.int .i64 ((t.1 : Nat) : Int), .int .i64 ((t.2.1 : Nat) : Int), .int .i64 ((t.2.2 : Nat) : Int)] 107)) W) mixed (by kernel_rfl) (by kernel_rfl) rfl (fun _ _ d _ _ h => by cases d <;> exact h) ((Ext.refl _).drew) ?_
        repeat (first | (refine plan_take (v := ?_) rfl rfl (fun W hW => ?_) ?_; rotate_left; (focus (have htr := htri.ext hW; have hd0 := htr.c0; have hd1 := htr.c1; have hd2 := htr.c2; clear htr; go_simp; first | exact rfl | (split <;> first | exact rfl | (exfalso; omega)) | done)); simp only [Act.put, List.setIfInBounds_toArray, List.set_cons_zero, List.set_cons_succ]) | (refine plan_skip rfl rfl ?_; simp only [Act.put, List.setIfInBounds_toArray, List.set_cons_zero, List.set_cons_succ]))
        refine plan_done ?_
        go_wp2
        (try simp only [Exit.inBlock, Exit.then])
        refine bodyPost_ret (results_tmp4 rfl _ _ _) rfl ?_
        rw [Hno.out]
        exact ⟨rfl, (B2.out.ext.trans (HE.out.trans hE6)).trans (((Ext.refl w6).alloc _).drew)⟩
      | t :: t2 :: ts, _ =>
        have Hb := Lib.hid (best_any t (t2 :: ts) oa2 cap2 wo q3 q1 q2 (by simp))
        clear q3
        go_wp2_with (first | (go_at_call 93; refine Hb.out.mono ?_; rintro e w6 ⟨rfl, hE6⟩))
        have htri := Tri.new w6 (bestT t (t2 :: ts)).1 (bestT t (t2 :: ts)).2.1 (bestT t (t2 :: ts)).2.2
        refine wp_region_plan (.take 0 <| .take 1 <| .take 2 <| .take 3 <| .take 4 <| .take 5 <| .take 6 <| .take 7 <| .take 8 <| .take 9 <| .done) (fun W => Ext (w6.alloc (.cells #[.int .i64 (((bestT t (t2 :: ts)).1 : Nat) : Int), .int .i64 (((bestT t (t2 :: ts)).2.1 : Nat) : Int), .int .i64 (((bestT t (t2 :: ts)).2.2 : Nat) : Int)] 107)) W) mixed (by kernel_rfl) (by kernel_rfl) rfl (fun _ _ d _ _ h => by cases d <;> exact h) ((Ext.refl _).drew) ?_
        repeat (first | (refine plan_take (v := ?_) rfl rfl (fun W hW => ?_) ?_; rotate_left; (focus (have htr := htri.ext hW; have hd0 := htr.c0; have hd1 := htr.c1; have hd2 := htr.c2; clear htr; go_simp; first | exact rfl | (split <;> first | exact rfl | (exfalso; omega)) | done)); simp only [Act.put, List.setIfInBounds_toArray, List.set_cons_zero, List.set_cons_succ]) | (refine plan_skip rfl rfl ?_; simp only [Act.put, List.setIfInBounds_toArray, List.set_cons_zero, List.set_cons_succ]))
        refine plan_done ?_
        go_wp2
        (try simp only [Exit.inBlock, Exit.then])
        refine bodyPost_ret (results_tmp4 rfl _ _ _) rfl ?_
        rw [Hno.out]
        exact ⟨rfl, (B2.out.ext.trans (HE.out.trans hE6)).trans (((Ext.refl w6).alloc _).drew)⟩

end Go.Proofs.YtiehfpkcaoeieaaGreatDoor
