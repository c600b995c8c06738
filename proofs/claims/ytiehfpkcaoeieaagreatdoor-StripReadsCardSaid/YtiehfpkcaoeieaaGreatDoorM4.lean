/- Contracts and mathematics, joined: Table, Open, Can, Vec, Memo. Conditions stand with each. -/
import Derived.Test.YtiehfpkcaoeieaaGreatDoorM2
import Derived.Test.YtiehfpkcaoeieaaGreatDoorM3
import Derived.Deep.MidRow
import Derived.Deep.WholeRow
import Derived.Maps.Keyed
set_option linter.unusedVariables false
set_option linter.unusedSimpArgs false
/- A table in memory: a board with the names that come after each one. No condition. -/
namespace Go.Proofs.YtiehfpkcaoeieaaGreatDoor
open Go.RowKit Go.My Go.StripM

def up (l : List Nat) : List Int := l.map fun (x : Nat) => (x : Int)
def upp (ss : List (List Nat)) : List (List Int) := ss.map up
theorem up_length (l : List Nat) : (up l).length = l.length := by simp [up]
theorem upp_length (ss : List (List Nat)) : (upp ss).length = ss.length := by simp [upp]
theorem up_get {l : List Nat} {k : Nat} (hk : k < l.length) : (up l)[k]? = some ((l[k] : Nat) : Int) := by simp [up, hk]
theorem upp_get {ss : List (List Nat)} {k : Nat} (hk : k < ss.length) : (upp ss)[k]? = some (up ss[k]) := by simp [upp, hk]

theorem ints_up {w : World} {oa : Option Addr} {l : List Nat} (h : IntsAt w oa (up l)) {k : Nat} (hk : k < l.length) :
    ∃ b off, oa = some ⟨b, off, none⟩ ∧ b < w.heap.size ∧ w.cell? ⟨b, off + k, none⟩ = some (.int .i64 ((l[k] : Nat) : Int)) := h k _ (up_get hk)
theorem rows_up {w : World} {oa : Option Addr} {ss : List (List Nat)} (h : RowsAt w oa (upp ss)) {k : Nat} (hk : k < ss.length) :
    ∃ b off oa' cap', oa = some ⟨b, off, none⟩ ∧ b < w.heap.size ∧ w.cell? ⟨b, off + k, none⟩ = some (.slice oa' ss[k].length cap') ∧ ss[k].length ≤ cap' ∧ cap' ≤ maxLen ∧ (oa' = none → cap' = 0) ∧ IntsAt w oa' (up ss[k]) := by
  obtain ⟨b, off, u, h1, h2, h3, oa', cap', rfl, h4, h5, h6, h7⟩ := h k _ (upp_get hk)
  rw [up_length] at h3 h4
  exact ⟨b, off, oa', cap', h1, h2, h3, h4, h5, h6, h7⟩

/-- The cells of a table. -/
def tcells (n : Int) (sv : Value) (M : Nat → Nat → Bool) : Array Value := (.int .i64 n :: sv :: (List.range 36).map fun k => .bool (M (k / 6) (k % 6))).toArray
def noB : Nat → Nat → Bool := fun _ _ => false
def T0 : Array Value := tcells 0 (.slice none 0 0) noB

theorem tcells_size (n : Int) (sv : Value) (M : Nat → Nat → Bool) : (tcells n sv M).size = 38 := by simp [tcells]
theorem tcells_0 (n : Int) (sv : Value) (M : Nat → Nat → Bool) : (tcells n sv M)[0]? = some (.int .i64 n) := by simp [tcells]
theorem tcells_1 (n : Int) (sv : Value) (M : Nat → Nat → Bool) : (tcells n sv M)[1]? = some sv := by simp [tcells]
theorem tcells_get (n : Int) (sv : Value) (M : Nat → Nat → Bool) (k : Nat) : (tcells n sv M)[k + 2]? = if k < 36 then some (.bool (M (k / 6) (k % 6))) else none := by
  simp only [tcells, List.getElem?_toArray, List.getElem?_cons_succ, List.getElem?_map]
  by_cases h : k < 36
  · rw [if_pos h, List.getElem?_range h]; rfl
  · rw [if_neg h, List.getElem?_eq_none (by simpa using h)]; rfl
theorem tcells_at (n : Int) (sv : Value) (M : Nat → Nat → Bool) {i j : Nat} (hi : i < 6) (hj : j < 6) : (tcells n sv M)[2 + i * 6 + j]? = some (.bool (M i j)) := by
  have h1 : (i * 6 + j) / 6 = i := by omega
  have h2 : (i * 6 + j) % 6 = j := by omega
  rw [show 2 + i * 6 + j = (i * 6 + j) + 2 by omega, tcells_get, if_pos (by omega), h1, h2]
theorem tcells_set (n : Int) (sv : Value) (M : Nat → Nat → Bool) {i j : Nat} (hi : i < 6) (hj : j < 6) : (tcells n sv M).setIfInBounds (2 + i * 6 + j) (.bool true) = tcells n sv (setB M i j) := by
  apply Array.ext_getElem?
  intro k
  rw [Array.getElem?_setIfInBounds, tcells_size]
  match k with
  | 0 => rw [if_neg (by omega), tcells_0, tcells_0]
  | 1 => rw [if_neg (by omega), tcells_1, tcells_1]
  | k + 2 =>
    rw [tcells_get, tcells_get]
    split
    · rename_i he
      have e1 : k / 6 = i := by omega
      have e2 : k % 6 = j := by omega
      rw [if_pos (by omega), if_pos (by omega), e1, e2]; simp [setB]
    · rename_i he
      by_cases hk : k < 36
      · have : ¬ (k / 6 = i ∧ k % 6 = j) := by omega
        rw [if_pos hk, if_pos hk, setB, if_neg this]
      · rw [if_neg hk, if_neg hk]

theorem alloc93 (w : World) : (Instr.alloc 93 true (.tuple #[])).run Tryz.prog w = .ok (.pointer (some ⟨w.heap.size, 0, none⟩)) (w.alloc (.cells T0 93)) := by kernel_rfl
theorem build93 (n : Int) (sv : Value) (w : World) : (Instr.build 93 #[(0, .agg #[.int .i64 n, sv])]).run Tryz.prog w = .ok (.agg (tcells n sv noB)) w := by kernel_rfl
theorem i93 : (Tryz.prog.info? 93).map (·.size) = some 38 := by kernel_rfl
theorem tcells_one (n : Int) (sv : Value) (hs : sv.oneCell' = true) (M : Nat → Nat → Bool) : (tcells n sv M).all (·.oneCell') = true := by
  simp only [tcells, List.all_toArray, List.all_cons, List.all_map, Bool.and_eq_true]
  refine ⟨rfl, hs, ?_⟩
  rw [List.all_eq_true]
  intro k _
  rfl

theorem heap3 (w : World) (A B C : Obj) : (((w.alloc A).alloc B).alloc C).heap[w.heap.size + 1 + 1]? = some C := by
  have := heap_alloc_new ((w.alloc A).alloc B) C
  simpa only [World.size_alloc] using this
theorem T0_size : T0.size = 38 := tcells_size _ _ _
theorem slice_one (oa : Option Addr) (n c : Nat) : (Value.slice oa n c).oneCell' = true := rfl

section
variable {ops : Array Oper} {rest : List Oper} {o : Oper} {a : Act} {w : World} {Q : Exit → Act → World → Prop}
theorem wpList_alloc93 (hgd : o.guard = none) (ho : o.op = .alloc 93) (h : wpList Tryz.prog ops Q rest (a.put o.dst (.pointer (some ⟨w.heap.size, 0, none⟩))) (w.alloc (.cells T0 93))) : wpList Tryz.prog ops Q (o :: rest) a w :=
  wpList_plain hgd fun K hK => by
    unfold Oper.wp
    rw [show execOp a.eval o = (do pure (.value (← Instr.alloc 93 true (.tuple #[])))) by unfold execOp; rw [ho]]
    rw [Sem.run_bind, alloc93]
    exact hK _ _ h
theorem wpList_build93 (hgd : o.guard = none) (x : Operand) (ho : o.op = .build 93 #[(0, x)]) (n : Int) (sv : Value) (hx : a.eval x = .agg #[.int .i64 n, sv])
    (h : wpList Tryz.prog ops Q rest (a.put o.dst (.agg (tcells n sv noB))) w) : wpList Tryz.prog ops Q (o :: rest) a w :=
  wpList_plain hgd fun K hK => by
    unfold Oper.wp
    rw [show execOp a.eval o = (do pure (.value (← Instr.build 93 #[(0, .agg #[.int .i64 n, sv])]))) by unfold execOp; simp only [ho, List.map_toArray, List.map_cons, List.map_nil, hx]]
    rw [Sem.run_bind, build93]
    exact hK _ _ h
theorem at_store93 (p x : Operand) (_ho : o.op = .store 93 p x) (h : wpList Tryz.prog ops Q (o :: rest) a w) : wpList Tryz.prog ops Q (o :: rest) a w := h
theorem wpList_store93 (hgd : o.guard = none) (p x : Operand) (ho : o.op = .store 93 p x) (b : Nat) (hp : a.eval p = .pointer (some ⟨b, 0, none⟩)) (n : Int) (sv : Value) (hs : sv.oneCell' = true) (M : Nat → Nat → Bool)
    (hx : a.eval x = .agg (tcells n sv M)) (c : Array Value) (hb : w.heap[b]? = some (.cells c 93 (0, 0))) (hc : c.size = 38)
    (h : ∀ w', w'.heap[b]? = some (.cells (tcells n sv M) 93 (0, 0)) → w.grownBy w' (some b) → w'.heap.size = w.heap.size → wpList Tryz.prog ops Q rest (a.put o.dst undef) w') : wpList Tryz.prog ops Q (o :: rest) a w :=
  wpList_plain hgd fun K hK => by
    unfold Oper.wp
    rw [show execOp a.eval o = (do Instr.storeAt 93 (.pointer (some ⟨b, 0, none⟩)) (.agg (tcells n sv M)); pure .skip) by unfold execOp; rw [ho, ← hx, ← hp]]
    have hr : (Instr.storeAt 93 (.pointer (some ⟨b, 0, none⟩)) (.agg (tcells n sv M))).run Tryz.prog w = .ok () (w.setRow b (tcells n sv M)) := by
      simp only [Instr.storeAt, Instr.sureAddr, Sem.run_bind, Sem.run_pure, Result.andThen]
      exact run_storeVar_row _ _ _ _ c (tcells n sv M) hb (by rw [tcells_size]; exact i93) (by rw [hc, tcells_size]) (tcells_one n sv hs M)
    rw [Sem.run_bind, hr]
    exact hK _ _ (h _ (setRow_heap w b c _ 93 _ hb) ⟨rfl, rfl, rfl, by simp, fun k _ hne => setRow_other w b k _ (fun e => hne (by rw [e]))⟩ (by simp))
theorem at_load93 (p : Operand) (_ho : o.op = .load 93 p) (h : wpList Tryz.prog ops Q (o :: rest) a w) : wpList Tryz.prog ops Q (o :: rest) a w := h
theorem wpList_load93 (hgd : o.guard = none) (p : Operand) (ho : o.op = .load 93 p) (b : Nat) (hp : a.eval p = .pointer (some ⟨b, 0, none⟩)) (n : Int) (sv : Value) (M : Nat → Nat → Bool)
    (hb : w.heap[b]? = some (.cells (tcells n sv M) 93 (0, 0))) (h : wpList Tryz.prog ops Q rest (a.put o.dst (.agg (tcells n sv M))) w) : wpList Tryz.prog ops Q (o :: rest) a w :=
  wpList_load_row hgd 93 p ho b hp 93 _ _ _ hb Tryz.underlying93 rfl (by rw [tcells_size]; exact i93) h
end

/-- The memory of a call of open: the board's box, the result's variable, the table. -/
structure TS (w wr : World) (n : Int) (sv : Value) (M : Nat → Nat → Bool) : Prop where
  ext : Ext w wr
  size : w.heap.size + 3 ≤ wr.heap.size
  c0 : wr.cell? ⟨w.heap.size, 0, none⟩ = some (.int .i64 n)
  c1 : wr.cell? ⟨w.heap.size, 1, none⟩ = some sv
  res : wr.heap[w.heap.size + 1]? = some (.cells T0 93 (0, 0))
  tab : wr.heap[w.heap.size + 1 + 1]? = some (.cells (tcells n sv M) 93 (0, 0))

theorem TS.at {w wr : World} {n : Int} {sv : Value} {M : Nat → Nat → Bool} (h : TS w wr n sv M) {i j : Nat} (hi : i < 6) (hj : j < 6) :
    wr.cell? ⟨w.heap.size + 1 + 1, 2 + i * 6 + j, none⟩ = some (.bool (M i j)) := by
  rw [cell_of_row _ _ _ _ _ _ h.tab, tcells_at n sv M hi hj]
theorem TS.free {w wr : World} {n : Int} {sv : Value} {M : Nat → Nat → Bool} (h : TS w wr n sv M) (k : Nat) :
    wr.frozen? ⟨w.heap.size + 1 + 1, k, none⟩ = false := frozen_of_row _ _ _ _ _ h.tab
theorem TS.set {w wr : World} {n : Int} {sv : Value} {M : Nat → Nat → Bool} (h : TS w wr n sv M) {i j : Nat} (hi : i < 6) (hj : j < 6) :
    TS w (wr.setCell ⟨w.heap.size + 1 + 1, 2 + i * 6 + j, none⟩ (.bool true)) n sv (setB M i j) := by
  have o : ∀ k, k ≠ w.heap.size + 1 + 1 → (wr.setCell ⟨w.heap.size + 1 + 1, 2 + i * 6 + j, none⟩ (.bool true)).heap[k]? = wr.heap[k]? := fun k hk => heap_setCell_other _ _ _ _ hk
  refine ⟨h.ext.below (B := w.heap.size) ((Below.refl _ _).setCell (by simp; omega) _) (Nat.le_refl _), by rw [World.size_setCell]; exact h.size, ?_, ?_, ?_, ?_⟩
  · exact (World.cell?_of_block (o _ (by simp; omega))).trans h.c0
  · exact (World.cell?_of_block (o _ (by simp; omega))).trans h.c1
  · exact (o _ (by omega)).trans h.res
  · rw [heap_setCell_same _ _ _ _ _ _ h.tab, tcells_set n sv M hi hj]

theorem TS.start {w w1 : World} {n : Int} {sv : Value} (h : (((w.alloc (.cells #[.int .i64 n, sv] 24)).alloc (.cells T0 93)).alloc (.cells T0 93)).grownBy w1 (some (w.heap.size + 1 + 1)))
    (hT : w1.heap[w.heap.size + 1 + 1]? = some (.cells (tcells n sv noB) 93 (0, 0))) : TS w w1 n sv noB := by
  have hs := h.size
  simp only [World.size_alloc] at hs
  have hb : ∀ k, k < w.heap.size + 1 + 1 → w1.heap[k]? = (((w.alloc (.cells #[.int .i64 n, sv] 24)).alloc (.cells T0 93)).alloc (.cells T0 93)).heap[k]? := fun k hk => h.block k (by simp only [World.size_alloc]; omega) (by simp; omega)
  refine ⟨⟨h.os, h.tape, h.output, by omega, fun k hk => ?_⟩, by omega, ?_, ?_, ?_, hT⟩
  · rw [hb k (by omega), Below.heap_alloc _ _ _ (by simp only [World.size_alloc]; omega), Below.heap_alloc _ _ _ (by simp only [World.size_alloc]; omega), Below.heap_alloc _ _ _ hk]
  · exact (World.cell?_of_block (hb w.heap.size (by omega))).trans (by go_simp)
  · exact (World.cell?_of_block (hb w.heap.size (by omega))).trans (by go_simp)
  · rw [hb _ (by omega)]
    have := heap_alloc_new (w.alloc (.cells #[.int .i64 n, sv] 24)) (.cells T0 93)
    rw [Below.heap_alloc _ _ _ (by simp only [World.size_alloc]; omega)]
    simpa only [World.size_alloc] using this

end Go.Proofs.YtiehfpkcaoeieaaGreatDoor
/- Contract: strip.open: the table of what comes after what, or it gives up. No condition beyond boards as defined. -/
namespace Go.Proofs.YtiehfpkcaoeieaaGreatDoor
open Go.RowKit Go.My Go.StripM

/-- What open hands back: the table, or, if the spots contradict each other, a clash. -/
def OpenPost (n : Nat) (ss : List (List Nat)) (sv : Value) (w : World) (e : Ending) (w' : World) : Prop :=
  Ext w w' ∧ if cyc n ss = true then ∃ i : Int, e = .panicked [{ v := .iface 125 (.agg #[.int .i64 i]), recovered := false }] else e = .returned (.agg (tcells n sv (tab n ss)))

/-- No name so far comes after itself. -/
def noSelf (n : Nat) (ss : List (List Nat)) (k : Nat) : Prop := ∀ i, i < k → tab n ss i i = false
theorem cyc_no {n : Nat} {ss : List (List Nat)} {k : Nat} (hk : n ≤ k) (h : noSelf n ss k) : cyc n ss = false := by
  rw [cyc, List.any_eq_false]
  intro i hi
  rw [List.mem_range] at hi
  simp [h i (by omega)]
theorem cyc_yes {n : Nat} {ss : List (List Nat)} {k : Nat} (hk : k < n) (h : tab n ss k k = true) : cyc n ss = true := by
  rw [cyc, List.any_eq_true]
  exact ⟨k, by simpa using hk, h⟩

set_option maxRecDepth 100000 in
set_option maxHeartbeats 1000000 in
theorem open_any (n : Nat) (ss : List (List Nat)) (oa : Option Addr) (cap : Nat) (w : World) (h : RowsAt w oa (upp ss)) (hl : ss.length ≤ 1000) (hn : n ≤ 6) (hv : Valid n ss) :
    Calls Tryz.prog 76 #[.agg #[.int .i64 n, .slice oa ss.length cap]] w fun e w' => OpenPost n ss (.slice oa ss.length cap) w e w' := by
  have H := Lib.hid h; clear h
  have Hv := Lib.hid hv; clear hv
  go_enter Tryz.func76, Tryz.ntmps76
  go_wp2_with (first | (with_reducible refine wpList_alloc93 rfl rfl ?_) | (with_reducible refine wpList_build93 rfl _ rfl n (.slice oa ss.length cap) ?_ ?_; (focus (go_simp; done))) | (with_reducible refine at_store93 _ _ rfl ?_; refine wpList_store93 rfl _ _ rfl (w.heap.size + 1 + 1) ?_ n (.slice oa ss.length cap) (slice_one _ _ _) noB ?_ T0 (heap3 _ _ _ _) T0_size ?_; (focus (go_simp; done)); (focus (go_simp; done)); intro w1 hT hg1 _; have hts := TS.start hg1 hT; have Hts := Lib.hid hts; have c0 := hts.c0; have c1 := hts.c1; clear hts hT hg1))
  clear c0 c1
  go_loopg [19] ss.length (fun g v wr => ∃ i : Nat, i + g = ss.length ∧ v = .int .i64 i ∧ TS w wr n (.slice oa ss.length cap) (mOut ss i))
  case atStart => exact ⟨0, by simp, rfl, by rw [mOut_zero]; exact Hts.out⟩
  case round =>
    clear Hts
    obtain ⟨i, hi, rfl, hts⟩ := hrel
    have Hts := Lib.hid hts; clear hts
    obtain ⟨wo, rfl⟩ : ∃ wo : World, wo = wr := ⟨_, rfl⟩
    obtain ⟨g0, rfl⟩ : ∃ g0 : Nat, g0 = gk := ⟨_, rfl⟩
    by_cases hlt : i < ss.length
    · obtain ⟨b, off, oa', cap', hoa, _, hc0, h1, h2, _, h4⟩ := rows_up H.out hlt
      subst hoa
      have hc := cell_ext Hts.out.ext hc0
      clear hc0
      have H4 := Lib.hid h4; clear h4
      have hll : ss[i].length ≤ 9223372036854775807 := by unfold maxLen at h2; omega
      have Hvi := Lib.hid (Hv.out ss[i] (List.getElem_mem hlt))
      go_wp2
      go_loopg [25] ss[i].length (fun g v wr => ∃ j : Nat, j + g = ss[i].length ∧ v = .int .i64 j ∧ TS w wr n (.slice (some ⟨b, off, none⟩) ss.length cap) (mMid ss i ss[i] j))
      case atStart => exact ⟨0, by simp, rfl, by rw [mMid_zero]; exact Hts.out⟩
      case round =>
        clear Hts
        obtain ⟨j, hj, rfl, hts⟩ := hrel
        have Hts := Lib.hid hts; clear hts
        obtain ⟨w2, rfl⟩ : ∃ w2 : World, w2 = wr := ⟨_, rfl⟩
        obtain ⟨g2, rfl⟩ : ∃ g2 : Nat, g2 = gk := ⟨_, rfl⟩
        by_cases hjl : j < ss[i].length
        · obtain ⟨b', off', hoa', _, hd⟩ := ints_up (H4.out.ext Hts.out.ext) hjl
          subst hoa'
          have hx := Hvi.out.2 _ (List.getElem_mem hjl)
          by_cases hj1 : j + 1 < ss[i].length
          · have hne : ¬ cap' = j + 1 := by omega
            go_wp2
            go_loopg [35] ss[i].length (fun g v wr => ∃ p : Nat, p + g = ss[i].length ∧ p ≤ ss[i].length - (j + 1) ∧ v = .int .i64 p ∧ TS w wr n (.slice (some ⟨b, off, none⟩) ss.length cap) (mIn ss i ss[i] j p))
            case atStart => exact ⟨0, by simp, by omega, rfl, by rw [mIn_zero]; exact Hts.out⟩
            case round =>
              clear Hts
              obtain ⟨p, hp, hp2, rfl, hts⟩ := hrel
              have Hts := Lib.hid hts; clear hts
              by_cases hpl : p < ss[i].length - (j + 1)
              · obtain ⟨b2, off2, ho2, _, hd2⟩ := ints_up (H4.out.ext Hts.out.ext) (k := j + 1 + p) (by omega)
                obtain ⟨rfl, rfl⟩ : b2 = b' ∧ off2 = off' := by simpa using ho2.symm
                clear ho2
                rw [← Nat.add_assoc] at hd2
                have hy := Hvi.out.2 _ (List.getElem_mem (show j + 1 + p < ss[i].length by omega))
                have tc := Hts.out.at (i := ss[i][j]) (j := ss[i][j + 1 + p]) (by omega) (by omega)
                have tf := Hts.out.free (2 + ss[i][j] * 6 + ss[i][j + 1 + p])
                have hm := mIn_succ ss i ss[i] j p (by simp; omega)
                have e1 : ss[i].getD j 0 = ss[i][j] := by simp [List.getD, hjl]
                have e2 : (ss[i].drop (j + 1)).getD p 0 = ss[i][j + 1 + p] := by simp [List.getD, show j + 1 + p < ss[i].length by omega]
                rw [e1, e2] at hm
                have Hm := Lib.hid hm
                clear hm e1 e2
                go_wp2
                go_roundg (gk - 1)
                case measure => omega
                case rel => exact ⟨p + 1, by omega, by omega, by go_num, by rw [Hm.out]; exact Hts.out.set (by omega) (by omega)⟩
              · have hm := mIn_all ss i ss[i] j p (by simp; omega)
                have Hm := Lib.hid hm
                clear hm
                go_wp2
                go_roundg (g2 - 1)
                case measure => omega
                case rel => exact ⟨j + 1, by omega, by go_num, by rw [← Hm.out]; exact Hts.out⟩
          · have hm : mMid ss i ss[i] j = mMid ss i ss[i] (j + 1) := by rw [← mIn_all ss i ss[i] j 0 (by simp; omega), mIn_zero]
            have Hm := Lib.hid hm
            clear hm
            by_cases hcp : cap' = j + 1
            all_goals
              go_wp2
              go_loopg [35] 1 (fun g v wr => v = .int .i64 0 ∧ TS w wr n (.slice (some ⟨b, off, none⟩) ss.length cap) (mMid ss i ss[i] j))
              case atStart => exact ⟨rfl, Hts.out⟩
              case round =>
                clear Hts
                obtain ⟨rfl, hts⟩ := hrel
                have Hts := Lib.hid hts; clear hts
                go_wp2
                go_roundg (g2 - 1)
                case measure => omega
                case rel => exact ⟨j + 1, by omega, by go_num, by rw [← Hm.out]; exact Hts.out⟩
        · have hjj : mMid ss i ss[i] j = mOut ss (i + 1) := mMid_all ss i hlt j (by omega) (by omega)
          have Hj := Lib.hid hjj; clear hjj
          go_wp2
          go_roundg (g0 - 1)
          case measure => omega
          case rel => exact ⟨i + 1, by omega, by go_num, by rw [← Hj.out]; exact Hts.out⟩
    · have hm : mOut ss i = clo (edge ss) 0 := mOut_all ss i (by omega)
      rw [hm] at Hts
      clear hm
      have c0 := Hts.out.c0
      go_wp2
      clear c0
      go_loopg [49] n (fun g v wr => ∃ k : Nat, k + g = n ∧ v = .int .i64 k ∧ TS w wr n (.slice oa ss.length cap) (clo (edge ss) k))
      case atStart => exact ⟨0, by simp, rfl, Hts.out⟩
      case round =>
        clear Hts
        obtain ⟨k, hk, rfl, hts⟩ := hrel
        have Hts := Lib.hid hts; clear hts
        obtain ⟨g1, rfl⟩ : ∃ g1 : Nat, g1 = gk := ⟨_, rfl⟩
        by_cases hkn : k < n
        · have c0 := Hts.out.c0
          go_wp2
          clear c0
          go_loopg [54] n (fun g v wr => ∃ i : Nat, i + g = n ∧ v = .int .i64 i ∧ TS w wr n (.slice oa ss.length cap) (stage (edge ss) k i 0))
          case atStart => exact ⟨0, by simp, rfl, by rw [stage_zero]; exact Hts.out⟩
          case round =>
            clear Hts
            obtain ⟨a, ha, rfl, hts⟩ := hrel
            have Hts := Lib.hid hts; clear hts
            obtain ⟨g2, rfl⟩ : ∃ g2 : Nat, g2 = gk := ⟨_, rfl⟩
            by_cases han : a < n
            · have c0 := Hts.out.c0
              go_wp2
              clear c0
              go_loopg [59] n (fun g v wr => ∃ j : Nat, j + g = n ∧ v = .int .i64 j ∧ TS w wr n (.slice oa ss.length cap) (stage (edge ss) k a j))
              case atStart => exact ⟨0, by simp, rfl, Hts.out⟩
              case round =>
                clear Hts
                obtain ⟨j, hj, rfl, hts⟩ := hrel
                have Hts := Lib.hid hts; clear hts
                by_cases hjn : j < n
                · have t1 := Hts.out.at (i := a) (j := k) (by omega) (by omega)
                  have t2 := Hts.out.at (i := k) (j := j) (by omega) (by omega)
                  have t3 := Hts.out.at (i := a) (j := j) (by omega) (by omega)
                  have tf := Hts.out.free (2 + a * 6 + j)
                  rw [stage_row] at t1
                  rw [stage_col] at t2
                  cases h1 : clo (edge ss) k a k
                  · have hm := stage_skip (edge ss) k a j (by rw [h1]; rfl)
                    have Hm := Lib.hid hm
                    clear hm
                    rw [h1] at t1
                    have H1 := Lib.hid h1
                    clear h1 t2 t3 tf
                    go_wp2
                    go_roundg (gk - 1)
                    case measure => omega
                    case rel => exact ⟨j + 1, by omega, by go_num, by rw [Hm.out]; exact Hts.out⟩
                  · cases h2 : clo (edge ss) k k j
                    · have hm := stage_skip (edge ss) k a j (by rw [h1, h2]; rfl)
                      have Hm := Lib.hid hm
                      clear hm
                      rw [h1] at t1
                      rw [h2] at t2
                      have H1 := Lib.hid h1
                      have H2 := Lib.hid h2
                      clear h1 h2 t3 tf
                      go_wp2
                      go_roundg (gk - 1)
                      case measure => omega
                      case rel => exact ⟨j + 1, by omega, by go_num, by rw [Hm.out]; exact Hts.out⟩
                    · have hm := stage_set (edge ss) k a j h1 h2
                      have Hm := Lib.hid hm
                      clear hm
                      rw [h1] at t1
                      rw [h2] at t2
                      have H1 := Lib.hid h1
                      have H2 := Lib.hid h2
                      clear h1 h2
                      go_wp2
                      go_roundg (gk - 1)
                      case measure => omega
                      case rel => exact ⟨j + 1, by omega, by go_num, by rw [Hm.out]; exact Hts.out.set (by omega) (by omega)⟩
                · have hm := stage_next Hv.out k a j (by omega)
                  have Hm := Lib.hid hm
                  clear hm
                  go_wp2
                  go_roundg (g2 - 1)
                  case measure => omega
                  case rel => exact ⟨a + 1, by omega, by go_num, by rw [← Hm.out]; exact Hts.out⟩
            · have hm := stage_all Hv.out k a (by omega)
              have Hm := Lib.hid hm
              clear hm
              go_wp2
              go_roundg (g1 - 1)
              case measure => omega
              case rel => exact ⟨k + 1, by omega, by go_num, by rw [← Hm.out]; exact Hts.out⟩
        · have hkk : k = n := by omega
          rw [hkk] at Hts
          clear hkk
          have c0 := Hts.out.c0
          go_wp2
          clear c0
          go_loopg [86] n (fun g v wr => ∃ i : Nat, i + g = n ∧ v = .int .i64 i ∧ TS w wr n (.slice oa ss.length cap) (tab n ss) ∧ noSelf n ss i)
          case atStart => exact ⟨0, by simp, rfl, Hts.out, fun i hi => absurd hi (by omega)⟩
          case round =>
            clear Hts
            obtain ⟨a, ha, rfl, hts, hns⟩ := hrel
            have Hts := Lib.hid hts; clear hts
            have Hns := Lib.hid hns; clear hns
            by_cases han : a < n
            · have t1 := Hts.out.at (i := a) (j := a) (by omega) (by omega)
              cases h1 : tab n ss a a
              · rw [h1] at t1
                have H1 := Lib.hid h1
                clear h1
                go_wp2
                go_roundg (gk - 1)
                case measure => omega
                case rel => exact ⟨a + 1, by omega, by go_num, Hts.out, fun i hi => by
                  by_cases e : i = a
                  · rw [e]; exact H1.out
                  · exact Hns.out i (by omega)⟩
              · rw [h1] at t1
                have H1 := Lib.hid h1
                clear h1
                go_wp2
                exact ⟨rfl, Hts.out.ext, by rw [if_pos (cyc_yes han H1.out)]; exact ⟨_, rfl⟩⟩
            · go_wp2_with (first | (with_reducible refine at_load93 _ rfl ?_; refine wpList_load93 rfl _ rfl (w.heap.size + 1 + 1) ?_ n (.slice oa ss.length cap) (tab n ss) Hts.out.tab ?_; (focus (go_simp; done))) | (with_reducible refine at_store93 _ _ rfl ?_; refine wpList_store93 rfl _ _ rfl (w.heap.size + 1) ?_ n (.slice oa ss.length cap) (slice_one _ _ _) (tab n ss) ?_ T0 Hts.out.res T0_size ?_; (focus (go_simp; done)); (focus (go_simp; done)); intro w1 hT hg1 _))
              refine bodyPost_ret (v := .agg (tcells n (.slice oa ss.length cap) (tab n ss))) (results_cell_row rfl _ w1 (w.heap.size + 1) 93 _ (0, 0) _ (by simp [Act.put]) hT Tryz.underlying93 rfl (by rw [tcells_size]; exact i93)) (by simp [Act.put]) ⟨?_, ?_⟩
              · exact Hts.out.ext.below (B := w.heap.size) ((Below.refl _ _).grown hg1 (by have := Hts.out.size; omega) (fun k e => by simp at e; omega)) (Nat.le_refl _)
              · rw [if_neg (by rw [cyc_no (k := a) (by omega) Hns.out]; simp)]
end Go.Proofs.YtiehfpkcaoeieaaGreatDoor
/- Contracts: can, free, sum. No condition beyond boards as defined. -/
namespace Go.Proofs.YtiehfpkcaoeieaaGreatDoor
open Go.RowKit Go.My Go.StripM

theorem can1_ok (n : Nat) (ss : List (List Nat)) (oa : Option Addr) (cap k : Nat) (w : World) (h : RowsAt w oa (upp ss)) (hl : ss.length ≤ 1000) (hn : n ≤ 6) (hv : Valid n ss)
    (h0 : w.cell? ⟨k, 0, none⟩ = some (.int .i64 n)) (h1 : w.cell? ⟨k, 1, none⟩ = some (.slice oa ss.length cap)) (hc : cyc n ss = false) :
    Calls Tryz.prog 125 #[.pointer (some ⟨k, 0, none⟩)] w fun e w' => (∃ v, e = .returned v) ∧ Ext w w' := by
  have H := Lib.hid h; clear h
  have Hv := Lib.hid hv; clear hv
  have Hc := Lib.hid hc; clear hc
  go_enter Tryz.func125, Tryz.ntmps125
  go_wp2_with (first | (go_at_call 76; refine (open_any n ss oa cap _ H.out hl hn Hv.out).mono ?_; rintro e w' ⟨hE, he⟩; rw [if_neg (by rw [Hc.out]; simp)] at he; subst he))
  go_end0
  exact ⟨⟨_, rfl⟩, hE⟩

theorem can1_clash (n : Nat) (ss : List (List Nat)) (oa : Option Addr) (cap k : Nat) (w : World) (h : RowsAt w oa (upp ss)) (hl : ss.length ≤ 1000) (hn : n ≤ 6) (hv : Valid n ss)
    (h0 : w.cell? ⟨k, 0, none⟩ = some (.int .i64 n)) (h1 : w.cell? ⟨k, 1, none⟩ = some (.slice oa ss.length cap)) (hc : cyc n ss = true) :
    Calls Tryz.prog 125 #[.pointer (some ⟨k, 0, none⟩)] w fun e w' => (∃ i : Int, e = .panicked [{ v := .iface 125 (.agg #[.int .i64 i]), recovered := false }]) ∧ Ext w w' := by
  have H := Lib.hid h; clear h
  have Hv := Lib.hid hv; clear hv
  have Hc := Lib.hid hc; clear hc
  go_enter Tryz.func125, Tryz.ntmps125
  go_wp2_with (first | (go_at_call 76; refine (open_any n ss oa cap _ H.out hl hn Hv.out).mono ?_; rintro e w' ⟨hE, he⟩; rw [if_pos Hc.out] at he; obtain ⟨i, rfl⟩ := he))
  exact ⟨rfl, ⟨i, rfl⟩, hE⟩

theorem enters125 (args : Array Value) (w : World) : (callFunc 125 args).run Tryz.prog w = .ok (.enter 125 args) w := by kernel_rfl


/-- What a call leaves, of which the callee's variable has been written. -/
theorem ext_grown {w w1 w' : World} (h1 : Ext w w1) (h2 : w1.grownBy w' (some w.heap.size)) : Ext w w' :=
  h1.below (B := w.heap.size) ((Below.refl _ _).grown h2 h1.size (fun k e => by simp at e; omega)) (Nat.le_refl _)
theorem ext_of_alloc {w w1 : World} {o : Obj} (h : Ext (w.alloc o) w1) : Ext w w1 := ((Ext.refl w).alloc o).trans h


theorem attempt_ok_ext (K : Nat) (caps : Array Value) (w : World) (hK : ∀ args w, (callFunc K args).run Tryz.prog w = .ok (.enter K args) w)
    (hc : Calls Tryz.prog K caps (w.alloc (.cells #[.int .i64 0] 28)) fun e w1 => (∃ v, e = .returned v) ∧ Ext (w.alloc (.cells #[.int .i64 0] 28)) w1) :
    Calls Tryz.prog 74 #[.func (.func K) #[] caps] w fun e w' => e = .returned (.int .i64 0) ∧ Ext w w' := by
  refine (attempt_ok K caps w (fun w1 => Ext w w1) hK (hc.mono ?_)).mono ?_
  · rintro e w1 ⟨h1, h2⟩
    exact ⟨h1, cell_ext h2 (by go_simp), (h2.frozen (p := ⟨w.heap.size, 0, none⟩) (by simp)).trans (by go_simp), ext_of_alloc h2⟩
  · rintro e w' ⟨h1, w1, h2, h3⟩
    exact ⟨h1, ext_grown h2 h3⟩
theorem attempt_clash_ext (K : Nat) (caps : Array Value) (w : World) (hK : ∀ args w, (callFunc K args).run Tryz.prog w = .ok (.enter K args) w)
    (hc : Calls Tryz.prog K caps (w.alloc (.cells #[.int .i64 0] 28)) fun e w1 => (∃ i : Int, e = .panicked [{ v := .iface 125 (.agg #[.int .i64 i]), recovered := false }]) ∧ Ext (w.alloc (.cells #[.int .i64 0] 28)) w1) :
    Calls Tryz.prog 74 #[.func (.func K) #[] caps] w fun e w' => e = .returned (.int .i64 7) ∧ Ext w w' := by
  refine (attempt_clash K caps w (fun w1 => Ext w w1) hK (hc.mono ?_)).mono ?_
  · rintro e w1 ⟨h1, h2⟩
    exact ⟨h1, cell_ext h2 (by go_simp), (h2.frozen (p := ⟨w.heap.size, 0, none⟩) (by simp)).trans (by go_simp), ext_of_alloc h2⟩
  · rintro e w' ⟨h1, w1, h2, h3⟩
    exact ⟨h1, ext_grown h2 h3⟩
theorem attempt_text_ext (K : Nat) (caps : Array Value) (w : World) (hK : ∀ args w, (callFunc K args).run Tryz.prog w = .ok (.enter K args) w)
    (hc : Calls Tryz.prog K caps (w.alloc (.cells #[.int .i64 0] 28)) fun e w1 => (∃ s, e = .panicked [{ v := .iface 127 (.agg #[.string s]), recovered := false }]) ∧ Ext (w.alloc (.cells #[.int .i64 0] 28)) w1) :
    Calls Tryz.prog 74 #[.func (.func K) #[] caps] w fun e w' => e = .returned (.int .i64 4) ∧ Ext w w' := by
  refine (attempt_text K caps w (fun w1 => Ext w w1) hK (hc.mono ?_)).mono ?_
  · rintro e w1 ⟨h1, h2⟩
    exact ⟨h1, cell_ext h2 (by go_simp), (h2.frozen (p := ⟨w.heap.size, 0, none⟩) (by simp)).trans (by go_simp), ext_of_alloc h2⟩
  · rintro e w' ⟨h1, w1, h2, h3⟩
    exact ⟨h1, ext_grown h2 h3⟩

set_option maxHeartbeats 1000000 in
theorem can_any (n : Nat) (ss : List (List Nat)) (oa : Option Addr) (cap : Nat) (w : World) (h : RowsAt w oa (upp ss)) (hl : ss.length ≤ 1000) (hn : n ≤ 6) (hv : Valid n ss) :
    Calls Tryz.prog 96 #[.agg #[.int .i64 n, .slice oa ss.length cap]] w fun e w' => e = .returned (.bool (!cyc n ss)) ∧ Ext w w' := by
  have hmf := makeFunc_run
  have hE2 := ((Ext.refl w).alloc (.cells #[.int .i64 n, .slice oa ss.length cap] 24))
  have c0 : ((w.alloc (.cells #[.int .i64 n, .slice oa ss.length cap] 24)).alloc (.cells #[.int .i64 0] 28)).cell? ⟨w.heap.size, 0, none⟩ = some (.int .i64 n) := by go_simp
  have c1 : ((w.alloc (.cells #[.int .i64 n, .slice oa ss.length cap] 24)).alloc (.cells #[.int .i64 0] 28)).cell? ⟨w.heap.size, 1, none⟩ = some (.slice oa ss.length cap) := by go_simp
  cases hc : cyc n ss
  · have Hg := Lib.hid (attempt_ok_ext 125 #[.pointer (some ⟨w.heap.size, 0, none⟩)] _ enters125 (can1_ok n ss oa cap w.heap.size _ (h.ext (hE2.alloc _)) hl hn hv c0 c1 hc))
    clear h hv c0 c1 hc
    go_enter Tryz.func96, Tryz.ntmps96
    go_wp2_with (first | (go_at_call 74; refine Hg.out.mono ?_; rintro e w' ⟨rfl, hE⟩))
    go_ret
    exact ⟨rfl, hE2.trans hE⟩
  · have Hg := Lib.hid (attempt_clash_ext 125 #[.pointer (some ⟨w.heap.size, 0, none⟩)] _ enters125 (can1_clash n ss oa cap w.heap.size _ (h.ext (hE2.alloc _)) hl hn hv c0 c1 hc))
    clear h hv c0 c1 hc
    go_enter Tryz.func96, Tryz.ntmps96
    go_wp2_with (first | (go_at_call 74; refine Hg.out.mono ?_; rintro e w' ⟨rfl, hE⟩))
    go_ret
    exact ⟨rfl, hE2.trans hE⟩

theorem wrap64_in (x : Int) (h1 : -9223372036854775808 ≤ x) (h2 : x ≤ 9223372036854775807) : wrap64 x = x := by unfold wrap64; omega

/-- The sum of a list. -/
theorem sum_any (l : List Nat) (oa : Option Addr) (cap : Nat) (w : World) (h : IntsAt w oa (up l)) (hl : l.length ≤ 1000) (hs : ∀ k, (l.take k).sum ≤ 1000000) :
    Calls Tryz.prog 136 #[.slice oa l.length cap] w fun e w' => e = .returned (.int .i64 (l.sum : Nat)) ∧ Ext w w' := by
  have H := Lib.hid h; clear h
  have Hs := Lib.hid hs; clear hs
  go_enter Tryz.func136, Tryz.ntmps136
  go_wp2
  go_loopg [3, 8] l.length (fun g v i wr => ∃ k : Nat, k + g = l.length ∧ wr = w ∧ i = .int .i64 k ∧ v = .int .i64 ((l.take k).sum : Nat))
  case atStart => exact ⟨0, by simp, rfl, rfl, rfl⟩
  case round =>
    obtain ⟨k, hk, rfl, rfl, rfl⟩ := hrel
    by_cases hlt : k < l.length
    · obtain ⟨b, off, rfl, _, hc⟩ := ints_up H.out hlt
      have h1 := Hs.out (k + 1)
      rw [List.take_succ_eq_append_getElem hlt, List.sum_append] at h1
      have H1 := Lib.hid h1; clear h1
      go_wp2
      go_roundg (gk - 1)
      case measure => omega
      case rel => exact ⟨k + 1, by omega, rfl, by go_num, by
        have := H1.out
        simp only [List.sum_cons, List.sum_nil, Nat.add_zero] at this
        rw [List.take_succ_eq_append_getElem hlt, List.sum_append]; simp only [List.sum_cons, List.sum_nil, Nat.add_zero]
        rw [wrap64_in _ (by omega) (by omega)]; push_cast; rfl⟩
    · have hkk : k = l.length := by omega
      have Hkk := Lib.hid hkk
      clear hkk
      go_wp2
      go_ret
      exact ⟨ret_int (by rw [Hkk.out, List.take_length]), Ext.refl _⟩

end Go.Proofs.YtiehfpkcaoeieaaGreatDoor
/- Some names, each one by its number: in memory, and as keys of a map. No condition. -/
namespace Go.Proofs.YtiehfpkcaoeieaaGreatDoor
open Go.RowKit Go.My Go.StripM

/-- The cells of some names. -/
def ncells (t : Nat → Bool) : Array Value := #[.bool (t 0), .bool (t 1), .bool (t 2), .bool (t 3), .bool (t 4), .bool (t 5)]
theorem ncells_size (t : Nat → Bool) : (ncells t).size = 6 := rfl
theorem ncells_at (t : Nat → Bool) {i : Nat} (hi : i < 6) : (ncells t)[i]? = some (.bool (t i)) := by
  match i, hi with
  | 0, _ | 1, _ | 2, _ | 3, _ | 4, _ | 5, _ => rfl
theorem ncells_set (t : Nat → Bool) {i : Nat} (hi : i < 6) : (ncells t).setIfInBounds i (.bool true) = ncells (upd t i) := by
  match i, hi with
  | 0, _ | 1, _ | 2, _ | 3, _ | 4, _ | 5, _ => rfl
theorem ncells_one (t : Nat → Bool) : (ncells t).all (·.oneCell') = true := by simp [ncells, Value.oneCell']
theorem i90 : (Tryz.prog.info? 90).map (·.size) = some 6 := by kernel_rfl

theorem free_step {T : Nat → Nat → Bool} {n : Nat} {t : Nat → Bool} {x k : Nat} (h : ∀ i, i < k → (!T i x || t i) = true) (hk : n ≤ k) (hx : t x = false) : free T n t x = true := by
  simp only [free, Bool.and_eq_true, List.all_eq_true, List.mem_range]
  exact ⟨by simp [hx], fun i hi => h i (by omega)⟩
theorem free_stop {T : Nat → Nat → Bool} {n : Nat} {t : Nat → Bool} {x k : Nat} (hk : k < n) (h1 : T k x = true) (h2 : t k = false) : free T n t x = false := by
  rw [free, Bool.and_eq_false_iff]
  refine .inr ?_
  rw [List.all_eq_false]
  exact ⟨k, by simpa using hk, by simp [h1, h2]⟩
theorem free_taken {T : Nat → Nat → Bool} {n : Nat} {t : Nat → Bool} {x : Nat} (hx : t x = true) : free T n t x = false := by simp [free, hx]

set_option maxHeartbeats 1000000 in
/-- Whether a name can be the next one after some. -/
theorem free_any (n : Nat) (sv : Value) (M : Nat → Nat → Bool) (t : Nat → Bool) (x : Nat) (hx : x < n) (hn : n ≤ 6) (w : World) :
    Calls Tryz.prog 121 #[.agg (tcells n sv M), .agg (ncells t), .int .i64 x] w fun e w' => e = .returned (.bool (free M n t x)) ∧ Ext w w' := by
  have hE := ((Ext.refl w).alloc (.cells (tcells n sv M) 93)).alloc (.cells (ncells t) 90)
  have nx := ncells_at t (i := x) (by omega)
  have t0 := tcells_0 n sv M
  cases hc : t x
  · rw [hc] at nx
    have Hc := Lib.hid hc; clear hc
    go_enter Tryz.func121, Tryz.ntmps121
    go_wp2
    go_loopg [14] n (fun g v wr => ∃ i : Nat, i + g = n ∧ v = .int .i64 i ∧ wr = ((w.alloc (.cells (tcells n sv M) 93)).alloc (.cells (ncells t) 90)) ∧ ∀ j, j < i → (!M j x || t j) = true)
    case atStart => exact ⟨0, by simp, rfl, rfl, fun j hj => absurd hj (by omega)⟩
    case round =>
      obtain ⟨i, hi, rfl, rfl, hall⟩ := hrel
      have Hall := Lib.hid hall; clear hall
      by_cases hlt : i < n
      · have t1 := tcells_at n sv M (i := i) (j := x) (by omega) (by omega)
        have t2 := ncells_at t (i := i) (by omega)
        cases h1 : M i x
        · rw [h1] at t1
          have H1 := Lib.hid h1; clear h1
          go_wp2
          go_roundg (gk - 1)
          case measure => omega
          case rel => exact ⟨i + 1, by omega, by go_num, rfl, fun j hj => by
            by_cases e : j = i
            · rw [e, H1.out]; rfl
            · exact Hall.out j (by omega)⟩
        · rw [h1] at t1
          have H1 := Lib.hid h1; clear h1
          cases h2 : t i
          · rw [h2] at t2
            have H2 := Lib.hid h2; clear h2
            go_wp2
            go_ret
            exact ⟨ret_bool (free_stop hlt H1.out H2.out).symm, hE⟩
          · rw [h2] at t2
            have H2 := Lib.hid h2; clear h2
            go_wp2
            go_roundg (gk - 1)
            case measure => omega
            case rel => exact ⟨i + 1, by omega, by go_num, rfl, fun j hj => by
              by_cases e : j = i
              · rw [e, H2.out]; simp
              · exact Hall.out j (by omega)⟩
      · go_wp2
        go_ret
        exact ⟨ret_bool (free_step Hall.out (by omega) Hc.out).symm, hE⟩
  · rw [hc] at nx
    go_enter Tryz.func121, Tryz.ntmps121
    go_wp2
    go_ret
    exact ⟨ret_bool (free_taken hc).symm, hE⟩

end Go.Proofs.YtiehfpkcaoeieaaGreatDoor
/- A map from some names to numbers: what was noted. No condition. -/
namespace Go.Proofs.YtiehfpkcaoeieaaGreatDoor
open Go.RowKit Go.My Go.StripM

def vec (t : Nat → Bool) : Value := .agg (ncells t)
def veq (t u : Nat → Bool) : Bool := t 0 == u 0 && (t 1 == u 1 && (t 2 == u 2 && (t 3 == u 3 && (t 4 == u 4 && t 5 == u 5))))
theorem veq_iff {t u : Nat → Bool} : veq t u = true ↔ ∀ i, i < 6 → t i = u i := by
  simp only [veq, Bool.and_eq_true, beq_iff_eq]
  constructor
  · rintro ⟨h0, h1, h2, h3, h4, h5⟩ i hi
    match i, hi with
    | 0, _ => exact h0
    | 1, _ => exact h1
    | 2, _ => exact h2
    | 3, _ => exact h3
    | 4, _ => exact h4
    | 5, _ => exact h5
  · intro h
    exact ⟨h 0 (by omega), h 1 (by omega), h 2 (by omega), h 3 (by omega), h 4 (by omega), h 5 (by omega)⟩
theorem vec_of_veq {t u : Nat → Bool} (h : veq t u = true) : vec t = vec u := by
  rw [veq_iff] at h
  simp only [vec, ncells, h 0 (by omega), h 1 (by omega), h 2 (by omega), h 3 (by omega), h 4 (by omega), h 5 (by omega)]
theorem vec_inj {t u : Nat → Bool} (h : vec t = vec u) : ∀ i, i < 6 → t i = u i := by
  intro i hi
  have h1 : ncells t = ncells u := by simpa [vec] using h
  have h2 : (ncells t)[i]? = (ncells u)[i]? := by rw [h1]
  rw [ncells_at t hi, ncells_at u hi] at h2
  simpa using h2

theorem veq_refl (t : Nat → Bool) : veq t t = true := veq_iff.2 fun _ _ => rfl

theorem equal_bools (a0 a1 a2 a3 a4 a5 b0 b1 b2 b3 b4 b5 : Bool) (w : World) :
    (Op.equal 90 (.agg #[.bool a0, .bool a1, .bool a2, .bool a3, .bool a4, .bool a5]) (.agg #[.bool b0, .bool b1, .bool b2, .bool b3, .bool b4, .bool b5])).run Tryz.prog w
      = .ok (a0 == b0 && (a1 == b1 && (a2 == b2 && (a3 == b3 && (a4 == b4 && a5 == b5))))) w := by
  cases a0 <;> cases b0 <;> first | (show _ = Result.ok (true == false && _) w; kernel_rfl) | skip
  all_goals cases a1 <;> cases b1 <;> first | (show _ = Result.ok (_ && (true == false && _)) w; kernel_rfl) | skip
  all_goals cases a2 <;> cases b2 <;> first | (show _ = Result.ok (_ && (_ && (true == false && _))) w; kernel_rfl) | skip
  all_goals cases a3 <;> cases b3 <;> first | (show _ = Result.ok (_ && (_ && (_ && (true == false && _)))) w; kernel_rfl) | skip
  all_goals cases a4 <;> cases b4 <;> first | (show _ = Result.ok (_ && (_ && (_ && (_ && (true == false && _))))) w; kernel_rfl) | skip
  all_goals cases a5 <;> cases b5 <;> kernel_rfl
theorem equal_vec (t u : Nat → Bool) (w : World) : (Op.equal 90 (vec t) (vec u)).run Tryz.prog w = .ok (veq t u) w := equal_bools _ _ _ _ _ _ _ _ _ _ _ _ w
theorem check_bools (b a0 a1 a2 a3 a4 a5 : Bool) (w : World) : (Instr.checkKey b 10000 90 (.agg #[.bool a0, .bool a1, .bool a2, .bool a3, .bool a4, .bool a5])).run Tryz.prog w = .ok () w := by kernel_rfl
theorem check_vec (b : Bool) (t : Nat → Bool) (w : World) : (Instr.checkKey b 10000 90 (vec t)).run Tryz.prog w = .ok () w := check_bools _ _ _ _ _ _ _ w
theorem same_vec' (t : Nat → Bool) (n : Nat) : Instr.sameBits (n + 2) (vec t) (vec t) = true := by
  simp [vec, ncells, Instr.sameBits]
theorem same_vec (t : Nat → Bool) : ∀ n, 2 ≤ n → Instr.sameBits n (vec t) (vec t) = true := by
  intro n hn
  obtain ⟨m, rfl⟩ : ∃ m, n = m + 2 := ⟨n - 2, by omega⟩
  exact same_vec' t m
theorem stays_vec (t : Nat → Bool) (w : World) : (Instr.keyThatStays (vec t) (vec t)).run Tryz.prog w = .ok (vec t) w := by
  have h := same_vec t 10000 (by decide)
  simp [Instr.keyThatStays, h]

theorem find_vec (t : Nat → Bool) (w : World) : ∀ (es : List MapEntry) (i : Nat), (∀ e ∈ es, ∃ u, e.key = vec u) →
    (∃ j e, es[j]? = some e ∧ e.key = vec t ∧ (Instr.findAsking 90 (vec t) es i).run Tryz.prog w = .ok (some (i + j, e.val)) w) ∨ ((∀ e ∈ es, e.key ≠ vec t) ∧ (Instr.findAsking 90 (vec t) es i).run Tryz.prog w = .ok none w) := by
  intro es
  induction es with
  | nil => intro i _; exact .inr ⟨by simp, rfl⟩
  | cons e es ih =>
    intro i hk
    obtain ⟨u, hu⟩ := hk e (by simp)
    have hr : (Instr.findAsking 90 (vec t) (e :: es) i).run Tryz.prog w = (if veq t u = true then .ok (some (i, e.val)) w else (Instr.findAsking 90 (vec t) es (i + 1)).run Tryz.prog w) := by
      simp only [Instr.findAsking, Sem.run_bind, hu, equal_vec, Result.andThen]
      split <;> rfl
    rw [hr]
    by_cases hv : veq t u = true
    · rw [if_pos hv]
      exact .inl ⟨0, e, rfl, by rw [hu, vec_of_veq hv], rfl⟩
    · rw [if_neg hv]
      rcases ih (i + 1) (fun e he => hk e (by simp [he])) with ⟨j, e', h1, h2, h3⟩ | h
      · exact .inl ⟨j + 1, e', by simpa using h1, h2, by rw [h3, show i + 1 + j = i + (j + 1) by omega]⟩
      · refine .inr ⟨fun e' he' => ?_, h.2⟩
        rcases List.mem_cons.1 he' with rfl | he'
        · rw [hu]
          intro e2
          exact hv (veq_iff.2 fun i hi => (vec_inj e2 i hi).symm)
        · exact h.1 e' he'

theorem findKey_eq (t : Nat → Bool) (w : World) (es : List MapEntry) (hk : ∀ e ∈ es, ∃ u, e.key = vec u) :
    (∃ j e, es[j]? = some e ∧ e.key = vec t ∧ (Instr.findKey 90 (vec t) es).run Tryz.prog w = .ok (some (j, e.val)) w) ∨ ((∀ e ∈ es, e.key ≠ vec t) ∧ (Instr.findKey 90 (vec t) es).run Tryz.prog w = .ok none w) := by
  cases es with
  | nil => exact .inr (by simp [Instr.findKey, run_underlying Tryz.underlying90, Instr.findNow, Result.andThen])
  | cons e es =>
    have : (Instr.findKey 90 (vec t) (e :: es)).run Tryz.prog w = (Instr.findAsking 90 (vec t) (e :: es) 0).run Tryz.prog w := by
      simp [Instr.findKey, run_underlying Tryz.underlying90, Instr.findNow, Instr.sameNow, Result.andThen]
    rw [this]
    rcases find_vec t w (e :: es) 0 hk with ⟨j, e', h1, h2, h3⟩ | h
    · exact .inl ⟨j, e', h1, h2, by rw [h3, Nat.zero_add]⟩
    · exact .inr h

/-- The map in block b notes f's numbers. -/
def Memo (w : World) (b : Nat) (f : (Nat → Bool) → Nat) : Prop := ∃ es clock, w.heap[b]? = some (.map es clock) ∧ ∀ e ∈ es.toList, ∃ t, e.key = vec t ∧ e.val = .int .i64 (f t : Nat)
def Noted (w : World) (b : Nat) (t : Nat → Bool) : Prop := ∃ es clock, w.heap[b]? = some (.map es clock) ∧ ∃ e ∈ es.toList, e.key = vec t

theorem getObj_map {w : World} {b : Nat} {es : Array MapEntry} {clock : Nat} (hb : w.heap[b]? = some (.map es clock)) : (getObj b).run Tryz.prog w = .ok (.map es clock) w := MapKept.run_getObj_map hb

theorem look_memo {w : World} {b : Nat} {f : (Nat → Bool) → Nat} (h : Memo w b f) (hf : ∀ t u, (∀ i, i < 6 → t i = u i) → f t = f u) (t : Nat → Bool) (c : Bool) :
    ∃ (v : Int) (ok : Bool), (Instr.lookup 131 (.map (some b)) (vec t) c).run Tryz.prog w = .ok (if c then .tuple #[.int .i64 v, .bool ok] else .int .i64 v) w ∧ (ok = true → v = (f t : Nat)) ∧ (Noted w b t → ok = true) := by
  obtain ⟨es, clock, hb, he⟩ := h
  have hz : (zeroValue 3).run Tryz.prog w = .ok (.int .i64 0) w := by kernel_rfl
  rcases findKey_eq t w es.toList (fun e hm => by obtain ⟨u, hu, _⟩ := he e hm; exact ⟨u, hu⟩) with ⟨j, e, h1, h2, h3⟩ | ⟨hno, h3⟩
  · have hm : e ∈ es.toList := List.mem_of_getElem? h1
    obtain ⟨u, hu, hv⟩ := he e hm
    refine ⟨(f u : Nat), true, ?_, fun _ => by rw [hf u t (vec_inj (hu.symm.trans h2))], fun _ => rfl⟩
    simp [Instr.lookup, run_underlying Tryz.underlying131, MapKept.run_getObj_map hb, check_vec, h3, hv, Result.andThen]
  · refine ⟨0, false, ?_, fun h => by simp at h, ?_⟩
    · simp [Instr.lookup, run_underlying Tryz.underlying131, MapKept.run_getObj_map hb, check_vec, h3, hz, Result.andThen]
    · rintro ⟨es', clock', hb', e, hm, hk⟩
      rw [hb] at hb'
      simp only [Option.some.injEq, Obj.map.injEq] at hb'
      obtain ⟨rfl, rfl⟩ := hb'
      exact absurd hk (hno e hm)

open Go.ChangeMaps in
theorem note_memo {w : World} {b : Nat} {f : (Nat → Bool) → Nat} (h : Memo w b f) (t : Nat → Bool) :
    ∃ w', (Instr.mapUpdate 131 (.map (some b)) (vec t) (.int .i64 (f t : Nat))).run Tryz.prog w = .ok () w' ∧ Memo w' b f ∧ Noted w' b t ∧ w.grownBy w' (some b) ∧ w'.heap.size = w.heap.size := by
  obtain ⟨es, clock, hb, he⟩ := h
  have hg : ∀ (es' : Array MapEntry) (clock' : Nat), w.grownBy (setBlock w b (.map es' clock')) (some b) ∧ (setBlock w b (.map es' clock')).heap.size = w.heap.size := fun es' clock' =>
    ⟨⟨rfl, rfl, rfl, by simp [setBlock], fun k _ hk => ChangeMaps.heap_setBlock_other hb _ (fun e => hk (by rw [e]))⟩, by simp [setBlock]⟩
  rcases findKey_eq t w es.toList (fun e hm => by obtain ⟨u, hu, _⟩ := he e hm; exact ⟨u, hu⟩) with ⟨j, e, h1, h2, h3⟩ | ⟨hno, h3⟩
  · have hj : es[j]? = some e := by simpa using h1
    have hlist : (es.modify j (fun e' => { e' with key := vec t, val := .int .i64 (f t : Nat) })).toList = es.toList.set j { e with key := vec t, val := .int .i64 (f t : Nat) } := by rw [Array.toList_modify, ChangeMaps.modify_eq_set _ _ _ _ h1]
    have hjl : j < es.toList.length := (List.getElem?_eq_some_iff.1 h1).1
    refine ⟨setBlock w b (.map (es.modify j (fun e' => { e' with key := vec t, val := .int .i64 (f t : Nat) })) clock), ?_, ⟨_, _, heap_setBlock_same hb _, ?_⟩, ⟨_, _, heap_setBlock_same hb _, ⟨{ e with key := vec t, val := .int .i64 (f t : Nat) }, ?_, rfl⟩⟩, hg _ _⟩
    · simp [Instr.mapUpdate, run_underlying Tryz.underlying131, MapKept.run_getObj_map hb, check_vec, h3, hj, h2, stays_vec, MapKept.run_setObj_map _ hb, Result.andThen, setBlock]
    · intro x hx
      rw [hlist] at hx
      rcases List.mem_or_eq_of_mem_set hx with hx | rfl
      · exact he x hx
      · exact ⟨t, rfl, rfl⟩
    · rw [hlist]
      exact List.mem_of_getElem? (i := j) (by rw [List.getElem?_set_self hjl])
  · refine ⟨setBlock w b (.map (es.push ⟨vec t, .int .i64 (f t : Nat), clock⟩) (clock + 1)), ?_, ⟨_, _, heap_setBlock_same hb _, ?_⟩, ⟨_, _, heap_setBlock_same hb _, ⟨⟨vec t, .int .i64 (f t : Nat), clock⟩, by simp, rfl⟩⟩, hg _ _⟩
    · simp [Instr.mapUpdate, run_underlying Tryz.underlying131, MapKept.run_getObj_map hb, check_vec, h3, MapKept.run_setObj_map _ hb, Result.andThen, setBlock]
    · intro x hx
      simp only [Array.toList_push, List.mem_append, List.mem_singleton] at hx
      rcases hx with hx | rfl
      · exact he x hx
      · exact ⟨t, rfl, rfl⟩

section
variable {ops : Array Oper} {rest : List Oper} {o : Oper} {a : Act} {w : World} {Q : Exit → Act → World → Prop}
theorem at_lookup131 (m x : Operand) (c : Bool) (_ho : o.op = .lookup 131 m x c) (h : wpList Tryz.prog ops Q (o :: rest) a w) : wpList Tryz.prog ops Q (o :: rest) a w := h
theorem at_update131 (m x y : Operand) (_ho : o.op = .mapUpdate 131 m x y) (h : wpList Tryz.prog ops Q (o :: rest) a w) : wpList Tryz.prog ops Q (o :: rest) a w := h
theorem wpList_lookup131 (hgd : o.guard = none) (m x : Operand) (ho : o.op = .lookup 131 m x true) (b : Nat) (hm : a.eval m = .map (some b)) (t : Nat → Bool) (hx : a.eval x = vec t) (f : (Nat → Bool) → Nat)
    (hM : Memo w b f) (hf : ∀ t u, (∀ i, i < 6 → t i = u i) → f t = f u) (h : ∀ (v : Int) (ok : Bool), (ok = true → v = (f t : Nat)) → wpList Tryz.prog ops Q rest (a.put o.dst (.tuple #[.int .i64 v, .bool ok])) w) :
    wpList Tryz.prog ops Q (o :: rest) a w :=
  wpList_plain hgd fun K hK => by
    obtain ⟨v, ok, h1, h2, _⟩ := look_memo hM hf t true
    unfold Oper.wp
    simp [execOp, ho, hm, hx, h1, Result.andThen]
    exact hK _ _ (h v ok h2)
theorem wpList_lookup131' (hgd : o.guard = none) (m x : Operand) (ho : o.op = .lookup 131 m x false) (b : Nat) (hm : a.eval m = .map (some b)) (t : Nat → Bool) (hx : a.eval x = vec t) (f : (Nat → Bool) → Nat)
    (hM : Memo w b f) (hf : ∀ t u, (∀ i, i < 6 → t i = u i) → f t = f u) (hN : Noted w b t) (h : wpList Tryz.prog ops Q rest (a.put o.dst (.int .i64 (f t : Nat))) w) :
    wpList Tryz.prog ops Q (o :: rest) a w :=
  wpList_plain hgd fun K hK => by
    obtain ⟨v, ok, h1, h2, h3⟩ := look_memo hM hf t false
    unfold Oper.wp
    simp [execOp, ho, hm, hx, h1, Result.andThen]
    rw [h2 (h3 hN)]
    exact hK _ _ h
theorem wpList_update131 (hgd : o.guard = none) (m x y : Operand) (ho : o.op = .mapUpdate 131 m x y) (b : Nat) (hm : a.eval m = .map (some b)) (t : Nat → Bool) (hx : a.eval x = vec t) (f : (Nat → Bool) → Nat) (hy : a.eval y = .int .i64 (f t : Nat))
    (hM : Memo w b f) (h : ∀ w', Memo w' b f → Noted w' b t → w.grownBy w' (some b) → w'.heap.size = w.heap.size → wpList Tryz.prog ops Q rest (a.put o.dst undef) w') :
    wpList Tryz.prog ops Q (o :: rest) a w :=
  wpList_plain hgd fun K hK => by
    obtain ⟨w', h1, h2, h3, h4, h5⟩ := note_memo hM t
    unfold Oper.wp
    simp [execOp, ho, hm, hx, hy, h1, Result.andThen]
    exact hK _ _ (h w' h2 h3 h4 h5)
end

end Go.Proofs.YtiehfpkcaoeieaaGreatDoor
