/- Contracts and mathematics, joined: Ways, Count, Clone, With, OrErr, Chain. Conditions stand with each. -/
import Derived.Test.YtiehfpkcaoeieaaGreatDoorM4
import Derived.Test.YtiehfpkcaoeieaaGreatDoorM3
set_option linter.unusedVariables false
set_option linter.unusedSimpArgs false
/- Contract: ways: how many orders there are after some names, which is noted. No condition beyond small tables. -/
namespace Go.Proofs.YtiehfpkcaoeieaaGreatDoor
open Go.RowKit Go.My Go.StripM

abbrev Turned (b : Nat) (w w' : World) : Prop := w.grownBy w' (some b)
theorem Turned.refl (b : Nat) (w : World) : Turned b w w := ⟨rfl, rfl, rfl, Nat.le_refl _, fun _ _ _ => rfl⟩
theorem Turned.trans {b : Nat} {w w1 w2 : World} (h : Turned b w w1) (k : Turned b w1 w2) : Turned b w w2 :=
  ⟨k.os.trans h.os, k.tape.trans h.tape, k.output.trans h.output, Nat.le_trans h.size k.size, fun i hi hne => (k.block i (Nat.lt_of_lt_of_le hi h.size) hne).trans (h.block i hi hne)⟩
theorem Turned.of_ext {b : Nat} {w w' : World} (h : Ext w w') : Turned b w w' := ⟨h.os, h.tape, h.output, h.size, fun i hi _ => h.block i hi⟩
theorem Turned.keep {b i : Nat} {w w' : World} {o : Obj} (h : Turned b w w') (hb : w.heap[i]? = some o) (hne : i ≠ b) : w'.heap[i]? = some o :=
  (h.block i (Array.getElem?_eq_some_iff.1 hb).1 (by simpa using hne)).trans hb
/-- One's own new block is altered: nothing old is. -/
theorem Turned.own {b i : Nat} {w w1 w2 : World} (h : Turned b w w1) (k : w1.grownBy w2 (some i)) (hi : w.heap.size ≤ i) : Turned b w w2 :=
  ⟨k.os.trans h.os, k.tape.trans h.tape, k.output.trans h.output, Nat.le_trans h.size k.size, fun j hj hne => (k.block j (Nat.lt_of_lt_of_le hj h.size) (by simp; omega)).trans (h.block j hj hne)⟩
theorem Turned.below {b B : Nat} {w w1 w2 : World} (h : Turned b w w1) (k : Below B w1 w2) (hB : w.heap.size ≤ B) : Turned b w w2 :=
  ⟨k.os.trans h.os, k.tape.trans h.tape, k.output.trans h.output, Nat.le_trans h.size k.size, fun j hj hne => (k.block j (by omega)).trans (h.block j hj hne)⟩
theorem _root_.Go.My.Own.turned {w w' : World} {base b : Nat} {e : TypeId} {v : Value} {xs : List Value} (h : Own w base e v xs) (hT : Turned b w w') (hb : b < base) : Own w' base e v xs := by
  refine ⟨h.1, ?_⟩
  rcases h.2 with h2 | ⟨g, cap, cur, hv, hg0, hg, r⟩
  · exact .inl h2
  · exact .inr ⟨g, cap, cur, hv, hg0, hT.keep hg (by omega), r⟩

theorem Memo.keep {w w' : World} {b : Nat} {f : (Nat → Bool) → Nat} (h : Memo w b f) (hs : w'.heap[b]? = w.heap[b]?) : Memo w' b f := by
  obtain ⟨es, clock, hb, he⟩ := h
  exact ⟨es, clock, hs.trans hb, he⟩
theorem Memo.lt {w : World} {b : Nat} {f : (Nat → Bool) → Nat} (h : Memo w b f) : b < w.heap.size := by
  obtain ⟨es, clock, hb, _⟩ := h
  exact (Array.getElem?_eq_some_iff.1 hb).1
theorem Memo.ext {w w' : World} {b : Nat} {f : (Nat → Bool) → Nat} (h : Memo w b f) (hE : Ext w w') : Memo w' b f := h.keep (hE.block b h.lt)
theorem Memo.grown {w w' : World} {b i : Nat} {f : (Nat → Bool) → Nat} (h : Memo w b f) (hE : w.grownBy w' (some i)) (hne : b ≠ i) : Memo w' b f := h.keep (hE.block b h.lt (by simpa using hne))

theorem alloc90 (w : World) : (Instr.alloc 90 true (.tuple #[])).run Tryz.prog w = .ok (.pointer (some ⟨w.heap.size, 0, none⟩)) (w.alloc (.cells (ncells fun _ => false) 90)) := by kernel_rfl

section
variable {ops : Array Oper} {rest : List Oper} {o : Oper} {a : Act} {w : World} {Q : Exit → Act → World → Prop}
theorem wpList_alloc90 (hgd : o.guard = none) (ho : o.op = .alloc 90) (h : wpList Tryz.prog ops Q rest (a.put o.dst (.pointer (some ⟨w.heap.size, 0, none⟩))) (w.alloc (.cells (ncells fun _ => false) 90))) : wpList Tryz.prog ops Q (o :: rest) a w :=
  wpList_plain hgd fun K hK => by
    unfold Oper.wp
    rw [show execOp a.eval o = (do pure (.value (← Instr.alloc 90 true (.tuple #[])))) by unfold execOp; rw [ho]]
    rw [Sem.run_bind, alloc90]
    exact hK _ _ h
theorem at_store90 (p x : Operand) (_ho : o.op = .store 90 p x) (h : wpList Tryz.prog ops Q (o :: rest) a w) : wpList Tryz.prog ops Q (o :: rest) a w := h
theorem wpList_store90 (hgd : o.guard = none) (p x : Operand) (ho : o.op = .store 90 p x) (b : Nat) (hp : a.eval p = .pointer (some ⟨b, 0, none⟩)) (t : Nat → Bool)
    (hx : a.eval x = .agg (ncells t)) (c : Array Value) (hb : w.heap[b]? = some (.cells c 90 (0, 0))) (hc : c.size = 6)
    (h : ∀ w', w'.heap[b]? = some (.cells (ncells t) 90 (0, 0)) → w.grownBy w' (some b) → w'.heap.size = w.heap.size → wpList Tryz.prog ops Q rest (a.put o.dst undef) w') : wpList Tryz.prog ops Q (o :: rest) a w :=
  wpList_plain hgd fun K hK => by
    unfold Oper.wp
    rw [show execOp a.eval o = (do Instr.storeAt 90 (.pointer (some ⟨b, 0, none⟩)) (.agg (ncells t)); pure .skip) by unfold execOp; rw [ho, ← hx, ← hp]]
    have hr : (Instr.storeAt 90 (.pointer (some ⟨b, 0, none⟩)) (.agg (ncells t))).run Tryz.prog w = .ok () (w.setRow b (ncells t)) := by
      simp only [Instr.storeAt, Instr.sureAddr, Sem.run_bind, Sem.run_pure, Result.andThen]
      exact run_storeVar_row _ _ _ _ c (ncells t) hb (by rw [ncells_size]; exact i90) (by rw [hc, ncells_size]) (ncells_one t)
    rw [Sem.run_bind, hr]
    exact hK _ _ (h _ (setRow_heap w b c _ 90 _ hb) ⟨rfl, rfl, rfl, by simp, fun k _ hne => setRow_other w b k _ (fun e => hne (by rw [e]))⟩ (by simp))
theorem at_load90 (p : Operand) (_ho : o.op = .load 90 p) (h : wpList Tryz.prog ops Q (o :: rest) a w) : wpList Tryz.prog ops Q (o :: rest) a w := h
theorem wpList_load90 (hgd : o.guard = none) (p : Operand) (ho : o.op = .load 90 p) (b : Nat) (t : Nat → Bool) (hp : a.eval p = .pointer (some ⟨b, 0, none⟩))
    (hb : w.heap[b]? = some (.cells (ncells t) 90 (0, 0))) (h : wpList Tryz.prog ops Q rest (a.put o.dst (.agg (ncells t))) w) : wpList Tryz.prog ops Q (o :: rest) a w :=
  wpList_load_row hgd 90 p ho b hp 90 _ _ _ hb Tryz.underlying90 rfl (by rw [ncells_size]; exact i90) h
end

theorem run_load90 {o : Oper} {a : Act} {w : World} (p : Operand) (ho : o.op = .load 90 p) (b : Nat) (t : Nat → Bool) (hp : a.eval p = .pointer (some ⟨b, 0, none⟩)) (hb : w.heap[b]? = some (.cells (ncells t) 90 (0, 0))) :
    (execOp a.eval o).run Tryz.prog w = .ok (.value (.agg (ncells t))) w := by
  unfold execOp
  simp only [ho, hp, Instr.loadAt, Instr.sureAddr, Sem.run_bind, Sem.run_pure, Result.andThen_ok, run_loadVar_row w b 90 90 _ _ _ hb Tryz.underlying90 rfl (by rw [ncells_size]; exact i90)]
theorem run_load93 {o : Oper} {a : Act} {w : World} (p : Operand) (ho : o.op = .load 93 p) (b : Nat) (n : Int) (sv : Value) (M : Nat → Nat → Bool) (hp : a.eval p = .pointer (some ⟨b, 0, none⟩)) (hb : w.heap[b]? = some (.cells (tcells n sv M) 93 (0, 0))) :
    (execOp a.eval o).run Tryz.prog w = .ok (.value (.agg (tcells n sv M))) w := by
  unfold execOp
  simp only [ho, hp, Instr.loadAt, Instr.sureAddr, Sem.run_bind, Sem.run_pure, Result.andThen_ok, run_loadVar_row w b 93 93 _ _ _ hb Tryz.underlying93 rfl (by rw [tcells_size]; exact i93)]

/-- A name more is taken: the cell of it is set. -/
theorem set_name {w : World} {b : Nat} {t : Nat → Bool} {x : Nat} (hx : x < 6) (hb : w.heap[b]? = some (.cells (ncells t) 90 (0, 0))) :
    (w.setCell ⟨b, x, none⟩ (.bool true)).heap[b]? = some (.cells (ncells (upd t x)) 90 (0, 0)) ∧ w.grownBy (w.setCell ⟨b, x, none⟩ (.bool true)) (some b) :=
  ⟨by rw [heap_setCell_same _ _ _ _ _ _ hb, ncells_set t hx], ⟨rfl, rfl, rfl, by simp [World.setCell], fun k hk hne => Below.heap_setCell _ _ _ _ (fun e => hne (by simp at e; rw [e]))⟩⟩

/-- The memory of a call of ways. -/
structure WS (w wr : World) (b : Nat) (n : Int) (sv : Value) (M : Nat → Nat → Bool) (t : Nat → Bool) (f : (Nat → Bool) → Nat) : Prop where
  turned : Turned b w wr
  size : w.heap.size + 2 ≤ wr.heap.size
  tab : wr.heap[w.heap.size]? = some (.cells (tcells n sv M) 93 (0, 0))
  nam : wr.heap[w.heap.size + 1]? = some (.cells (ncells t) 90 (0, 0))
  memo : Memo wr b f
  lt : b < w.heap.size

theorem WS.start {w : World} {b : Nat} {n : Int} {sv : Value} {M : Nat → Nat → Bool} {t : Nat → Bool} {f : (Nat → Bool) → Nat} (hm : Memo w b f) :
    WS w ((w.alloc (.cells (tcells n sv M) 93)).alloc (.cells (ncells t) 90)) b n sv M t f := by
  refine ⟨.of_ext (((Ext.refl w).alloc _).alloc _), by simp, ?_, ?_, hm.ext (((Ext.refl w).alloc _).alloc _), hm.lt⟩
  · rw [Below.heap_alloc _ _ _ (by simp)]
    exact heap_alloc_new w _
  · have := heap_alloc_new (w.alloc (.cells (tcells n sv M) 93)) (.cells (ncells t) 90)
    simpa only [World.size_alloc] using this
theorem WS.turn {w w1 w2 : World} {b : Nat} {n : Int} {sv : Value} {M : Nat → Nat → Bool} {t : Nat → Bool} {f : (Nat → Bool) → Nat} (h : WS w w1 b n sv M t f) (k : Turned b w1 w2) (hm : Memo w2 b f) : WS w w2 b n sv M t f :=
  ⟨h.turned.trans k, Nat.le_trans h.size k.size, k.keep h.tab (by have := h.lt; omega), k.keep h.nam (by have := h.lt; omega), hm, h.lt⟩
theorem WS.ext {w w1 w2 : World} {b : Nat} {n : Int} {sv : Value} {M : Nat → Nat → Bool} {t : Nat → Bool} {f : (Nat → Bool) → Nat} (h : WS w w1 b n sv M t f) (k : Ext w1 w2) : WS w w2 b n sv M t f :=
  h.turn (.of_ext k) (h.memo.ext k)
theorem WS.below {w w1 w2 : World} {b B : Nat} {n : Int} {sv : Value} {M : Nat → Nat → Bool} {t : Nat → Bool} {f : (Nat → Bool) → Nat} (h : WS w w1 b n sv M t f) (k : Below B w1 w2) (hB : w.heap.size + 2 ≤ B) : WS w w2 b n sv M t f :=
  ⟨h.turned.below k (by omega), Nat.le_trans h.size k.size, (k.block _ (by omega)).trans h.tab, (k.block _ (by omega)).trans h.nam, h.memo.keep (k.block _ (by have := h.lt; omega)), h.lt⟩
theorem WS.grown {w w1 w2 : World} {b i : Nat} {n : Int} {sv : Value} {M : Nat → Nat → Bool} {t : Nat → Bool} {f : (Nat → Bool) → Nat} (h : WS w w1 b n sv M t f) (k : w1.grownBy w2 (some i)) (hB : w.heap.size + 2 ≤ i) : WS w w2 b n sv M t f :=
  ⟨h.turned.own k (by omega), Nat.le_trans h.size k.size, (k.block _ (by have := h.size; omega) (by simp; omega)).trans h.tab, (k.block _ (by have := h.size; omega) (by simp; omega)).trans h.nam, h.memo.grown k (by have := h.lt; omega), h.lt⟩

theorem WS.next {w w1 w2 : World} {b : Nat} {n : Int} {sv : Value} {M : Nat → Nat → Bool} {t : Nat → Bool} {f : (Nat → Bool) → Nat} {o : Obj} (h : WS w w1 b n sv M t f) {x : Nat} (hx : x < 6)
    (hT : w2.heap[w1.heap.size]? = some (.cells (ncells t) 90 (0, 0))) (hg : (w1.alloc o).grownBy w2 (some w1.heap.size)) :
    WS w (w2.setCell ⟨w1.heap.size, x, none⟩ (.bool true)) b n sv M t f ∧ Turned b w1 (w2.setCell ⟨w1.heap.size, x, none⟩ (.bool true)) ∧
      (w2.setCell ⟨w1.heap.size, x, none⟩ (.bool true)).heap[w1.heap.size]? = some (.cells (ncells (upd t x)) 90 (0, 0)) ∧ w2.cell? ⟨w1.heap.size, x, none⟩ = some (.bool (t x)) ∧ w2.frozen? ⟨w1.heap.size, x, none⟩ = false := by
  obtain ⟨h1, h2⟩ := set_name hx hT
  refine ⟨((h.ext ((Ext.refl w1).alloc o)).grown hg h.size).grown h2 h.size, ((Turned.of_ext (b := b) ((Ext.refl w1).alloc o)).own hg (Nat.le_refl _)).own h2 (Nat.le_refl _), h1, ?_, frozen_of_row _ _ x _ _ hT⟩
  rw [cell_of_row _ _ x _ _ _ hT, ncells_at t hx]

theorem i27' : (Tryz.prog.info? 27).map (fun i => (i.zero, i.size, i.bytes)) = some (some (.slice none 0 0), 1, 24) := i27

set_option maxRecDepth 100000 in
set_option maxHeartbeats 4000000 in
theorem ways_any (n : Nat) (sv : Value) (M : Nat → Nat → Bool) (hn : n ≤ 6) : ∀ (k : Nat) (t : Nat → Bool) (b : Nat) (w : World), card n t + k = n → Memo w b (after M n) →
    Calls Tryz.prog 123 #[.agg (tcells n sv M), .agg (ncells t), .int .i64 k, .map (some b)] w fun e w' => e = .returned (.int .i64 (StripM.ways M n k t : Nat)) ∧ Memo w' b (after M n) ∧ Turned b w w' := by
  intro k
  induction k with
  | zero =>
    intro t b w _ hm
    go_enter Tryz.func123, Tryz.ntmps123
    go_wp2
    go_ret
    exact ⟨rfl, hm.ext (((Ext.refl w).alloc _).alloc _), .of_ext (((Ext.refl w).alloc _).alloc _)⟩
  | succ k ih =>
    intro t b w hc hm
    have Ih := Lib.hid ih; clear ih
    have ws := WS.start (n := n) (sv := sv) (M := M) (t := t) hm
    have hf : StripM.ways M n (k + 1) t = after M n t := by unfold after; rw [show n - card n t = k + 1 by omega]
    have hk0 : ¬ ((k : Int) + 1 = 0) := by omega
    have Ws := Lib.hid ws; clear ws
    have Hf := Lib.hid hf; clear hf
    clear hm
    have t0 := tcells_0 n sv M
    have hfc := Lib.hid (after_congr (T := M) hn)
    go_enter Tryz.func123, Tryz.ntmps123
    go_wp2_with (first | ((with_reducible refine at_load90 _ rfl ?_); refine wpList_load90 rfl _ rfl (w.heap.size + 1) t ?_ Ws.out.nam ?_; (focus (go_simp; done))) | ((with_reducible refine at_lookup131 _ _ _ rfl ?_); refine wpList_lookup131 rfl _ _ rfl b ?_ t ?_ (after M n) Ws.out.memo hfc.out ?_; (focus (go_simp; done)); (focus (go_simp; exact rfl)); intro v ok hv; have Hv := Lib.hid hv; clear hv))
    · go_ret
      have hok := ‹ok = true›
      exact ⟨ret_int (by rw [Hv.out hok, Hf.out]), Ws.out.memo, Ws.out.turned⟩
    · clear Hv
      clear t0
      have hof := ‹ok = false›
      subst hof
      go_loopg [11, 27] n (fun g v i wr => ∃ x : Nat, x + g = n ∧ i = .int .i64 x ∧ WS w wr b n sv M t (after M n) ∧ Own wr (w.heap.size + 2) 3 v ((up (nextWays M n k t x)).map (Value.int .i64)))
      case atStart => exact ⟨0, by simp, rfl, Ws.out, Own.nil _ _ _⟩
      case round =>
        clear Ws
        obtain ⟨x, hx, rfl, ws, hown⟩ := hrel
        have Ws := Lib.hid ws; clear ws
        have Hown := Lib.hid hown; clear hown
        obtain ⟨wo, rfl⟩ : ∃ wo : World, wo = wr := ⟨_, rfl⟩
        by_cases hlt : x < n
        · have nw := nextWays_succ M n k t x
          cases hfree : free M n t x
          · rw [hfree] at nw
            go_wp2_with (first | ((with_reducible refine at_load93 _ rfl ?_); refine wpList_load93 rfl _ rfl w.heap.size ?_ n sv M Ws.out.tab ?_; (focus (go_simp; done))) | ((with_reducible refine at_load90 _ rfl ?_); refine wpList_load90 rfl _ rfl (w.heap.size + 1) t ?_ Ws.out.nam ?_; (focus (go_simp; done))) | (go_at_call 121; refine (free_any n sv M t x hlt hn _).mono ?_; rintro e w1 ⟨rfl, hE⟩))
            go_roundg (gk - 1)
            case measure => omega
            case rel => exact ⟨x + 1, by omega, by go_num, Ws.out.ext hE, by rw [nw, if_neg (by simp)]; exact Hown.out.ext hE⟩
          · rw [hfree, if_pos rfl] at nw
            have htx : t x = false := by
              cases h : t x
              · rfl
              · rw [free_taken h] at hfree; cases hfree
            have hcu : card n (upd t x) + k = n := by rw [card_upd hlt htx]; omega
            go_wp2_with (first | ((with_reducible refine at_load93 _ rfl ?_); refine wpList_load93 rfl _ rfl w.heap.size ?_ n sv M Ws.out.tab ?_; (focus (go_simp; done))) | ((with_reducible refine at_load90 _ rfl ?_); refine wpList_load90 rfl _ rfl (w.heap.size + 1) t ?_ Ws.out.nam ?_; (focus (go_simp; done))) | ((with_reducible refine at_load90 _ rfl ?_); refine wpList_load90 rfl _ rfl w1.heap.size (upd t x) ?_ hN ?_; (focus (go_simp; done))) | (go_at_call 121; refine (free_any n sv M t x hlt hn _).mono ?_; rintro e w1 ⟨rfl, hE⟩; have ws1 := Ws.out.ext hE; clear Ws; have Ws := Lib.hid ws1; clear ws1) | (with_reducible refine wpList_alloc90 rfl rfl ?_) | ((with_reducible refine at_store90 _ _ rfl ?_); refine wpList_store90 rfl _ _ rfl w1.heap.size ?_ t ?_ (ncells fun _ => false) (heap_alloc_new _ _) rfl ?_; (focus (go_simp; done)); (focus (go_simp; done)); intro w2 hT hg _; obtain ⟨ws3, htw, hN, cx, fx⟩ := Ws.out.next (x := x) (by omega) hT hg; clear Ws hT hg; have Hb := Lib.hid htw; have Ws := Lib.hid ws3; clear ws3 htw) | (go_at_call 123; refine (Ih.out (upd t x) b _ hcu Ws.out.memo).mono ?_; rintro e w4 ⟨rfl, hm4, hT4⟩; have ws4 := Ws.out.turn hT4 hm4; have Hw := Lib.hid (Hb.out.trans hT4); clear Ws hT4 hm4 hN cx fx; have Ws := Lib.hid ws4; clear ws4) | (at_builtin; refine wpList_app1 _ rfl _ _ 27 rfl 3 Tryz.underlying27 (.int .i64 0) 8 i3 rfl (by decide) (w.heap.size + 2) _ _ rfl (((Hown.out.ext hE).turned Hw.out (by have := Ws.out.lt; omega)).ext ((Ext.refl w4).alloc _)) w4.heap.size (.int .i64 (StripM.ways M n k (upd t x) : Nat)) rfl (by go_simp) rfl ?_ ?_ ?_))
            · have := nextWays_len M n k t x
              simp [up]; omega
            · have := Ws.out.size; simp; omega
            · intro v' w5 hown5 hBl _
              have Ho5 := Lib.hid hown5; clear hown5
              go_wp2
              go_roundg (gk - 1)
              case measure => omega
              case rel => exact ⟨x + 1, by omega, by go_num, (Ws.out.ext ((Ext.refl w4).alloc _)).below hBl (Nat.le_refl _), by rw [nw]; simpa [up] using Ho5.out⟩
        · have hxx : x = n := by omega
          have Hx := Lib.hid hxx; clear hxx
          go_wp2_with fail
          refine wp_region_plan (.take 0 <| .take 1 <| .take 2 <| .only 3 <| .only 4 <| .done) (fun W => Turned b wo W ∧ Memo W b (after M n)) mixed (by kernel_rfl) (by kernel_rfl) rfl (fun _ _ d _ _ h => by cases d <;> exact h) (⟨.of_ext (Ext.refl wo).drew, Ws.out.memo.ext (Ext.refl wo).drew⟩) ?_
          repeat (first | (refine plan_take (v := ?_) rfl rfl (fun W hW => ?_) ?_; rotate_left; (focus (skip; go_simp; first | exact rfl | (split <;> first | exact rfl | (exfalso; omega)) | done)); simp only [Act.put, List.setIfInBounds_toArray, List.set_cons_zero, List.set_cons_succ]) | (refine plan_skip rfl rfl ?_; simp only [Act.put, List.setIfInBounds_toArray, List.set_cons_zero, List.set_cons_succ]))
          refine plan_take (v := .agg (ncells t)) rfl rfl (fun W hW => run_load90 _ rfl (w.heap.size + 1) t rfl (Ws.out.turn hW.1 hW.2).nam) ?_
          simp only [Act.put, List.setIfInBounds_toArray, List.set_cons_zero, List.set_cons_succ]
          repeat (first | (refine plan_take (v := ?_) rfl rfl (fun W hW => ?_) ?_; rotate_left; (focus (skip; go_simp; first | exact rfl | (split <;> first | exact rfl | (exfalso; omega)) | done)); simp only [Act.put, List.setIfInBounds_toArray, List.set_cons_zero, List.set_cons_succ]) | (refine plan_skip rfl rfl ?_; simp only [Act.put, List.setIfInBounds_toArray, List.set_cons_zero, List.set_cons_succ]))
          have hsm := nextWays_small M (n := n) (k := k) hn (by omega) t (x := x) (by omega)
          have hln := nextWays_len M n k t x
          have hsum : (nextWays M n k t x).sum = after M n t := by rw [← Hf.out, Hx.out, nextWays_sum]; rfl
          have Hsum := Lib.hid hsum; clear hsum
          have Hsm := Lib.hid hsm; clear hsm
          have ho2 := (Hown.out.turned (.of_ext (Ext.refl wo).drew) (by have := Ws.out.lt; omega : b < w.heap.size + 2)).ints
          obtain ⟨oa, cap, rfl, h1, h2, h3, h4⟩ := ho2
          rw [up_length] at h1 ⊢
          have H4 := Lib.hid h4; clear h4
          refine plan_walk rfl ?_; intro K hK
          go_wp2_with (first | (go_at_call 136; refine (sum_any (nextWays M n k t x) oa cap _ H4.out (by omega) Hsm.out).mono ?_; rintro e w1 ⟨rfl, hE⟩))
          rw [Hsum.out]
          have hT1 : Turned b wo w1 := .of_ext ((Ext.refl wo).drew.trans hE)
          have hm1 : Memo w1 b (after M n) := Ws.out.memo.ext ((Ext.refl wo).drew.trans hE)
          have ws1 := Ws.out.turn hT1 hm1
          clear Ws
          have Ws := Lib.hid ws1; clear ws1
          refine hK _ _ ⟨hT1, hm1⟩ ?_
          refine plan_walk rfl ?_; intro K hK
          go_wp2_with (first | ((with_reducible refine at_update131 _ _ _ rfl ?_); refine wpList_update131 rfl _ _ _ rfl b ?_ t ?_ (after M n) ?_ hm1 ?_; (focus (go_simp; done)); (focus (go_simp; exact rfl)); (focus (go_simp; done)); intro w2 hm2 hN hg _))
          have ws2 := Ws.out.turn hg hm2
          clear Ws
          have Ws := Lib.hid ws2; clear ws2
          refine hK _ _ ⟨hT1.trans hg, hm2⟩ ?_
          refine plan_done ?_
          go_wp2_with (first | ((with_reducible refine at_load90 _ rfl ?_); refine wpList_load90 rfl _ rfl (w.heap.size + 1) t ?_ Ws.out.nam ?_; (focus (go_simp; done))) | ((with_reducible refine at_lookup131 _ _ _ rfl ?_); refine wpList_lookup131' rfl _ _ rfl b ?_ t ?_ (after M n) hm2 hfc.out hN ?_; (focus (go_simp; done)); (focus (go_simp; exact rfl))))
          go_ret
          exact ⟨ret_int (by rw [Hf.out]), Ws.out.memo, Ws.out.turned⟩

end Go.Proofs.YtiehfpkcaoeieaaGreatDoor
/- Contracts: count: how many orders no spot contradicts. No condition beyond boards as defined. -/
namespace Go.Proofs.YtiehfpkcaoeieaaGreatDoor
open Go.RowKit Go.My Go.StripM

theorem Turned.cell {b : Nat} {w w' : World} {p : Addr} {v : Value} (h : Turned b w w') (hne : p.block ≠ b) (hc : w.cell? p = some v) : w'.cell? p = some v := by
  have hl := World.block_lt_of_cell? _ _ hc
  exact (World.cell?_of_block (h.block p.block hl (by simpa using hne))).trans hc
theorem Turned.frozen {b : Nat} {w w' : World} {p : Addr} (h : Turned b w w') (hne : p.block ≠ b) (hl : p.block < w.heap.size) : w'.frozen? p = w.frozen? p := by
  unfold World.frozen?
  rw [h.block p.block hl (by simpa using hne)]
theorem Turned.set {b : Nat} {w w' : World} (h : Turned b w w') (o : Nat) (v : Value) : Turned b w (w'.setCell ⟨b, o, none⟩ v) :=
  h.trans ⟨rfl, rfl, rfl, by simp [World.setCell], fun k hk hne => Below.heap_setCell _ _ _ _ (fun e => hne (by simp at e; rw [e]))⟩
theorem ext_own {w w1 w2 : World} {b : Nat} (h1 : Ext w w1) (h2 : Turned b w1 w2) (hb : w.heap.size ≤ b) : Ext w w2 :=
  h1.below (B := w.heap.size) ((Below.refl _ _).grown h2 h1.size (fun k e => by simp at e; omega)) (Nat.le_refl _)
theorem frozen_ext {w w' : World} {p : Addr} (h : Ext w w') (hl : p.block < w.heap.size) : w'.frozen? p = w.frozen? p := h.frozen hl
theorem build90 (w : World) : (Instr.build 90 #[]).run Tryz.prog w = .ok (.agg (ncells fun _ => false)) w := by kernel_rfl
theorem makeMap131 (w : World) : (Instr.makeMap 131 none).run Tryz.prog w = .ok (.map (some w.heap.size)) (w.alloc (.map #[] 0)) := by kernel_rfl
theorem Memo.new (w : World) (f : (Nat → Bool) → Nat) : Memo (w.alloc (.map #[] 0)) w.heap.size f := ⟨#[], 0, heap_alloc_new w _, fun e he => by simp at he⟩
theorem card_none (n : Nat) : card n (fun _ => false) = 0 := by simp [card]

set_option maxRecDepth 100000 in
set_option maxHeartbeats 1000000 in
theorem count1_ok (n : Nat) (ss : List (List Nat)) (oa : Option Addr) (cap k q : Nat) (x : Value) (w : World) (hl : ss.length ≤ 1000) (hn : n ≤ 6) (hv : Valid n ss)
    (h0 : w.cell? ⟨k, 0, none⟩ = some (.int .i64 n)) (h1 : w.cell? ⟨k, 1, none⟩ = some (.slice oa ss.length cap)) (hq : w.cell? ⟨q, 0, none⟩ = some x) (hf : w.frozen? ⟨q, 0, none⟩ = false) (hkq : k ≠ q) (hc : cyc n ss = false)
    (hrows : ∀ W, Turned q w W → RowsAt W oa (upp ss)) :
    Calls Tryz.prog 122 #[.pointer (some ⟨k, 0, none⟩), .pointer (some ⟨q, 0, none⟩)] w fun e w' => (∃ v, e = .returned v) ∧ w'.cell? ⟨q, 0, none⟩ = some (.int .i64 (StripM.ways (tab n ss) n n fun _ => false : Nat)) ∧ Turned q w w' := by
  have H := Lib.hid hrows; clear hrows
  have Hv := Lib.hid hv; clear hv
  have Hc := Lib.hid hc; clear hc
  have hb90 := build90
  have hm131 := makeMap131
  have hql := World.block_lt_of_cell? _ _ hq
  go_enter Tryz.func122, Tryz.ntmps122
  refine wp_region_plan (.take 0 <| .take 2 <| .take 3 <| .take 4 <| .two 1 5 (.only 5 <| .only 6 <| .only 7 <| .done) (.only 1 <| .only 6 <| .only 7 <| .done)) (fun W => Turned q w W) mixed (by kernel_rfl) (by kernel_rfl) rfl (fun _ _ d _ _ h => by cases d <;> exact h) (.of_ext (Ext.refl w).drew) ?_
  repeat (first | (refine plan_take (v := ?_) rfl rfl (fun W hW => ?_) ?_; rotate_left; (focus (have dc0 := hW.cell (p := ⟨k, 0, none⟩) hkq h0; have dc1 := hW.cell (p := ⟨k, 1, none⟩) hkq h1; go_simp; first | exact rfl | (split <;> first | exact rfl | (exfalso; omega)) | done)); simp only [Act.put, List.setIfInBounds_toArray, List.set_cons_zero, List.set_cons_succ]) | (refine plan_skip rfl rfl ?_; simp only [Act.put, List.setIfInBounds_toArray, List.set_cons_zero, List.set_cons_succ]))
  have hE0 : Ext w w.drew := (Ext.refl w).drew
  refine plan_two rfl rfl ?_ ?_
  · intro K hK
    go_wp2_with (first | (go_at_call 76; refine (open_any n ss oa cap _ (H.out _ (.of_ext hE0)) hl hn Hv.out).mono ?_; rintro e w1 ⟨hE, he⟩; rw [if_neg (by rw [Hc.out]; simp)] at he; subst he))
    have hE1 : Ext w w1 := hE0.trans hE
    clear hE
    refine hK _ _ (.of_ext hE1) ?_
    refine plan_walk rfl ?_; intro K hK
    go_wp2
    refine hK _ _ (.of_ext (hE1.alloc _)) ?_
    refine plan_walk rfl ?_; intro K hK
    go_wp2_with (first | (go_at_call 123; refine (ways_any n _ (tab n ss) hn n (fun _ => false) w1.heap.size _ (by rw [card_none]; omega) (Memo.new w1 _)).mono ?_; rintro e w2 ⟨rfl, hm, hTw⟩))
    have hE3 : Ext w w2 := ext_own (hE1.alloc _) hTw hE1.size
    have cq := cell_ext hE3 hq
    have fq := (frozen_ext (p := ⟨q, 0, none⟩) hE3 hql).trans hf
    clear hTw
    refine hK _ _ (.of_ext hE3) ?_
    refine plan_walk rfl ?_; intro K hK
    go_wp2
    refine hK _ _ ((Turned.of_ext hE3).set 0 _) ?_
    refine plan_done ?_
    go_end0
    exact ⟨⟨_, rfl⟩, World.cell?_setCell_same' _ _ _ (by rw [cq]; rfl), (Turned.of_ext hE3).set 0 _⟩
  · intro K hK
    go_wp2
    have hE1 : Ext w (w.drew.alloc (.map #[] 0)) := hE0.alloc _
    refine hK _ _ (.of_ext hE1) ?_
    refine plan_walk rfl ?_; intro K hK
    go_wp2_with (first | (go_at_call 76; refine (open_any n ss oa cap _ (H.out _ (.of_ext hE1)) hl hn Hv.out).mono ?_; rintro e w1 ⟨hE, he⟩; rw [if_neg (by rw [Hc.out]; simp)] at he; subst he))
    refine hK _ _ (.of_ext (hE1.trans hE)) ?_
    refine plan_walk rfl ?_; intro K hK
    go_wp2_with (first | (go_at_call 123; refine (ways_any n _ (tab n ss) hn n (fun _ => false) w.drew.heap.size _ (by rw [card_none]; omega) ((Memo.new w.drew _).ext hE)).mono ?_; rintro e w2 ⟨rfl, hm, hTw⟩))
    have hE3 : Ext w w2 := ext_own (hE1.trans hE) hTw hE0.size
    have cq := cell_ext hE3 hq
    have fq := (frozen_ext (p := ⟨q, 0, none⟩) hE3 hql).trans hf
    clear hTw
    refine hK _ _ (.of_ext hE3) ?_
    refine plan_walk rfl ?_; intro K hK
    go_wp2
    refine hK _ _ ((Turned.of_ext hE3).set 0 _) ?_
    refine plan_done ?_
    go_end0
    exact ⟨⟨_, rfl⟩, World.cell?_setCell_same' _ _ _ (by rw [cq]; rfl), (Turned.of_ext hE3).set 0 _⟩

set_option maxRecDepth 100000 in
set_option maxHeartbeats 1000000 in
theorem count1_clash (n : Nat) (ss : List (List Nat)) (oa : Option Addr) (cap k q : Nat) (w : World) (h : RowsAt w oa (upp ss)) (hl : ss.length ≤ 1000) (hn : n ≤ 6) (hv : Valid n ss)
    (h0 : w.cell? ⟨k, 0, none⟩ = some (.int .i64 n)) (h1 : w.cell? ⟨k, 1, none⟩ = some (.slice oa ss.length cap)) (hc : cyc n ss = true) :
    Calls Tryz.prog 122 #[.pointer (some ⟨k, 0, none⟩), .pointer (some ⟨q, 0, none⟩)] w fun e w' => (∃ i : Int, e = .panicked [{ v := .iface 125 (.agg #[.int .i64 i]), recovered := false }]) ∧ Ext w w' := by
  have H := Lib.hid h; clear h
  have Hv := Lib.hid hv; clear hv
  have Hc := Lib.hid hc; clear hc
  have hb90 := build90
  have hm131 := makeMap131
  go_enter Tryz.func122, Tryz.ntmps122
  refine wp_region_plan (.take 0 <| .take 2 <| .take 3 <| .take 4 <| .two 1 5 (.only 5 <| .only 6 <| .only 7 <| .done) (.only 1 <| .only 6 <| .only 7 <| .done)) (fun W => Ext w W) mixed (by kernel_rfl) (by kernel_rfl) rfl (fun _ _ d _ _ h => by cases d <;> exact h) ((Ext.refl w).drew) ?_
  repeat (first | (refine plan_take (v := ?_) rfl rfl (fun W hW => ?_) ?_; rotate_left; (focus (have dc0 := cell_ext hW h0; have dc1 := cell_ext hW h1; go_simp; first | exact rfl | (split <;> first | exact rfl | (exfalso; omega)) | done)); simp only [Act.put, List.setIfInBounds_toArray, List.set_cons_zero, List.set_cons_succ]) | (refine plan_skip rfl rfl ?_; simp only [Act.put, List.setIfInBounds_toArray, List.set_cons_zero, List.set_cons_succ]))
  have hE0 : Ext w w.drew := (Ext.refl w).drew
  refine plan_two rfl rfl ?_ ?_
  · intro K hK
    go_wp2_with (first | (go_at_call 76; refine (open_any n ss oa cap _ (H.out.ext hE0) hl hn Hv.out).mono ?_; rintro e w1 ⟨hE, he⟩; rw [if_pos Hc.out] at he; obtain ⟨i, rfl⟩ := he))
    exact ⟨rfl, ⟨i, rfl⟩, hE0.trans hE⟩
  · intro K hK
    go_wp2
    have hE1 : Ext w (w.drew.alloc (.map #[] 0)) := hE0.alloc _
    refine hK _ _ hE1 ?_
    refine plan_walk rfl ?_; intro K hK
    go_wp2_with (first | (go_at_call 76; refine (open_any n ss oa cap _ (H.out.ext hE1) hl hn Hv.out).mono ?_; rintro e w1 ⟨hE, he⟩; rw [if_pos Hc.out] at he; obtain ⟨i, rfl⟩ := he))
    exact ⟨rfl, ⟨i, rfl⟩, hE1.trans hE⟩

theorem enters122 (args : Array Value) (w : World) : (callFunc 122 args).run Tryz.prog w = .ok (.enter 122 args) w := by kernel_rfl

/-- How many orders no spot contradicts, as the program counts. -/
def cnt (n : Nat) (ss : List (List Nat)) : Nat := if cyc n ss = true then 0 else StripM.ways (tab n ss) n n fun _ => false

set_option maxHeartbeats 1000000 in
theorem count_any (n : Nat) (ss : List (List Nat)) (oa : Option Addr) (cap : Nat) (w : World) (h : RowsAt w oa (upp ss)) (hl : ss.length ≤ 1000) (hn : n ≤ 6) (hv : Valid n ss) :
    Calls Tryz.prog 78 #[.agg #[.int .i64 n, .slice oa ss.length cap]] w fun e w' => e = .returned (.int .i64 (cnt n ss : Nat)) ∧ Ext w w' := by
  have hmf := makeFunc_run
  have hE2 : Ext w ((w.alloc (.cells #[.int .i64 n, .slice oa ss.length cap] 24)).alloc (.cells #[.int .i64 0] 3)) := ((Ext.refl w).alloc _).alloc _
  cases hc : cyc n ss
  · have hA : Calls Tryz.prog 74 #[.func (.func 122) #[] #[.pointer (some ⟨w.heap.size, 0, none⟩), .pointer (some ⟨w.heap.size + 1, 0, none⟩)]] ((w.alloc (.cells #[.int .i64 n, .slice oa ss.length cap] 24)).alloc (.cells #[.int .i64 0] 3))
        fun e w' => e = .returned (.int .i64 0) ∧ Ext w w' ∧ w'.cell? ⟨w.heap.size + 1, 0, none⟩ = some (.int .i64 (cnt n ss : Nat)) := by
      refine (attempt_ok 122 _ _ (fun w1 => Ext w w1 ∧ w.heap.size + 2 ≤ w1.heap.size ∧ w1.cell? ⟨w.heap.size + 1, 0, none⟩ = some (.int .i64 (cnt n ss : Nat))) enters122 ((count1_ok n ss oa cap w.heap.size (w.heap.size + 1) (.int .i64 0) _ hl hn hv (by go_simp) (by go_simp) (by go_simp) (by go_simp) (by omega) hc ?_).mono ?_)).mono ?_
      · intro W hT
        exact h.ext (ext_own (hE2.alloc _) hT (by omega))
      · rintro e w1 ⟨h1, h2, h3⟩
        refine ⟨h1, h3.cell (by simp) (by go_simp), (h3.frozen (by simp) (by simp)).trans (by go_simp), ext_own (hE2.alloc _) h3 (by omega), by have := h3.size; simp at this; omega, ?_⟩
        rw [h2, cnt, if_neg (by rw [hc]; simp)]
      · rintro e w' ⟨h1, w1, ⟨h2, h3, h4⟩, h5⟩
        exact ⟨h1, ext_own h2 h5 (by simp; omega), Turned.cell h5 (by simp) h4⟩
    have HA := Lib.hid hA; clear hA
    go_enter Tryz.func78, Tryz.ntmps78
    go_wp2_with (first | (go_at_call 74; refine HA.out.mono ?_; rintro e w1 ⟨rfl, hE, c0⟩))
    go_ret
    exact ⟨rfl, hE⟩
  · have hA : Calls Tryz.prog 74 #[.func (.func 122) #[] #[.pointer (some ⟨w.heap.size, 0, none⟩), .pointer (some ⟨w.heap.size + 1, 0, none⟩)]] ((w.alloc (.cells #[.int .i64 n, .slice oa ss.length cap] 24)).alloc (.cells #[.int .i64 0] 3))
        fun e w' => e = .returned (.int .i64 7) ∧ Ext ((w.alloc (.cells #[.int .i64 n, .slice oa ss.length cap] 24)).alloc (.cells #[.int .i64 0] 3)) w' := by
      exact attempt_clash_ext 122 _ _ enters122 (count1_clash n ss oa cap w.heap.size (w.heap.size + 1) _ (h.ext (hE2.alloc _)) hl hn hv (by go_simp) (by go_simp) hc)
    have HA := Lib.hid hA; clear hA
    go_enter Tryz.func78, Tryz.ntmps78
    go_wp2_with (first | (go_at_call 74; refine HA.out.mono ?_; rintro e w1 ⟨rfl, hE⟩))
    go_ret
    exact ⟨ret_int (by rw [cnt, if_pos hc]; rfl), hE2.trans hE⟩
end Go.Proofs.YtiehfpkcaoeieaaGreatDoor
/- Contracts: slices.Clone, with. No condition. -/
namespace Go.Proofs.YtiehfpkcaoeieaaGreatDoor
open Go.RowKit Go.My Go.StripM

theorem eq27n (w : World) : (binOp BinOp.eql 27 (.slice none 0 0) (.slice none 0 0)).run Tryz.prog w = .ok (.bool true) w := by kernel_rfl
theorem eq22n (w : World) : (binOp BinOp.eql 22 (.slice none 0 0) (.slice none 0 0)).run Tryz.prog w = .ok (.bool true) w := by kernel_rfl
theorem eq27s (ad : Addr) (n c : Nat) (w : World) : (binOp BinOp.eql 27 (.slice (some ad) n c) (.slice none 0 0)).run Tryz.prog w = .ok (.bool false) w := by kernel_rfl
theorem eq22s (ad : Addr) (n c : Nat) (w : World) : (binOp BinOp.eql 22 (.slice (some ad) n c) (.slice none 0 0)).run Tryz.prog w = .ok (.bool false) w := by kernel_rfl

set_option maxRecDepth 100000 in
set_option maxHeartbeats 1000000 in
theorem clone_any (xs : List Value) (oa : Option Addr) (cap : Nat) (w : World) (hx : ∀ (ad : Addr) (i : Nat) (u : Value), oa = some ad → xs[i]? = some u → w.cell? (ad.add i) = some u) (h1 : ∀ u ∈ xs, u.oneCell' = true) (hl : xs.length ≤ 1000)
    (hn : oa = none → xs = [] ∧ cap = 0) : Calls Tryz.prog 103 #[.slice oa xs.length cap] w fun e w' => ∃ v, e = .returned v ∧ Own w' w.heap.size 3 v xs ∧ Ext w w' := by
  cases oa with
  | none =>
    obtain ⟨rfl, rfl⟩ := hn rfl
    clear hx h1 hn hl
    have e0 := eq27n
    have e1 := eq27s
    go_enter Tryz.func103, Tryz.ntmps103
    go_wp2
    go_ret
    exact ⟨_, rfl, Own.nil _ _ _, Ext.refl _⟩
  | some ad =>
    have hx' := Lib.hid (fun i u h => hx ad i u rfl h); clear hx
    have H1 := Lib.hid h1; clear h1
    have hE := (Ext.refl w).alloc (.cells #[] 3)
    have hown : Own (w.alloc (.cells #[] 3)) w.heap.size 3 (.slice (some ⟨w.heap.size, 0, none⟩) 0 0) [] := ⟨rfl, .inr ⟨w.heap.size, 0, #[], rfl, Nat.le_refl _, heap_alloc_new _ _, Nat.le_refl _, by decide, rfl, rfl⟩⟩
    have Hown := Lib.hid hown; clear hown
    obtain ⟨ii, hi1, hi2, hi3, hi4⟩ := info_parts i3
    have e0 := eq27n
    have e1 := eq27s
    go_enter Tryz.func103, Tryz.ntmps103
    go_wp2_with (first | (at_builtin; refine wpList_append_own _ rfl _ _ 27 rfl w.heap.size 3 ii (.int .i64 0) 1 8 Tryz.underlying27 hi1 hi2 hi3 hi4 rfl (by decide) _ 0 [] rfl Hown.out ad xs.length cap xs rfl (by simp) (fun j u hj => cell_ext hE (hx'.out j u hj)) H1.out (by unfold maxLen; omega) (by omega) hE.size ?_; intro v' w2 ho hg _))
    go_ret
    rw [Nat.zero_add] at ho
    exact ⟨_, rfl, by simpa [Own] using ho, ext_own hE hg (Nat.le_refl _)⟩

set_option maxRecDepth 100000 in
set_option maxHeartbeats 1000000 in
theorem clone2_any (xs : List Value) (oa : Option Addr) (cap : Nat) (w : World) (hx : ∀ (ad : Addr) (i : Nat) (u : Value), oa = some ad → xs[i]? = some u → w.cell? (ad.add i) = some u) (h1 : ∀ u ∈ xs, u.oneCell' = true) (hl : xs.length ≤ 1000)
    (hn : oa = none → xs = [] ∧ cap = 0) : Calls Tryz.prog 124 #[.slice oa xs.length cap] w fun e w' => ∃ v, e = .returned v ∧ Own w' w.heap.size 27 v xs ∧ Ext w w' := by
  cases oa with
  | none =>
    obtain ⟨rfl, rfl⟩ := hn rfl
    clear hx h1 hn hl
    have e0 := eq22n
    have e1 := eq22s
    go_enter Tryz.func124, Tryz.ntmps124
    go_wp2
    go_ret
    exact ⟨_, rfl, Own.nil _ _ _, Ext.refl _⟩
  | some ad =>
    have hx' := Lib.hid (fun i u h => hx ad i u rfl h); clear hx
    have H1 := Lib.hid h1; clear h1
    have hE := (Ext.refl w).alloc (.cells #[] 27)
    have hown : Own (w.alloc (.cells #[] 27)) w.heap.size 27 (.slice (some ⟨w.heap.size, 0, none⟩) 0 0) [] := ⟨rfl, .inr ⟨w.heap.size, 0, #[], rfl, Nat.le_refl _, heap_alloc_new _ _, Nat.le_refl _, by decide, rfl, rfl⟩⟩
    have Hown := Lib.hid hown; clear hown
    obtain ⟨ii, hi1, hi2, hi3, hi4⟩ := info_parts i27
    have e0 := eq22n
    have e1 := eq22s
    go_enter Tryz.func124, Tryz.ntmps124
    go_wp2_with (first | (at_builtin; refine wpList_append_own _ rfl _ _ 22 rfl w.heap.size 27 ii (.slice none 0 0) 1 24 Tryz.underlying22 hi1 hi2 hi3 hi4 rfl (by decide) _ 0 [] rfl Hown.out ad xs.length cap xs rfl (by simp) (fun j u hj => cell_ext hE (hx'.out j u hj)) H1.out (by unfold maxLen; omega) (by omega) hE.size ?_; intro v' w2 ho hg _))
    go_ret
    rw [Nat.zero_add] at ho
    exact ⟨_, rfl, by simpa [Own] using ho, ext_own hE hg (Nat.le_refl _)⟩

end Go.Proofs.YtiehfpkcaoeieaaGreatDoor
/- Contracts: with, orError, word. No condition beyond boards as defined. -/
namespace Go.Proofs.YtiehfpkcaoeieaaGreatDoor
open Go.RowKit Go.My Go.StripM

theorem add_none (b off j : Nat) : (⟨b, off, none⟩ : Addr).add j = ⟨b, off + j, none⟩ := by unfold Addr.add; split <;> simp_all

theorem list_choose {α β : Type} {R : Nat → α → β → Prop} : ∀ (l : List α) (_h : ∀ i a, l[i]? = some a → ∃ b, R i a b), ∃ xs : List β, xs.length = l.length ∧ ∀ i a, l[i]? = some a → ∃ b, xs[i]? = some b ∧ R i a b := by
  intro l
  induction l generalizing R with
  | nil => intro _; exact ⟨[], rfl, fun i a h => by simp at h⟩
  | cons a l ih =>
    intro h
    obtain ⟨b, hb⟩ := h 0 a rfl
    obtain ⟨xs, hx, hxs⟩ := ih (R := fun i => R (i + 1)) (fun i a' ha => h (i + 1) a' (by simpa using ha))
    refine ⟨b :: xs, by simp [hx], fun i a' ha => ?_⟩
    cases i with
    | zero => simp at ha; subst ha; exact ⟨b, rfl, hb⟩
    | succ i => obtain ⟨b', h1, h2⟩ := hxs i a' (by simpa using ha); exact ⟨b', by simpa using h1, h2⟩

theorem isInts_one {w : World} {u : Value} {l : List Int} (h : IsInts w u l) : u.oneCell' = true := by
  obtain ⟨oa, cap, rfl, _⟩ := h; rfl

theorem rows_vals {w : World} {oa : Option Addr} {ls : List (List Int)} (h : RowsAt w oa ls) : ∃ xs : List Value, xs.length = ls.length ∧ (∀ (ad : Addr) (i : Nat) (u : Value), oa = some ad → xs[i]? = some u → w.cell? (ad.add i) = some u) ∧
    (∀ u ∈ xs, u.oneCell' = true) ∧ ∀ (i : Nat) (l : List Int), ls[i]? = some l → ∃ u, xs[i]? = some u ∧ IsInts w u l := by
  obtain ⟨xs, hx, hxs⟩ := list_choose (R := fun i l u => (∀ ad : Addr, oa = some ad → w.cell? (ad.add i) = some u) ∧ IsInts w u l) ls (fun i l hl => by
    obtain ⟨b, off, u, ho, hlt, hc, hu⟩ := h i l hl
    exact ⟨u, fun ad he => by rw [ho] at he; cases he; rw [add_none]; exact hc, hu⟩)
  refine ⟨xs, hx, ?_, ?_, fun i l hl => by obtain ⟨u, h1, _, h2⟩ := hxs i l hl; exact ⟨u, h1, h2⟩⟩
  · intro ad i u he hu
    have hi : i < ls.length := by rw [← hx]; exact (List.getElem?_eq_some_iff.1 hu).1
    obtain ⟨u', h1, h2, _⟩ := hxs i ls[i] (by simp [hi])
    rw [hu] at h1
    cases h1
    exact h2 ad he
  · intro u hu
    obtain ⟨i, hi⟩ := List.mem_iff_getElem?.1 hu
    have hil : i < ls.length := by rw [← hx]; exact (List.getElem?_eq_some_iff.1 hi).1
    obtain ⟨u', h1, _, h2⟩ := hxs i ls[i] (by simp [hil])
    rw [hi] at h1
    cases h1
    exact isInts_one h2

/-- A slice of the call's own whose elements are these slices. -/
theorem rows_of_own {w : World} {B : Nat} {e : TypeId} {v : Value} {ls : List (List Int)} {xs : List Value} (h : Own w B e v xs) (hl : xs.length = ls.length)
    (hx : ∀ (i : Nat) (l : List Int), ls[i]? = some l → ∃ u, xs[i]? = some u ∧ IsInts w u l) : IsRows w v ls :=
  isRows_of_own (B := B) (e := e) (by unfold Own at h; rwa [hl] at h) hx

theorem upp_append (ss : List (List Nat)) (s : List Nat) : upp (ss ++ [s]) = upp ss ++ [up s] := by simp [upp]

theorem results_cell24 {fn : Func} {p : Tmp} (h : fn.results = #[.cell p 24]) (tmps : Array Value) (w : World) (b : Nat) (x y : Value) (hp : tmps.getD p undef = .pointer (some ⟨b, 0, none⟩))
    (h0 : w.cell? ⟨b, 0, none⟩ = some x) (h1 : w.cell? ⟨b, 1, none⟩ = some y) : (results fn tmps).run Tryz.prog w = .ok (.agg #[x, y]) w := by
  have hp' : tmps[p]?.getD undef = .pointer (some ⟨b, 0, none⟩) := by simpa using hp
  have hagg : (isAgg 24).run Tryz.prog w = .ok true w := by kernel_rfl
  have hsz : (sizeOf 24).run Tryz.prog w = .ok 2 w := by kernel_rfl
  have hl : (loadCells ⟨b, 0, none⟩ 2).run Tryz.prog w = .ok #[x, y] w := run_loadCells_list (P := Tryz.prog) w ⟨b, 0, none⟩ [x, y] (fun j v hv => by
    rw [add_none]
    match j, hv with
    | 0, hv => simp at hv; subst hv; simpa using h0
    | 1, hv => simp at hv; subst hv; simpa using h1)
  simp [results, h, hp', asAddr, loadVar, Sem.run_bind, hagg, hsz, hl]

set_option maxRecDepth 100000 in
set_option maxHeartbeats 1000000 in
/-- A board with a spot more. -/
theorem with_any (n : Nat) (ss : List (List Nat)) (oa : Option Addr) (cap : Nat) (s : List Nat) (sv : Value) (w : World) (h : RowsAt w oa (upp ss)) (hl : ss.length ≤ 1000) (hn : oa = none → cap = 0) (hcap : ss.length ≤ cap) (hs : IsInts w sv (up s)) :
    Calls Tryz.prog 85 #[.agg #[.int .i64 n, .slice oa ss.length cap], sv] w fun e w' => ∃ v, e = .returned (.agg #[.int .i64 n, v]) ∧ IsRows w' v (upp (ss ++ [s])) ∧ Ext w w' := by
  obtain ⟨xs, hx1, hx2, hx3, hx4⟩ := rows_vals h
  rw [upp_length] at hx1
  have hE2 : Ext w ((w.alloc (.cells #[.int .i64 n, .slice oa ss.length cap] 24)).alloc (.cells #[.int .i64 0, .slice none 0 0] 24)) := ((Ext.refl w).alloc _).alloc _
  have hcl := clone2_any xs oa cap _ (fun ad i u he hu => cell_ext hE2 (hx2 ad i u he hu)) hx3 (by omega) (fun he => ⟨List.eq_nil_of_length_eq_zero (by have := hn he; omega), hn he⟩)
  rw [hx1] at hcl
  have Hcl := Lib.hid hcl; clear hcl
  have Hs := Lib.hid hs
  have Hx4 := Lib.hid hx4
  obtain ⟨ob, cb, hsv, _⟩ := id hs
  subst hsv
  clear h hx2 hx3 hx4
  have hEw : ∀ {w1 w2 : World} {x y z : Value}, Ext ((w.alloc (.cells #[.int .i64 n, .slice oa ss.length cap] 24)).alloc (.cells #[.int .i64 0, .slice none 0 0] 24)) w1 → Below (w.heap.size + 2) w1 w2 →
      Ext w (((w2.setCell ⟨w.heap.size, 1, none⟩ x).setCell ⟨w.heap.size + 1, 0, none⟩ y).setCell ⟨w.heap.size + 1, 1, none⟩ z) := fun h1 h2 =>
    ext_own (ext_own (ext_own ((hE2.trans h1).below h2 (by omega)) ((Turned.refl w.heap.size _).set 1 _) (Nat.le_refl _)) ((Turned.refl (w.heap.size + 1) _).set 0 _) (by omega)) ((Turned.refl (w.heap.size + 1) _).set 1 _) (by omega)
  go_enter Tryz.func85, Tryz.ntmps85
  go_wp2_with (first | (go_at_call 124; refine Hcl.out.mono ?_; rintro e w1 ⟨v, rfl, hown, hE⟩; have Hown : Hid (Own w1 (w.heap.size + 2) 27 v xs) := Lib.hid (by simpa using hown); clear hown) | (at_builtin; refine wpList_app1 _ rfl _ _ 22 rfl 27 Tryz.underlying22 (.slice none 0 0) 24 i27 rfl (by decide) (w.heap.size + 2) _ _ rfl (Hown.out.ext ((Ext.refl w1).alloc _)) w1.heap.size (.slice ob (up s).length cb) rfl (by go_simp) rfl ?_ ?_ ?_))
  · omega
  · have := hE.size; simp at this ⊢; omega
  · intro v' w2 hown2 hBl _
    have hB2 : Below (w.heap.size + 2) w1 w2 := ((Ext.refl w1).alloc (.cells #[.slice ob (up s).length cb] 27)).mono (by have := hE.size; simp at this; omega) |>.trans hBl
    have c0 : w2.cell? ⟨w.heap.size, 0, none⟩ = some (.int .i64 n) := (hB2.cell (by simp <;> omega)).trans (cell_ext hE (by go_simp))
    have c1 : w2.cell? ⟨w.heap.size, 1, none⟩ = some (.slice oa ss.length cap) := (hB2.cell (by simp <;> omega)).trans (cell_ext hE (by go_simp))
    have r0 : w2.cell? ⟨w.heap.size + 1, 0, none⟩ = some (.int .i64 0) := (hB2.cell (by simp <;> omega)).trans (cell_ext hE (by go_simp))
    have r1 : w2.cell? ⟨w.heap.size + 1, 1, none⟩ = some (.slice none 0 0) := (hB2.cell (by simp <;> omega)).trans (cell_ext hE (by go_simp))
    have f1 : w2.frozen? ⟨w.heap.size, 1, none⟩ = false := (hB2.frozen (by simp <;> omega)).trans ((hE.frozen (by simp <;> omega)).trans (by go_simp))
    have g0 : w2.frozen? ⟨w.heap.size + 1, 0, none⟩ = false := (hB2.frozen (by simp)).trans ((hE.frozen (by simp)).trans (by go_simp))
    have g1 : w2.frozen? ⟨w.heap.size + 1, 1, none⟩ = false := (hB2.frozen (by simp)).trans ((hE.frozen (by simp)).trans (by go_simp))
    have Ho := Lib.hid hown2; clear hown2
    obtain ⟨oa', cap', hv1, _⟩ := Ho.out.slice
    subst hv1
    go_wp2
    refine bodyPost_ret (v := .agg #[.int .i64 n, .slice oa' (ss.length + 1) cap']) (results_cell24 rfl _ _ (w.heap.size + 1) _ _ (by simp) (by go_simp) (by go_simp)) (by simp) ⟨_, rfl, ?_, ?_⟩
    · have ho3 := ((Ho.out.turned ((Turned.refl w.heap.size w2).set 1 (.slice oa' (ss.length + 1) cap')) (by omega)).turned ((Turned.refl (w.heap.size + 1) _).set 0 (.int .i64 n)) (by omega)).turned ((Turned.refl (w.heap.size + 1) _).set 1 (.slice oa' (ss.length + 1) cap')) (by omega)
      have hE3 := hEw (x := .slice oa' (ss.length + 1) cap') (y := .int .i64 n) (z := .slice oa' (ss.length + 1) cap') hE hB2
      have := rows_of_own (ls := upp (ss ++ [s])) ho3 (by simp [upp, hx1]) (fun i l hl => by
        rw [upp_append] at hl
        by_cases hi : i < ss.length
        · rw [List.getElem?_append_left (by rw [upp_length]; exact hi)] at hl
          obtain ⟨u, h1, h2⟩ := Hx4.out i l hl
          exact ⟨u, by rw [List.getElem?_append_left (by omega)]; exact h1, h2.ext hE3⟩
        · rw [List.getElem?_append_right (by rw [upp_length]; omega), upp_length] at hl
          have hi0 : i - ss.length = 0 := by
            have := (List.getElem?_eq_some_iff.1 hl).1
            simp at this; omega
          rw [hi0] at hl
          simp at hl
          subst hl
          exact ⟨_, by rw [List.getElem?_append_right (by omega), show i - xs.length = 0 by omega]; rfl, Hs.out.ext hE3⟩)
      simpa [hx1] using this
    · exact hEw hE hB2

end Go.Proofs.YtiehfpkcaoeieaaGreatDoor
/- Contracts: orError, word, Count, Check, least, greatest. No condition beyond boards as defined. -/
namespace Go.Proofs.YtiehfpkcaoeieaaGreatDoor
open Go.RowKit Go.My Go.StripM

theorem ret_two {a b c d : Int} (h1 : a = c) (h2 : b = d) : Ending.returned (.tuple #[.int .i64 a, .int .i64 b]) = .returned (.tuple #[.int .i64 c, .int .i64 d]) := by rw [h1, h2]

def wordI (n many : Nat) : Int := if n = 0 then 1 else if n = many then 3 else 2

theorem word_any (n many : Nat) (w : World) : Calls Tryz.prog 84 #[.int .i64 n, .int .i64 many] w fun e w' => e = .returned (.int .i64 (wordI n many)) ∧ Ext w w' := by
  go_enter Tryz.func84, Tryz.ntmps84
  by_cases h0 : n = 0
  · subst h0
    go_wp2
    go_ret
    exact ⟨rfl, Ext.refl _⟩
  · have h1 : ((n : Int) == 0) = false := by simpa using h0
    by_cases h2 : n = many
    · subst h2
      go_wp2
      go_ret
      exact ⟨ret_int (by simp [wordI, h0]), Ext.refl _⟩
    · have h3 : ((n : Int) == (many : Int)) = false := by simpa using (by omega : ¬ (n : Int) = many)
      go_wp2
      go_ret
      exact ⟨ret_int (by simp [wordI, h0, h2]), Ext.refl _⟩

theorem orError_bad (n : Int) (sv : Value) (w : World) : Calls Tryz.prog 82 #[.agg #[.int .i64 n, sv], .bool false] w fun e w' => e = .returned (.tuple #[.int .i64 0, .int .i64 2]) ∧ Ext w w' := by
  go_enter Tryz.func82, Tryz.ntmps82
  go_wp2
  go_ret2
  exact ⟨rfl, (Ext.refl w).alloc _⟩

set_option maxHeartbeats 400000 in
theorem orError_any (n : Nat) (ss : List (List Nat)) (oa : Option Addr) (cap : Nat) (w : World) (h : RowsAt w oa (upp ss)) (hl : ss.length ≤ 1000) (hn : n ≤ 6) (hv : Valid n ss) :
    Calls Tryz.prog 82 #[.agg #[.int .i64 n, .slice oa ss.length cap], .bool true] w fun e w' => e = .returned (.tuple #[.int .i64 (cnt n ss : Nat), .int .i64 (if cnt n ss = 0 then 7 else 0)]) ∧ Ext w w' := by
  have hE1 := (Ext.refl w).alloc (.cells #[.int .i64 n, .slice oa ss.length cap] 24)
  have hcc := Lib.hid (count_any n ss oa cap _ (h.ext hE1) hl hn hv)
  clear h hv
  by_cases h0 : cnt n ss = 0
  · rw [h0] at hcc
    go_enter Tryz.func82, Tryz.ntmps82
    go_wp2_with (first | (go_at_call 78; refine hcc.out.mono ?_; rintro e w1 ⟨rfl, hE⟩))
    go_ret2
    exact ⟨ret_two rfl rfl, hE1.trans hE⟩
  · have h1 : (((cnt n ss : Nat) : Int) == 0) = false := by simpa using h0
    go_enter Tryz.func82, Tryz.ntmps82
    go_wp2_with (first | (go_at_call 78; refine hcc.out.mono ?_; rintro e w1 ⟨rfl, hE⟩))
    go_ret2
    exact ⟨ret_two rfl rfl, hE1.trans hE⟩

/-- How many names come before one. -/
def befores (M : Nat → Nat → Bool) (x k : Nat) : Nat := ((List.range k).filter fun i => M i x).length
def behinds (M : Nat → Nat → Bool) (x k : Nat) : Nat := ((List.range k).filter fun i => M x i).length
theorem befores_succ (M : Nat → Nat → Bool) (x k : Nat) : befores M x (k + 1) = befores M x k + if M k x then 1 else 0 := by
  unfold befores; rw [List.range_succ, List.filter_append, List.length_append]; cases h : M k x <;> simp [h]
theorem behinds_succ (M : Nat → Nat → Bool) (x k : Nat) : behinds M x (k + 1) = behinds M x k + if M x k then 1 else 0 := by
  unfold behinds; rw [List.range_succ, List.filter_append, List.length_append]; cases h : M x k <;> simp [h]
theorem befores_le (M : Nat → Nat → Bool) (x k : Nat) : befores M x k ≤ k := by
  have := List.length_filter_le (fun i => M i x) (List.range k); simpa [befores] using this
theorem behinds_le (M : Nat → Nat → Bool) (x k : Nat) : behinds M x k ≤ k := by
  have := List.length_filter_le (fun i => M x i) (List.range k); simpa [behinds] using this

set_option maxHeartbeats 1000000 in
theorem least_any (n : Nat) (sv : Value) (M : Nat → Nat → Bool) (x : Nat) (hx : x < n) (hn : n ≤ 6) (w : World) :
    Calls Tryz.prog 86 #[.agg (tcells n sv M), .int .i64 x] w fun e w' => e = .returned (.int .i64 (befores M x n : Nat)) ∧ Ext w w' := by
  have t0 := tcells_0 n sv M
  go_enter Tryz.func86, Tryz.ntmps86
  go_wp2
  go_loopg [5, 10] n (fun g c v wr => ∃ i : Nat, i + g = n ∧ v = .int .i64 i ∧ c = .int .i64 (befores M x i : Nat) ∧ wr = w.alloc (.cells (tcells n sv M) 93))
  case atStart => exact ⟨0, by simp, rfl, rfl, rfl⟩
  case round =>
    obtain ⟨i, hi, rfl, rfl, rfl⟩ := hrel
    by_cases hlt : i < n
    · have t1 := tcells_at n sv M (i := i) (j := x) (by omega) (by omega)
      have hs := befores_succ M x i
      have hb := befores_le M x i
      cases h1 : M i x
      · rw [h1] at t1 hs
        have Hs := Lib.hid hs; clear hs hb h1
        go_wp2
        go_roundg (gk - 1)
        case measure => omega
        case rel => exact ⟨i + 1, by omega, by go_num, by rw [Hs.out]; rfl, rfl⟩
      · rw [h1] at t1 hs
        have Hs := Lib.hid hs; clear hs h1
        go_wp2
        go_roundg (gk - 1)
        case measure => omega
        case rel => exact ⟨i + 1, by omega, by go_num, by rw [Hs.out]; first | rfl | (congr 1; simp; done), rfl⟩
    · have hin : i = n := by omega
      have Hi := Lib.hid hin; clear hin
      go_wp2
      go_ret
      exact ⟨ret_int (by rw [Hi.out]), (Ext.refl w).alloc _⟩

set_option maxHeartbeats 1000000 in
theorem greatest_any (n : Nat) (sv : Value) (M : Nat → Nat → Bool) (x : Nat) (hx : x < n) (hn : n ≤ 6) (w : World) :
    Calls Tryz.prog 87 #[.agg (tcells n sv M), .int .i64 x] w fun e w' => e = .returned (.int .i64 ((n : Int) - 1 - (behinds M x n : Nat))) ∧ Ext w w' := by
  have t0 := tcells_0 n sv M
  go_enter Tryz.func87, Tryz.ntmps87
  go_wp2
  go_loopg [5, 14] n (fun g c v wr => ∃ i : Nat, i + g = n ∧ v = .int .i64 i ∧ c = .int .i64 ((n : Int) - 1 - (behinds M x i : Nat)) ∧ wr = w.alloc (.cells (tcells n sv M) 93))
  case atStart => exact ⟨0, by simp, rfl, by simp [behinds], rfl⟩
  case round =>
    obtain ⟨i, hi, rfl, rfl, rfl⟩ := hrel
    by_cases hlt : i < n
    · have t1 := tcells_at n sv M (i := x) (j := i) (by omega) (by omega)
      have hs := behinds_succ M x i
      have hb := behinds_le M x i
      cases h1 : M x i
      · rw [h1] at t1 hs
        have Hs := Lib.hid hs; clear hs hb h1
        go_wp2
        go_roundg (gk - 1)
        case measure => omega
        case rel => exact ⟨i + 1, by omega, by go_num, by rw [Hs.out]; rfl, rfl⟩
      · rw [h1] at t1 hs
        have Hs := Lib.hid hs; clear hs h1
        go_wp2
        go_roundg (gk - 1)
        case measure => omega
        case rel => exact ⟨i + 1, by omega, by go_num, by rw [Hs.out]; congr 1; simp; omega, rfl⟩
    · have hin : i = n := by omega
      have Hi := Lib.hid hin; clear hin
      go_wp2
      go_ret
      exact ⟨ret_int (by rw [Hi.out]), (Ext.refl w).alloc _⟩


set_option maxHeartbeats 1000000 in
theorem scount_bad (n : Int) (ls : List (List Int)) (oa : Option Addr) (cap : Nat) (w : World) (h : RowsAt w oa ls) (hl : ls.length ≤ 9223372036854775807) (hbad : boardB n ls = false) :
    Calls Tryz.prog 25 #[.agg #[.int .i64 n, .slice oa ls.length cap]] w fun e w' => e = .returned (.tuple #[.int .i64 0, .int .i64 2]) ∧ Ext w w' := by
  have H := Lib.hid h; clear h
  go_enter Tryz.func25, Tryz.ntmps25
  go_wp2_with (first | (go_at_call 73; refine (isBoard_any n ls _ cap _ (H.out.ext ((Ext.refl w).alloc _)) hl).mono ?_; rintro e w' ⟨rfl, hE⟩; obtain ⟨hq, _⟩ := bcell hE))
  go_ret2
  exact ⟨rfl, ((Ext.refl w).alloc _).trans hE⟩

/-- A board as defined. -/
structure Good (n : Nat) (ss : List (List Nat)) : Prop where
  isB : boardB (n : Int) (upp ss) = true
  le : n ≤ 6
  pos : 1 ≤ n
  len : ss.length ≤ 6
  valid : Valid n ss

set_option maxHeartbeats 1000000 in
theorem scount_any (n : Nat) (ss : List (List Nat)) (oa : Option Addr) (cap : Nat) (w : World) (h : RowsAt w oa (upp ss)) (g : Good n ss) :
    Calls Tryz.prog 25 #[.agg #[.int .i64 n, .slice oa ss.length cap]] w fun e w' => e = .returned (.tuple #[.int .i64 (cnt n ss : Nat), .int .i64 0]) ∧ Ext w w' := by
  have hE1 := (Ext.refl w).alloc (.cells #[.int .i64 n, .slice oa ss.length cap] 24)
  have hb := isBoard_any n (upp ss) oa cap _ (h.ext hE1) (by rw [upp_length]; have := g.len; omega)
  rw [g.isB, upp_length] at hb
  have Hb := Lib.hid hb; clear hb
  have hc := fun w' (hE : Ext w w') => count_any n ss oa cap w' (h.ext hE) (by have := g.len; omega) g.le g.valid
  have Hc := Lib.hid hc; clear hc h g
  go_enter Tryz.func25, Tryz.ntmps25
  go_wp2_with (first | (go_at_call 73; refine Hb.out.mono ?_; rintro e w1 ⟨rfl, hE⟩; have c0 : w1.cell? ⟨w.heap.size, 0, none⟩ = some (.int .i64 n) := cell_ext hE (by go_simp); have c1 : w1.cell? ⟨w.heap.size, 1, none⟩ = some (.slice oa ss.length cap) := cell_ext hE (by go_simp)) | (go_at_call 78; refine (Hc.out _ (hE1.trans hE)).mono ?_; rintro e w2 ⟨rfl, hE2⟩))
  go_ret2
  exact ⟨rfl, (hE1.trans hE).trans hE2⟩

set_option maxHeartbeats 1000000 in
theorem check_any (n : Int) (ls : List (List Int)) (oa : Option Addr) (cap : Nat) (w : World) (h : RowsAt w oa ls) (hl : ls.length ≤ 9223372036854775807) :
    Calls Tryz.prog 63 #[.agg #[.int .i64 n, .slice oa ls.length cap]] w fun e w' => e = .returned (.int .i64 (if boardB n ls then 0 else 2)) ∧ Ext w w' := by
  have H := Lib.hid h; clear h
  cases hb : boardB n ls
  all_goals
    go_enter Tryz.func63, Tryz.ntmps63
    go_wp2_with (first | (go_at_call 73; refine (isBoard_any n ls _ cap _ (H.out.ext ((Ext.refl w).alloc _)) hl).mono ?_; rw [hb]; rintro e w' ⟨rfl, hE⟩; obtain ⟨hq, _⟩ := bcell hE))
    go_ret
    exact ⟨ret_int rfl, ((Ext.refl w).alloc _).trans hE⟩

end Go.Proofs.YtiehfpkcaoeieaaGreatDoor
/- Contract: chain: the greatest number of names that come after each other. No condition. -/
namespace Go.Proofs.YtiehfpkcaoeieaaGreatDoor
open Go.RowKit Go.My Go.StripM

/-- The greatest of the chains behind a name, among the first k ones. -/
def chMax (f : Nat → Nat) (M : Nat → Nat → Bool) (x : Nat) : Nat → Nat
  | 0 => 0
  | k + 1 => if M x k then max (chMax f M x k) (f k) else chMax f M x k
def chain (M : Nat → Nat → Bool) (n : Nat) : Nat → Nat → Nat
  | 0, _ => 1
  | k + 1, x => chMax (chain M n k) M x n + 1
theorem chMax_le {f : Nat → Nat} {M : Nat → Nat → Bool} {x c : Nat} (h : ∀ i, f i ≤ c) : ∀ k, chMax f M x k ≤ c := by
  intro k
  induction k with
  | zero => exact Nat.zero_le _
  | succ k ih => simp only [chMax]; split <;> have := h k <;> omega
theorem chain_le (M : Nat → Nat → Bool) (n : Nat) : ∀ k x, chain M n k x ≤ k + 1 := by
  intro k
  induction k with
  | zero => intro x; simp [chain]
  | succ k ih => intro x; simp only [chain]; have := chMax_le (M := M) (x := x) ih n; omega

theorem chMax_none {f : Nat → Nat} {M : Nat → Nat → Bool} {x : Nat} : ∀ k, (∀ i, i < k → M x i = false) → chMax f M x k = 0 := by
  intro k
  induction k with
  | zero => intro _; rfl
  | succ k ih => intro h; simp only [chMax, h k (by omega)]; exact ih fun i hi => h i (by omega)

set_option maxRecDepth 100000 in
set_option maxHeartbeats 1000000 in
theorem chain_any (n : Nat) (sv : Value) (M : Nat → Nat → Bool) (hn : n ≤ 6) (hM : ∀ x y, x < n → y < n → M x y = true → behinds M y n < behinds M x n) :
    ∀ (k : Nat), k ≤ 6 → ∀ (x : Nat), x < n → behinds M x n ≤ k → ∀ (w : World), Calls Tryz.prog 104 #[.agg (tcells n sv M), .int .i64 x] w fun e w' => e = .returned (.int .i64 (chain M n k x : Nat)) ∧ Ext w w' := by
  intro k
  induction k with
  | zero =>
    intro _ x hx hb w
    have hno : ∀ i, i < n → M x i = false := by
      intro i hi
      cases h : M x i
      · rfl
      · have := hM x i hx hi h; omega
    have Hno := Lib.hid hno; clear hno hb
    have t0 := tcells_0 n sv M
    go_enter Tryz.func104, Tryz.ntmps104
    go_wp2
    go_loopg [5, 10] n (fun g c v wr => ∃ i : Nat, i + g = n ∧ v = .int .i64 i ∧ c = .int .i64 0 ∧ wr = w.alloc (.cells (tcells n sv M) 93))
    case atStart => exact ⟨0, by simp, rfl, rfl, rfl⟩
    case round =>
      obtain ⟨i, hi, rfl, rfl, rfl⟩ := hrel
      by_cases hlt : i < n
      · have t1 := tcells_at n sv M (i := x) (j := i) (by omega) (by omega)
        rw [Hno.out i hlt] at t1
        go_wp2
        go_roundg (gk - 1)
        case measure => omega
        case rel => exact ⟨i + 1, by omega, by go_num, rfl, rfl⟩
      · go_wp2
        go_ret
        exact ⟨rfl, (Ext.refl w).alloc _⟩
  | succ k ih =>
    intro hk x hx hb w
    have Ih := Lib.hid (ih (by omega)); clear ih
    have HM := Lib.hid hM
    have hE1 := (Ext.refl w).alloc (.cells (tcells n sv M) 93)
    have htab : (w.alloc (.cells (tcells n sv M) 93)).heap[w.heap.size]? = some (.cells (tcells n sv M) 93 (0, 0)) := heap_alloc_new _ _
    have t0 := tcells_0 n sv M
    have hcl := Lib.hid (fun i => chMax_le (M := M) (x := x) (chain_le M n k) i)
    clear hM
    go_enter Tryz.func104, Tryz.ntmps104
    go_wp2
    go_loopg [5, 10] n (fun g c v wr => ∃ i : Nat, i + g = n ∧ v = .int .i64 i ∧ c = .int .i64 (chMax (chain M n k) M x i : Nat) ∧ Ext (w.alloc (.cells (tcells n sv M) 93)) wr)
    case atStart => exact ⟨0, by simp, rfl, rfl, Ext.refl _⟩
    case round =>
      obtain ⟨i, hi, rfl, rfl, hE⟩ := hrel
      obtain ⟨wo, rfl⟩ : ∃ wo : World, wo = wr := ⟨_, rfl⟩
      have htab2 := (hE.block w.heap.size (by simp)).trans htab
      by_cases hlt : i < n
      · have t1 := cell_of_row _ _ (2 + x * 6 + i) _ _ _ htab2
        rw [tcells_at n sv M (i := x) (j := i) (by omega) (by omega)] at t1
        have hs : chMax (chain M n k) M x (i + 1) = if M x i then max (chMax (chain M n k) M x i) (chain M n k i) else chMax (chain M n k) M x i := rfl
        cases h1 : M x i
        · rw [h1] at t1 hs
          have Hs := Lib.hid hs; clear hs h1
          go_wp2
          go_roundg (gk - 1)
          case measure => omega
          case rel => exact ⟨i + 1, by omega, by go_num, by rw [Hs.out]; rfl, hE⟩
        · have hbi := HM.out x i hx hlt h1
          have hcall := Lib.hid (Ih.out i hlt (by omega) wo)
          rw [h1] at t1 hs
          have Hs := Lib.hid hs; clear hs h1
          go_wp2_with (first | ((with_reducible refine at_load93 _ rfl ?_); refine wpList_load93 rfl _ rfl w.heap.size ?_ n sv M htab2 ?_; (focus (go_simp; done))) | (go_at_call 104; refine hcall.out.mono ?_; rintro e w1 ⟨rfl, hE2⟩))
          all_goals
            go_roundg (gk - 1)
            case measure => omega
            case rel => exact ⟨i + 1, by omega, by go_num, by rw [Hs.out]; simp only [if_true]; congr 2; omega, hE.trans hE2⟩
      · have hin : i = n := by omega
        have Hi := Lib.hid hin; clear hin
        have hci := hcl.out i
        go_wp2
        go_ret
        exact ⟨ret_int (by rw [Hi.out]; simp [chain]), hE1.trans hE⟩


/-- The greatest of some numbers. -/
def mx (l : List Nat) : Nat := l.foldr max 0
theorem mx_append (l : List Nat) (x : Nat) : mx (l ++ [x]) = max (mx l) x := by
  induction l with
  | nil => simp [mx]
  | cons y l ih => simp only [mx, List.cons_append, List.foldr_cons] at *; rw [ih]; omega

theorem greater_any (a b : Int) (w : World) : Calls Tryz.prog 106 #[.int .i64 a, .int .i64 b] w fun e w' => e = .returned (.bool (decide (b < a))) ∧ w = w' := by
  go_enter Tryz.func106, Tryz.ntmps106
  go_wp2
  go_ret
  exact ⟨ret_bool (by simp), rfl⟩

set_option maxHeartbeats 1000000 in
theorem bestInt_any (l : List Nat) (oa : Option Addr) (cap : Nat) (w : World) (h : IntsAt w oa (up l)) (h1 : 1 ≤ l.length) (h2 : l.length ≤ cap) (h3 : cap ≤ maxLen) :
    Calls Tryz.prog 105 #[.slice oa l.length cap, .func (.func 106) #[] #[]] w fun e w' => e = .returned (.int .i64 (mx l : Nat)) ∧ Ext w w' := by
  obtain ⟨b, off, rfl, _, hc⟩ := ints_up h (k := 0) (by omega)
  rw [Nat.add_zero] at hc
  have H := Lib.hid h; clear h
  have h3' : cap ≤ 9223372036854775807 := by unfold maxLen at h3; omega
  clear h3
  by_cases hone : l.length = 1
  · have hx : mx l = l[0] := by
      match l, hone with
      | [a], _ => simp [mx]
    have Hx := Lib.hid hx; clear hx
    go_enter Tryz.func105, Tryz.ntmps105
    go_wp2
    all_goals
      go_loopg [5, 14] 1 (fun g c v wr => g = 1 ∧ v = .int .i64 0 ∧ c = .int .i64 (l[0] : Nat) ∧ wr = w)
      case atStart => exact ⟨rfl, rfl, rfl, rfl⟩
      case round =>
        obtain ⟨rfl, rfl, rfl, rfl⟩ := hrel
        go_wp2
        go_ret
        exact ⟨ret_int (by rw [Hx.out]), Ext.refl _⟩
  · have hone1 : ¬ cap = 1 := by omega
    go_enter Tryz.func105, Tryz.ntmps105
    go_wp2
    go_loopg [5, 14] l.length (fun g c v wr => ∃ i : Nat, i + g = l.length ∧ i + 1 ≤ l.length ∧ v = .int .i64 i ∧ c = .int .i64 (mx (l.take (i + 1)) : Nat) ∧ wr = w)
    case atStart => exact ⟨0, by simp, h1, rfl, by
      have : l.take (0 + 1) = [l[0]] := by rw [List.take_succ_eq_append_getElem (by omega)]; simp
      rw [this]; simp [mx], rfl⟩
    case round =>
      obtain ⟨i, hi, hi1, rfl, rfl, rfl⟩ := hrel
      by_cases hlt : i + 1 < l.length
      · obtain ⟨b', off', ho, _, hc2⟩ := ints_up H.out (k := i + 1) hlt
        obtain ⟨rfl, rfl⟩ : b = b' ∧ off = off' := by simpa using ho
        clear ho
        rw [show off + (i + 1) = off + 1 + i by omega] at hc2
        have hmx : mx (l.take (i + 1 + 1)) = max (mx (l.take (i + 1))) l[i + 1] := by rw [List.take_succ_eq_append_getElem hlt, mx_append]
        have Hm := Lib.hid hmx; clear hmx
        go_wp2_with (first | (go_at_call 106; refine (greater_any _ _ _).mono ?_; rintro e w1 ⟨rfl, rfl⟩))
        all_goals
          go_roundg (gk - 1)
          case measure => omega
          case rel => exact ⟨i + 1, by omega, by omega, by go_num, by rw [Hm.out]; congr 2; omega, rfl⟩
      · have hil : i + 1 = l.length := by omega
        have Hi := Lib.hid hil; clear hil
        go_wp2
        go_ret
        exact ⟨ret_int (by rw [Hi.out, List.take_length]), Ext.refl _⟩

end Go.Proofs.YtiehfpkcaoeieaaGreatDoor
