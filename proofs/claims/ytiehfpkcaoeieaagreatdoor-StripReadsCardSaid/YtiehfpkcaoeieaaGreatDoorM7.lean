/- Contracts and mathematics, joined: Places, RowsOwn, Lists. Conditions stand with each. -/
import Derived.Test.YtiehfpkcaoeieaaGreatDoorM6
import Derived.Test.YtiehfpkcaoeieaaGreatDoorM3
set_option linter.unusedVariables false
set_option linter.unusedSimpArgs false
/- Contract: strip.Places. No condition. -/
namespace Go.Proofs.YtiehfpkcaoeieaaGreatDoor
open Go.RowKit Go.My Go.StripM

theorem i103 : (Tryz.prog.info? 103).map (·.size) = some 2 := by kernel_rfl
section
variable {ops : Array Oper} {rest : List Oper} {o : Oper} {a : Act} {w : World} {Q : Exit → Act → World → Prop}
theorem at_store103 (p x : Operand) (_ho : o.op = .store 103 p x) (h : wpList Tryz.prog ops Q (o :: rest) a w) : wpList Tryz.prog ops Q (o :: rest) a w := h
theorem wpList_store103 (hgd : o.guard = none) (p x : Operand) (ho : o.op = .store 103 p x) (b : Nat) (hp : a.eval p = .pointer (some ⟨b, 0, none⟩)) (c' : Array Value) (hx : a.eval x = .agg c') (hc' : c'.size = 2) (h1 : c'.all (·.oneCell') = true)
    (c : Array Value) (hb : w.heap[b]? = some (.cells c 103 (0, 0))) (hc : c.size = 2)
    (h : ∀ w', w'.heap[b]? = some (.cells c' 103 (0, 0)) → w.grownBy w' (some b) → wpList Tryz.prog ops Q rest (a.put o.dst undef) w') : wpList Tryz.prog ops Q (o :: rest) a w :=
  wpList_plain hgd fun K hK => by
    unfold Oper.wp
    rw [show execOp a.eval o = (do Instr.storeAt 103 (.pointer (some ⟨b, 0, none⟩)) (.agg c'); pure .skip) by unfold execOp; rw [ho, ← hx, ← hp]]
    have hr : (Instr.storeAt 103 (.pointer (some ⟨b, 0, none⟩)) (.agg c')).run Tryz.prog w = .ok () (w.setRow b c') := by
      simp only [Instr.storeAt, Instr.sureAddr, Sem.run_bind, Sem.run_pure, Result.andThen]
      exact run_storeVar_row _ _ _ _ c c' hb (by rw [hc']; exact i103) (by rw [hc, hc']) h1
    rw [Sem.run_bind, hr]
    exact hK _ _ (h _ (setRow_heap w b c _ 103 _ hb) ⟨rfl, rfl, rfl, by simp, fun k _ hne => setRow_other w b k _ (fun e => hne (by rw [e]))⟩)
end

theorem results_cell42 {fn : Func} {p q : Tmp} (h : fn.results = #[.cell p 42, .tmp q]) (tmps : Array Value) (w : World) (b : Nat) (x y z : Value) (hp : tmps.getD p undef = .pointer (some ⟨b, 0, none⟩)) (hq : tmps.getD q undef = z)
    (h0 : w.cell? ⟨b, 0, none⟩ = some x) (h1 : w.cell? ⟨b, 1, none⟩ = some y) : (results fn tmps).run Tryz.prog w = .ok (.tuple #[.agg #[x, y], z]) w := by
  have hp' : tmps[p]?.getD undef = .pointer (some ⟨b, 0, none⟩) := by simpa using hp
  have hq' : tmps[q]?.getD undef = z := by simpa using hq
  have hagg : (isAgg 42).run Tryz.prog w = .ok true w := by kernel_rfl
  have hsz : (sizeOf 42).run Tryz.prog w = .ok 2 w := by kernel_rfl
  have hl : (loadCells ⟨b, 0, none⟩ 2).run Tryz.prog w = .ok #[x, y] w := run_loadCells_list (P := Tryz.prog) w ⟨b, 0, none⟩ [x, y] (fun j v hv => by
    rw [add_none]
    match j, hv with
    | 0, hv => simp at hv; subst hv; simpa using h0
    | 1, hv => simp at hv; subst hv; simpa using h1)
  simp [results, h, hp', hq', asAddr, loadVar, Sem.run_bind, hagg, hsz, hl]

set_option maxRecDepth 100000 in
set_option maxHeartbeats 1000000 in
theorem places_bad (n : Int) (ls : List (List Int)) (oa : Option Addr) (cap : Nat) (x : Int) (w : World) (h : RowsAt w oa ls) (hl : ls.length ≤ 9223372036854775807) (hbad : (boardB n ls && inB x 0 (n - 1)) = false) :
    Calls Tryz.prog 34 #[.agg #[.int .i64 n, .slice oa ls.length cap], .int .i64 x] w fun e w' => e = .returned (.tuple #[.agg #[.int .i64 0, .int .i64 0], .int .i64 2]) ∧ Ext w w' := by
  have bx0 := Lib.hid ((BxI.start (n := n) (cap := cap) h).next ((Ext.refl _).alloc (.cells #[.int .i64 0, .int .i64 0] 42)))
  clear h
  have hq0 : ((w.alloc (.cells #[.int .i64 n, .slice oa ls.length cap] 24)).alloc (.cells #[.int .i64 0, .int .i64 0] 42)).cell? ⟨w.heap.size + 1, 0, none⟩ = some (.int .i64 0) := by go_simp
  have hq1 : ((w.alloc (.cells #[.int .i64 n, .slice oa ls.length cap] 24)).alloc (.cells #[.int .i64 0, .int .i64 0] 42)).cell? ⟨w.heap.size + 1, 1, none⟩ = some (.int .i64 0) := by go_simp
  have hf0 : ((w.alloc (.cells #[.int .i64 n, .slice oa ls.length cap] 24)).alloc (.cells #[.int .i64 0, .int .i64 0] 42)).frozen? ⟨w.heap.size + 1, 0, none⟩ = false := by go_simp
  have hf1 : ((w.alloc (.cells #[.int .i64 n, .slice oa ls.length cap] 24)).alloc (.cells #[.int .i64 0, .int .i64 0] 42)).frozen? ⟨w.heap.size + 1, 1, none⟩ = false := by go_simp
  have hsz0 : w.heap.size + 1 < ((w.alloc (.cells #[.int .i64 n, .slice oa ls.length cap] 24)).alloc (.cells #[.int .i64 0, .int .i64 0] 42)).heap.size := by simp
  have he0 : Ext w ((w.alloc (.cells #[.int .i64 n, .slice oa ls.length cap] 24)).alloc (.cells #[.int .i64 0, .int .i64 0] 42)) := ((Ext.refl w).alloc _).alloc _
  generalize hW0 : (w.alloc (.cells #[.int .i64 n, .slice oa ls.length cap] 24)).alloc (.cells #[.int .i64 0, .int .i64 0] 42) = W0 at bx0 hq0 hq1 hf0 hf1 hsz0 he0
  have HW0 := Lib.hid hW0; clear hW0
  cases hb : boardB n ls
  · clear hbad
    go_enter Tryz.func34, Tryz.ntmps34
    go_wp2_with fail
    rw [HW0.out]
    refine wp_region_plan (.take 0 <| .take 1 <| .only 2 <| .take 3 <| .take 4 <| .take 5 <| .take 6 <| .take 7 <| .only 8 <| .take 9 <| .take 10 <| .take 11 <| .take 12 <| .take 13 <| .done) (fun W => Ext W0 W) mixed (by kernel_rfl) (by kernel_rfl) rfl (fun _ _ d _ _ h => by cases d <;> exact h) ((Ext.refl W0).drew) ?_
    repeat (first | (refine plan_take (v := ?_) rfl rfl (fun W hW => ?_) ?_; rotate_left; (focus (have dc0 := (bx0.out.next hW).c0; have dc1 := (bx0.out.next hW).c1; go_simp; first | exact rfl | (split <;> first | exact rfl | (exfalso; omega)) | done)); simp only [Act.put, List.setIfInBounds_toArray, List.set_cons_zero, List.set_cons_succ]) | (refine plan_skip rfl rfl ?_; simp only [Act.put, List.setIfInBounds_toArray, List.set_cons_zero, List.set_cons_succ]))
    refine plan_walk rfl ?_; intro K hK
    go_wp2_with (first | (go_at_call 73; refine (isBoard_any n ls oa cap _ (bx0.out.next (Ext.refl W0).drew).rows hl).mono ?_; rw [hb]; rintro e w1 ⟨rfl, hE1⟩))
    have hE1 := (Ext.refl W0).drew.trans hE1
    refine hK _ _ hE1 ?_
    repeat (first | (refine plan_take (v := ?_) rfl rfl (fun W hW => ?_) ?_; rotate_left; (focus (have dc0 := (bx0.out.next hW).c0; have dc1 := (bx0.out.next hW).c1; go_simp; first | exact rfl | (split <;> first | exact rfl | (exfalso; omega)) | done)); simp only [Act.put, List.setIfInBounds_toArray, List.set_cons_zero, List.set_cons_succ]) | (refine plan_skip rfl rfl ?_; simp only [Act.put, List.setIfInBounds_toArray, List.set_cons_zero, List.set_cons_succ]))
    refine plan_walk rfl ?_; intro K hK
    go_wp2_with (first | (go_at_call 82; refine (orError_bad n _ _).mono ?_; rintro e w2 ⟨rfl, hE2⟩))
    have hE2 := hE1.trans hE2
    refine hK _ _ hE2 ?_
    repeat (first | (refine plan_take (v := ?_) rfl rfl (fun W hW => ?_) ?_; rotate_left; (focus (skip; go_simp; first | exact rfl | (split <;> first | exact rfl | (exfalso; omega)) | done)); simp only [Act.put, List.setIfInBounds_toArray, List.set_cons_zero, List.set_cons_succ]) | (refine plan_skip rfl rfl ?_; simp only [Act.put, List.setIfInBounds_toArray, List.set_cons_zero, List.set_cons_succ]))
    refine plan_done ?_
    have q0 := cell_ext hE2 hq0
    have q1 := cell_ext hE2 hq1
    have f0 := (frozen_ext hE2 hsz0).trans hf0
    have f1 := (frozen_ext hE2 hsz0).trans hf1
    go_wp2
    refine bodyPost_ret (v := .tuple #[.agg #[.int .i64 0, .int .i64 0], .int .i64 2]) (results_cell42 rfl _ _ (w.heap.size + 1) _ _ _ (by simp) (by simp) (by go_simp) (by go_simp)) (by simp)
      ⟨rfl, ext_own (ext_own (he0.trans hE2) ((Turned.refl (w.heap.size + 1) _).set 0 _) (by omega)) ((Turned.refl (w.heap.size + 1) _).set 1 _) (by omega)⟩
  · have hnm : inB x 0 (n - 1) = false := by rw [hb] at hbad; simpa using hbad
    have hn := board_small hb
    clear hbad
    go_enter Tryz.func34, Tryz.ntmps34
    go_wp2_with fail
    rw [HW0.out]
    refine wp_region_plan (.take 0 <| .take 1 <| .only 2 <| .take 3 <| .take 4 <| .take 5 <| .only 6 <| .take 7 <| .only 8 <| .take 9 <| .take 10 <| .take 11 <| .take 12 <| .take 13 <| .done) (fun W => Ext W0 W) mixed (by kernel_rfl) (by kernel_rfl) rfl (fun _ _ d _ _ h => by cases d <;> exact h) ((Ext.refl W0).drew) ?_
    repeat (first | (refine plan_take (v := ?_) rfl rfl (fun W hW => ?_) ?_; rotate_left; (focus (have dc0 := (bx0.out.next hW).c0; have dc1 := (bx0.out.next hW).c1; go_simp; first | exact rfl | (split <;> first | exact rfl | (exfalso; omega)) | done)); simp only [Act.put, List.setIfInBounds_toArray, List.set_cons_zero, List.set_cons_succ]) | (refine plan_skip rfl rfl ?_; simp only [Act.put, List.setIfInBounds_toArray, List.set_cons_zero, List.set_cons_succ]))
    refine plan_walk rfl ?_; intro K hK
    go_wp2_with (first | (go_at_call 73; refine (isBoard_any n ls oa cap _ (bx0.out.next (Ext.refl W0).drew).rows hl).mono ?_; rw [hb]; rintro e w1 ⟨rfl, hE1⟩))
    have hE1 := (Ext.refl W0).drew.trans hE1
    refine hK _ _ hE1 ?_
    repeat (first | (refine plan_take (v := ?_) rfl rfl (fun W hW => ?_) ?_; rotate_left; (focus (have dc0 := (bx0.out.next hW).c0; have dc1 := (bx0.out.next hW).c1; go_simp; first | exact rfl | (split <;> first | exact rfl | (exfalso; omega)) | done)); simp only [Act.put, List.setIfInBounds_toArray, List.set_cons_zero, List.set_cons_succ]) | (refine plan_skip rfl rfl ?_; simp only [Act.put, List.setIfInBounds_toArray, List.set_cons_zero, List.set_cons_succ]))
    refine plan_walk rfl ?_; intro K hK
    go_wp2_with (first | (go_at_call 83; refine (isName_any n x _ _ hn.1 hn.2).mono ?_; rw [hnm]; rintro e w2 ⟨rfl, hE2⟩))
    have hE2 := hE1.trans hE2
    refine hK _ _ hE2 ?_
    repeat (first | (refine plan_take (v := ?_) rfl rfl (fun W hW => ?_) ?_; rotate_left; (focus (skip; go_simp; first | exact rfl | (split <;> first | exact rfl | (exfalso; omega)) | done)); simp only [Act.put, List.setIfInBounds_toArray, List.set_cons_zero, List.set_cons_succ]) | (refine plan_skip rfl rfl ?_; simp only [Act.put, List.setIfInBounds_toArray, List.set_cons_zero, List.set_cons_succ]))
    refine plan_walk rfl ?_; intro K hK
    go_wp2_with (first | (go_at_call 82; refine (orError_bad n _ _).mono ?_; rintro e w3 ⟨rfl, hE3⟩))
    have hE3 := hE2.trans hE3
    refine hK _ _ hE3 ?_
    repeat (first | (refine plan_take (v := ?_) rfl rfl (fun W hW => ?_) ?_; rotate_left; (focus (skip; go_simp; first | exact rfl | (split <;> first | exact rfl | (exfalso; omega)) | done)); simp only [Act.put, List.setIfInBounds_toArray, List.set_cons_zero, List.set_cons_succ]) | (refine plan_skip rfl rfl ?_; simp only [Act.put, List.setIfInBounds_toArray, List.set_cons_zero, List.set_cons_succ]))
    refine plan_done ?_
    have q0 := cell_ext hE3 hq0
    have q1 := cell_ext hE3 hq1
    have f0 := (frozen_ext hE3 hsz0).trans hf0
    have f1 := (frozen_ext hE3 hsz0).trans hf1
    go_wp2
    refine bodyPost_ret (v := .tuple #[.agg #[.int .i64 0, .int .i64 0], .int .i64 2]) (results_cell42 rfl _ _ (w.heap.size + 1) _ _ _ (by simp) (by simp) (by go_simp) (by go_simp)) (by simp)
      ⟨rfl, ext_own (ext_own (he0.trans hE3) ((Turned.refl (w.heap.size + 1) _).set 0 _) (by omega)) ((Turned.refl (w.heap.size + 1) _).set 1 _) (by omega)⟩

/-- The first steps of Places: its board's box, its result. -/
structure Px (n : Nat) (ss : List (List Nat)) (oa : Option Addr) (cap : Nat) (w W : World) : Prop where
  bx : Bx n ss oa cap w W
  q0 : W.cell? ⟨w.heap.size + 1, 0, none⟩ = some (.int .i64 0)
  q1 : W.cell? ⟨w.heap.size + 1, 1, none⟩ = some (.int .i64 0)
  f0 : W.frozen? ⟨w.heap.size + 1, 0, none⟩ = false
  f1 : W.frozen? ⟨w.heap.size + 1, 1, none⟩ = false
  lt : w.heap.size + 1 < W.heap.size
theorem Px.start {n : Nat} {ss : List (List Nat)} {oa : Option Addr} {cap : Nat} {w : World} (h : RowsAt w oa (upp ss)) : Px n ss oa cap w ((w.alloc (.cells #[.int .i64 n, .slice oa ss.length cap] 24)).alloc (.cells #[.int .i64 0, .int .i64 0] 42)) :=
  ⟨(Bx.start h).next ((Ext.refl _).alloc _), by go_simp, by go_simp, by go_simp, by go_simp, by simp⟩
theorem Px.next {n : Nat} {ss : List (List Nat)} {oa : Option Addr} {cap : Nat} {w W W' : World} (h : Px n ss oa cap w W) (hE : Ext W W') : Px n ss oa cap w W' :=
  ⟨h.bx.next hE, cell_ext hE h.q0, cell_ext hE h.q1, (frozen_ext hE h.lt).trans h.f0, (frozen_ext hE h.lt).trans h.f1, Nat.lt_of_lt_of_le h.lt hE.size⟩
theorem Px.drew {n : Nat} {ss : List (List Nat)} {oa : Option Addr} {cap : Nat} {w W : World} (h : Px n ss oa cap w W) : Px n ss oa cap w W.drew := h.next (Ext.refl W).drew
theorem Px.board {n : Nat} {ss : List (List Nat)} {oa : Option Addr} {cap : Nat} {w W : World} (h : Px n ss oa cap w W) (g : Good n ss) :
    Calls Tryz.prog 73 #[.agg #[.int .i64 n, .slice oa ss.length cap]] W fun e w' => e = .returned (.bool true) ∧ Px n ss oa cap w w' := by
  have := isBoard_any n (upp ss) oa cap W h.bx.rows (by rw [upp_length]; have := g.len; omega)
  rw [g.isB, upp_length] at this
  exact this.mono fun e w' ⟨h1, h2⟩ => ⟨h1, h.next h2⟩
theorem Px.orErr {n : Nat} {ss : List (List Nat)} {oa : Option Addr} {cap : Nat} {w W : World} (h : Px n ss oa cap w W) (g : Good n ss) :
    Calls Tryz.prog 82 #[.agg #[.int .i64 n, .slice oa ss.length cap], .bool true] W fun e w' => e = .returned (.tuple #[.int .i64 (cnt n ss : Nat), .int .i64 (if cnt n ss = 0 then 7 else 0)]) ∧ Px n ss oa cap w w' :=
  (orError_any n ss oa cap W h.bx.rows (by have := g.len; omega) g.le g.valid).mono fun e w' ⟨h1, h2⟩ => ⟨h1, h.next h2⟩
theorem Px.open {n : Nat} {ss : List (List Nat)} {oa : Option Addr} {cap : Nat} {w W : World} (h : Px n ss oa cap w W) (g : Good n ss) (hc : cyc n ss = false) :
    Calls Tryz.prog 76 #[.agg #[.int .i64 n, .slice oa ss.length cap]] W fun e w' => e = .returned (.agg (tcells n (.slice oa ss.length cap) (tab n ss))) ∧ Px n ss oa cap w w' :=
  (open_any n ss oa cap W h.bx.rows (by have := g.len; omega) g.le g.valid).mono fun e w' ⟨h1, h2⟩ => ⟨by rw [if_neg (by rw [hc]; simp)] at h2; exact h2, h.next h1⟩
theorem Px.name {n : Nat} {ss : List (List Nat)} {oa : Option Addr} {cap : Nat} {w W : World} (h : Px n ss oa cap w W) (g : Good n ss) (s : Value) (x : Nat) (hx : x < n) :
    Calls Tryz.prog 83 #[.agg #[.int .i64 n, s], .int .i64 x] W fun e w' => e = .returned (.bool true) ∧ Px n ss oa cap w w' :=
  (isName_any n x s W (by omega) (by have := g.le; omega)).mono fun e w' ⟨h1, h2⟩ => ⟨by rw [h1]; congr 2; simp [inB]; omega, h.next h2⟩
theorem Px.done {n : Nat} {ss : List (List Nat)} {oa : Option Addr} {cap : Nat} {w W : World} (h : Px n ss oa cap w W) (x y : Value) : Ext w ((W.setCell ⟨w.heap.size + 1, 0, none⟩ x).setCell ⟨w.heap.size + 1, 1, none⟩ y) :=
  ext_own (ext_own h.bx.ext ((Turned.refl (w.heap.size + 1) _).set 0 _) (by omega)) ((Turned.refl (w.heap.size + 1) _).set 1 _) (by omega)

set_option maxRecDepth 100000 in
set_option maxHeartbeats 1000000 in
theorem places_none (n : Nat) (ss : List (List Nat)) (oa : Option Addr) (cap : Nat) (x : Nat) (w : World) (h : RowsAt w oa (upp ss)) (g : Good n ss) (hx : x < n) (h0 : cnt n ss = 0) :
    Calls Tryz.prog 34 #[.agg #[.int .i64 n, .slice oa ss.length cap], .int .i64 x] w fun e w' => e = .returned (.tuple #[.agg #[.int .i64 0, .int .i64 0], .int .i64 7]) ∧ Ext w w' := by
  have p0 := Lib.hid (Px.start (n := n) (cap := cap) h)
  have G := Lib.hid g
  clear h g
  go_enter Tryz.func34, Tryz.ntmps34
  go_wp2_with fail
  refine wp_region_plan (.take 0 <| .take 1 <| .only 2 <| .take 3 <| .take 4 <| .take 5 <| .only 6 <| .take 7 <| .only 8 <| .take 9 <| .take 10 <| .take 11 <| .take 12 <| .take 13 <| .done) (fun W => Px n ss oa cap w W) mixed (by kernel_rfl) (by kernel_rfl) rfl (fun _ _ d _ _ h => by cases d <;> exact h) (p0.out.drew) ?_
  repeat (first | (refine plan_take (v := ?_) rfl rfl (fun W hW => ?_) ?_; rotate_left; (focus (have dc0 := hW.bx.c0; have dc1 := hW.bx.c1; go_simp; first | exact rfl | (split <;> first | exact rfl | (exfalso; omega)) | done)); simp only [Act.put, List.setIfInBounds_toArray, List.set_cons_zero, List.set_cons_succ]) | (refine plan_skip rfl rfl ?_; simp only [Act.put, List.setIfInBounds_toArray, List.set_cons_zero, List.set_cons_succ]))
  refine plan_walk rfl ?_; intro K hK
  go_wp2_with (first | (go_at_call 73; refine (p0.out.drew.board G.out).mono ?_; rintro e w1 ⟨rfl, p1⟩))
  refine hK _ _ p1 ?_
  repeat (first | (refine plan_take (v := ?_) rfl rfl (fun W hW => ?_) ?_; rotate_left; (focus (have dc0 := hW.bx.c0; have dc1 := hW.bx.c1; go_simp; first | exact rfl | (split <;> first | exact rfl | (exfalso; omega)) | done)); simp only [Act.put, List.setIfInBounds_toArray, List.set_cons_zero, List.set_cons_succ]) | (refine plan_skip rfl rfl ?_; simp only [Act.put, List.setIfInBounds_toArray, List.set_cons_zero, List.set_cons_succ]))
  refine plan_walk rfl ?_; intro K hK
  go_wp2_with (first | (go_at_call 83; refine (p1.name G.out _ x hx).mono ?_; rintro e w2 ⟨rfl, p2⟩))
  refine hK _ _ p2 ?_
  repeat (first | (refine plan_take (v := ?_) rfl rfl (fun W hW => ?_) ?_; rotate_left; (focus (skip; go_simp; first | exact rfl | (split <;> first | exact rfl | (exfalso; omega)) | done)); simp only [Act.put, List.setIfInBounds_toArray, List.set_cons_zero, List.set_cons_succ]) | (refine plan_skip rfl rfl ?_; simp only [Act.put, List.setIfInBounds_toArray, List.set_cons_zero, List.set_cons_succ]))
  refine plan_walk rfl ?_; intro K hK
  go_wp2_with (first | (go_at_call 82; refine (p2.orErr G.out).mono ?_; rw [h0]; rintro e w3 ⟨rfl, p3⟩))
  refine hK _ _ p3 ?_
  repeat (first | (refine plan_take (v := ?_) rfl rfl (fun W hW => ?_) ?_; rotate_left; (focus (skip; go_simp; first | exact rfl | (split <;> first | exact rfl | (exfalso; omega)) | done)); simp only [Act.put, List.setIfInBounds_toArray, List.set_cons_zero, List.set_cons_succ]) | (refine plan_skip rfl rfl ?_; simp only [Act.put, List.setIfInBounds_toArray, List.set_cons_zero, List.set_cons_succ]))
  refine plan_done ?_
  have q0 := p3.q0
  have q1 := p3.q1
  have f0 := p3.f0
  have f1 := p3.f1
  go_wp2
  refine bodyPost_ret (v := .tuple #[.agg #[.int .i64 0, .int .i64 0], .int .i64 7]) (results_cell42 rfl _ _ (w.heap.size + 1) _ _ _ (by simp) (by simp) (by go_simp) (by go_simp)) (by simp) ⟨rfl, p3.done _ _⟩

set_option maxRecDepth 100000 in
set_option maxHeartbeats 1000000 in
theorem places_any (n : Nat) (ss : List (List Nat)) (oa : Option Addr) (cap : Nat) (x : Nat) (w : World) (h : RowsAt w oa (upp ss)) (g : Good n ss) (hx : x < n) (h0 : ¬ cnt n ss = 0) :
    Calls Tryz.prog 34 #[.agg #[.int .i64 n, .slice oa ss.length cap], .int .i64 x] w fun e w' =>
      e = .returned (.tuple #[.agg #[.int .i64 (befores (tab n ss) x n : Nat), .int .i64 ((n : Int) - 1 - (behinds (tab n ss) x n : Nat))], .int .i64 0]) ∧ Ext w w' := by
  have Hcy := Lib.hid (cyc_of_cnt h0)
  have hn6 := g.le
  have o86 : (Value.func (Fn.func 86) #[] #[]).oneCell' = true := rfl
  have o87 : (Value.func (Fn.func 87) #[] #[]).oneCell' = true := rfl
  have p0 := Lib.hid (Px.start (n := n) (cap := cap) h)
  have G := Lib.hid g
  clear h g
  go_enter Tryz.func34, Tryz.ntmps34
  go_wp2_with fail
  refine wp_region_plan (.take 0 <| .take 1 <| .only 2 <| .take 3 <| .take 4 <| .take 5 <| .only 6 <| .take 7 <| .only 8 <| .take 9 <| .take 10 <| .take 11 <| .take 12 <| .take 13 <| .done) (fun W => Px n ss oa cap w W) mixed (by kernel_rfl) (by kernel_rfl) rfl (fun _ _ d _ _ h => by cases d <;> exact h) (p0.out.drew) ?_
  repeat (first | (refine plan_take (v := ?_) rfl rfl (fun W hW => ?_) ?_; rotate_left; (focus (have dc0 := hW.bx.c0; have dc1 := hW.bx.c1; go_simp; first | exact rfl | (split <;> first | exact rfl | (exfalso; omega)) | done)); simp only [Act.put, List.setIfInBounds_toArray, List.set_cons_zero, List.set_cons_succ]) | (refine plan_skip rfl rfl ?_; simp only [Act.put, List.setIfInBounds_toArray, List.set_cons_zero, List.set_cons_succ]))
  refine plan_walk rfl ?_; intro K hK
  go_wp2_with (first | (go_at_call 73; refine (p0.out.drew.board G.out).mono ?_; rintro e w1 ⟨rfl, p1⟩))
  refine hK _ _ p1 ?_
  repeat (first | (refine plan_take (v := ?_) rfl rfl (fun W hW => ?_) ?_; rotate_left; (focus (have dc0 := hW.bx.c0; have dc1 := hW.bx.c1; go_simp; first | exact rfl | (split <;> first | exact rfl | (exfalso; omega)) | done)); simp only [Act.put, List.setIfInBounds_toArray, List.set_cons_zero, List.set_cons_succ]) | (refine plan_skip rfl rfl ?_; simp only [Act.put, List.setIfInBounds_toArray, List.set_cons_zero, List.set_cons_succ]))
  refine plan_walk rfl ?_; intro K hK
  go_wp2_with (first | (go_at_call 83; refine (p1.name G.out _ x hx).mono ?_; rintro e w2 ⟨rfl, p2⟩))
  refine hK _ _ p2 ?_
  repeat (first | (refine plan_take (v := ?_) rfl rfl (fun W hW => ?_) ?_; rotate_left; (focus (skip; go_simp; first | exact rfl | (split <;> first | exact rfl | (exfalso; omega)) | done)); simp only [Act.put, List.setIfInBounds_toArray, List.set_cons_zero, List.set_cons_succ]) | (refine plan_skip rfl rfl ?_; simp only [Act.put, List.setIfInBounds_toArray, List.set_cons_zero, List.set_cons_succ]))
  refine plan_walk rfl ?_; intro K hK
  go_wp2_with (first | (go_at_call 82; refine (p2.orErr G.out).mono ?_; rw [if_neg h0]; rintro e w3 ⟨rfl, p3⟩))
  refine hK _ _ p3 ?_
  repeat (first | (refine plan_take (v := ?_) rfl rfl (fun W hW => ?_) ?_; rotate_left; (focus (skip; go_simp; first | exact rfl | (split <;> first | exact rfl | (exfalso; omega)) | done)); simp only [Act.put, List.setIfInBounds_toArray, List.set_cons_zero, List.set_cons_succ]) | (refine plan_skip rfl rfl ?_; simp only [Act.put, List.setIfInBounds_toArray, List.set_cons_zero, List.set_cons_succ]))
  refine plan_done ?_
  have P3 := Lib.hid p3
  have c0 := p3.bx.c0
  have c1 := p3.bx.c1
  clear p1 p2 p3
  go_wp2_with (first | (go_at_call 76; refine (P3.out.open G.out Hcy.out).mono ?_; rintro e w4 ⟨rfl, p4⟩; have P4 := Lib.hid p4; clear c0 c1 p4) | (with_reducible refine wpList_alloc93 rfl rfl ?_) | ((with_reducible refine at_store93 _ _ rfl ?_); refine wpList_store93 rfl _ _ rfl w4.heap.size ?_ n (.slice oa ss.length cap) (slice_one _ _ _) (tab n ss) ?_ T0 (heap_alloc_new _ _) T0_size ?_; (focus (go_simp; done)); (focus (go_simp; done)); intro w5 hT hg hss; clear hss; have HT := Lib.hid hT; have hE5 : Ext w4 w5 := ext_own ((Ext.refl w4).alloc _) hg (Nat.le_refl _); have P5 := Lib.hid (P4.out.next hE5); have hs5 : w4.heap.size < w5.heap.size := (by have := hg.size; simp at this; omega); clear hT hg hE5) | ((with_reducible refine at_store103 _ _ rfl ?_); refine wpList_store103 rfl _ _ rfl w5.heap.size ?_ #[.func (.func 86) #[] #[], .func (.func 87) #[] #[]] ?_ rfl (by simp [Value.oneCell']) #[.nilFunc, .nilFunc] (heap_alloc_new _ _) rfl ?_; (focus (go_simp; done)); (focus (go_simp; done)); intro w6 hT6 hg6; have hE6 : Ext w5 w6 := ext_own ((Ext.refl w5).alloc _) hg6 (Nat.le_refl _); have P6 := Lib.hid (P5.out.next hE6); have HT6 := Lib.hid ((hE6.block _ hs5).trans HT.out); have e0 := cell_of_row _ _ 0 _ _ _ hT6; have e1 := cell_of_row _ _ 1 _ _ _ hT6; clear hT6 hg6 hE6 hs5))
  have hne5 : w5.heap.size ≠ w.heap.size + 1 := by have := P5.out.lt; omega
  have hne4 : w4.heap.size ≠ w.heap.size + 1 := by have := P4.out.lt; omega
  refine wp_region_plan (.take 0 <| .take 1 <| .take 2 <| .take 3 <| .take 5 <| .take 6 <| .take 7 <| .take 8 <| .only 4 <| .only 9 <| .take 10 <| .only 11 <| .take 12 <| .done) (fun W => Turned (w.heap.size + 1) w6 W) mixed (by kernel_rfl) (by kernel_rfl) rfl (fun _ _ d _ _ h => by cases d <;> exact h) (.of_ext (Ext.refl w6).drew) ?_
  repeat (first | (refine plan_take (v := ?_) rfl rfl (fun W hW => ?_) ?_; rotate_left; (focus (have d0 := hW.cell hne5 e0; have d1 := hW.cell hne5 e1; go_simp; first | exact rfl | (split <;> first | exact rfl | (exfalso; omega)) | done)); simp only [Act.put, List.setIfInBounds_toArray, List.set_cons_zero, List.set_cons_succ]) | (refine plan_skip rfl rfl ?_; simp only [Act.put, List.setIfInBounds_toArray, List.set_cons_zero, List.set_cons_succ]))
  refine plan_take (v := .agg (tcells n (.slice oa ss.length cap) (tab n ss))) rfl rfl (fun W hW => run_load93 _ rfl w4.heap.size n (.slice oa ss.length cap) (tab n ss) rfl (hW.keep HT6.out hne4)) ?_
  simp only [Act.put, List.setIfInBounds_toArray, List.set_cons_zero, List.set_cons_succ]
  repeat (first | (refine plan_take (v := ?_) rfl rfl (fun W hW => ?_) ?_; rotate_left; (focus (have d0 := hW.cell hne5 e0; have d1 := hW.cell hne5 e1; go_simp; first | exact rfl | (split <;> first | exact rfl | (exfalso; omega)) | done)); simp only [Act.put, List.setIfInBounds_toArray, List.set_cons_zero, List.set_cons_succ]) | (refine plan_skip rfl rfl ?_; simp only [Act.put, List.setIfInBounds_toArray, List.set_cons_zero, List.set_cons_succ]))
  refine plan_take (v := .agg (tcells n (.slice oa ss.length cap) (tab n ss))) rfl rfl (fun W hW => run_load93 _ rfl w4.heap.size n (.slice oa ss.length cap) (tab n ss) rfl (hW.keep HT6.out hne4)) ?_
  simp only [Act.put, List.setIfInBounds_toArray, List.set_cons_zero, List.set_cons_succ]
  repeat (first | (refine plan_take (v := ?_) rfl rfl (fun W hW => ?_) ?_; rotate_left; (focus (skip; go_simp; first | exact rfl | (split <;> first | exact rfl | (exfalso; omega)) | done)); simp only [Act.put, List.setIfInBounds_toArray, List.set_cons_zero, List.set_cons_succ]) | (refine plan_skip rfl rfl ?_; simp only [Act.put, List.setIfInBounds_toArray, List.set_cons_zero, List.set_cons_succ]))
  clear e0 e1
  refine plan_walk rfl ?_; intro K hK
  go_wp2_with (first | (go_at_call 86; refine (least_any n _ (tab n ss) x hx hn6 _).mono ?_; rintro e w7 ⟨rfl, hE7⟩))
  have hE7 := (Ext.refl w6).drew.trans hE7
  refine hK _ _ (.of_ext hE7) ?_
  refine plan_walk rfl ?_; intro K hK
  go_wp2_with (first | (go_at_call 87; refine (greatest_any n _ (tab n ss) x hx hn6 _).mono ?_; rintro e w8 ⟨rfl, hE8⟩))
  have hE8 := hE7.trans hE8
  refine hK _ _ (.of_ext hE8) ?_
  repeat (first | (refine plan_take (v := ?_) rfl rfl (fun W hW => ?_) ?_; rotate_left; (focus (skip; go_simp; first | exact rfl | (split <;> first | exact rfl | (exfalso; omega)) | done)); simp only [Act.put, List.setIfInBounds_toArray, List.set_cons_zero, List.set_cons_succ]) | (refine plan_skip rfl rfl ?_; simp only [Act.put, List.setIfInBounds_toArray, List.set_cons_zero, List.set_cons_succ]))
  have P8 := Lib.hid (P6.out.next hE8)
  have q0 := P8.out.q0
  have q1 := P8.out.q1
  have f0 := P8.out.f0
  have f1 := P8.out.f1
  refine plan_walk rfl ?_; intro K hK
  go_wp2
  refine hK _ _ (((Turned.of_ext hE8).set 0 _).set 1 _) ?_
  repeat (first | (refine plan_take (v := ?_) rfl rfl (fun W hW => ?_) ?_; rotate_left; (focus (skip; go_simp; first | exact rfl | (split <;> first | exact rfl | (exfalso; omega)) | done)); simp only [Act.put, List.setIfInBounds_toArray, List.set_cons_zero, List.set_cons_succ]) | (refine plan_skip rfl rfl ?_; simp only [Act.put, List.setIfInBounds_toArray, List.set_cons_zero, List.set_cons_succ]))
  refine plan_done ?_
  go_wp2
  refine bodyPost_ret (v := .tuple #[.agg #[.int .i64 (befores (tab n ss) x n : Nat), .int .i64 ((n : Int) - 1 - (behinds (tab n ss) x n : Nat))], .int .i64 0]) (results_cell42 rfl _ _ (w.heap.size + 1) _ _ _ (by simp) (by simp) (by go_simp) (by go_simp)) (by simp) ⟨rfl, P8.out.done _ _⟩

end Go.Proofs.YtiehfpkcaoeieaaGreatDoor

/- A slice of the call's own whose elements are slices of numbers; append to it. Contract: picked. No condition. -/
namespace Go.Proofs.YtiehfpkcaoeieaaGreatDoor
open Go.RowKit Go.My Go.StripM

/-- A row of numbers that no slice of the call's own (from base on) shares a block with. -/
def RowE (w : World) (base : Nat) (u : Value) (l : List Int) : Prop :=
  ∃ oa cap, u = .slice oa l.length cap ∧ l.length ≤ cap ∧ cap ≤ maxLen ∧ (oa = none → cap = 0) ∧
    ∀ (i : Nat) (x : Int), l[i]? = some x → ∃ b off, oa = some ⟨b, off, none⟩ ∧ (b < base ∨ ∃ arr fr, w.heap[b]? = some (.cells arr 3 fr)) ∧ b < w.heap.size ∧ w.cell? ⟨b, off + i, none⟩ = some (.int .i64 x)

theorem RowE.ints {w : World} {base : Nat} {u : Value} {l : List Int} (h : RowE w base u l) : IsInts w u l := by
  obtain ⟨oa, cap, h1, h2, h3, h4, h5⟩ := h
  exact ⟨oa, cap, h1, h2, h3, h4, fun i x hx => by obtain ⟨b, off, k1, _, k2, k3⟩ := h5 i x hx; exact ⟨b, off, k1, k2, k3⟩⟩
theorem RowE.one {w : World} {base : Nat} {u : Value} {l : List Int} (h : RowE w base u l) : u.oneCell' = true := isInts_one h.ints
theorem RowE.ext {w w' : World} {base : Nat} {u : Value} {l : List Int} (h : RowE w base u l) (hE : Ext w w') : RowE w' base u l := by
  obtain ⟨oa, cap, h1, h2, h3, h4, h5⟩ := h
  refine ⟨oa, cap, h1, h2, h3, h4, fun i x hx => ?_⟩
  obtain ⟨b, off, k1, k2, k3, k4⟩ := h5 i x hx
  exact ⟨b, off, k1, k2.imp id (fun ⟨arr, fr, k⟩ => ⟨arr, fr, (hE.block b k3).trans k⟩), Nat.lt_of_lt_of_le k3 hE.size, cell_ext hE k4⟩
theorem RowE.of_below {w W : World} {base : Nat} {u : Value} {l : List Int} (h : IsInts w u l) (hE : Ext w W) (hb : w.heap.size ≤ base) : RowE W base u l := by
  obtain ⟨oa, cap, h1, h2, h3, h4, h5⟩ := h
  refine ⟨oa, cap, h1, h2, h3, h4, fun i x hx => ?_⟩
  obtain ⟨b, off, k1, k2, k3⟩ := h5 i x hx
  exact ⟨b, off, k1, .inl (Nat.lt_of_lt_of_le k2 hb), Nat.lt_of_lt_of_le k2 hE.size, cell_ext hE k3⟩
theorem RowE.of_own {w : World} {B base : Nat} {v : Value} {l : List Int} (h : Own w B 3 v (l.map (Value.int .i64))) : RowE w base v l := by
  obtain ⟨h1, h2⟩ := h
  rcases h2 with ⟨rfl, h2⟩ | ⟨g, cap, cur, rfl, hb, hg, hn, hc, hs, ht⟩
  · have : l = [] := by simpa using h2
    subst this
    exact ⟨none, 0, rfl, Nat.le_refl _, by simp [maxLen], fun _ => rfl, fun i x hx => by simp at hx⟩
  · rw [List.length_map] at hn
    refine ⟨_, cap, by rw [List.length_map], hn, hc, (fun h => by cases h), fun i x hx => ⟨g, 0, rfl, .inr ⟨cur, _, hg⟩, (Array.getElem?_eq_some_iff.1 hg).1, ?_⟩⟩
    have hx' : (l.map (Value.int .i64))[i]? = some (.int .i64 x) := by simp [hx]
    rw [← ht, List.getElem?_take] at hx'
    split at hx'
    · rw [cell_of_row w g (0 + i) cur 3 (0, 0) hg]; simpa using hx'
    · cases hx'
theorem RowE.grown {w w' : World} {B base : Nat} {u v : Value} {l : List Int} {xs : List Value} (h : RowE w B u l) (hB : B ≤ base) (ho : Own w base 27 v xs) (hg : w.grownBy w' v.ownBlock) : RowE w' B u l := by
  obtain ⟨oa, cap, h1, h2, h3, h4, h5⟩ := h
  refine ⟨oa, cap, h1, h2, h3, h4, fun i x hx => ?_⟩
  obtain ⟨b, off, k1, k2, k3, k4⟩ := h5 i x hx
  have hne : some b ≠ v.ownBlock := by
    rcases ho.2 with ⟨rfl, _⟩ | ⟨g, cap, cur, rfl, hb, hgg, _⟩
    · simp [Value.ownBlock]
    · simp only [Value.ownBlock, ne_eq, Option.some.injEq]
      intro e
      subst e
      rcases k2 with k2 | ⟨arr, fr, k2⟩
      · omega
      · rw [hgg] at k2; simp at k2
  have hblk := hg.block b k3 hne
  exact ⟨b, off, k1, k2.imp id (fun ⟨arr, fr, k⟩ => ⟨arr, fr, hblk.trans k⟩), Nat.lt_of_lt_of_le k3 hg.size, (World.cell?_of_block hblk).trans k4⟩

/-- A slice of the call's own (from base on) whose elements are these rows (below B, or rows of numbers). -/
def OwnR (w : World) (B base : Nat) (v : Value) (ss : List (List Nat)) : Prop :=
  B ≤ base ∧ ∃ xs, Own w base 27 v xs ∧ xs.length = ss.length ∧ ∀ (i : Nat) (s : List Nat), ss[i]? = some s → ∃ u, xs[i]? = some u ∧ RowE w B u (up s)
theorem OwnR.nil (w : World) {B base : Nat} (h : B ≤ base) : OwnR w B base (.slice none 0 0) [] := ⟨h, [], Own.nil _ _ _, rfl, fun i s h => by simp at h⟩
theorem OwnR.ext {w w' : World} {B base : Nat} {v : Value} {ss : List (List Nat)} (h : OwnR w B base v ss) (hE : Ext w w') : OwnR w' B base v ss := by
  obtain ⟨h0, xs, h1, h2, h3⟩ := h
  exact ⟨h0, xs, h1.ext hE, h2, fun i s hs => by obtain ⟨u, k1, k2⟩ := h3 i s hs; exact ⟨u, k1, k2.ext hE⟩⟩
theorem OwnR.rows {w : World} {B base : Nat} {v : Value} {ss : List (List Nat)} (h : OwnR w B base v ss) : IsRows w v (upp ss) := by
  obtain ⟨_, xs, h1, h2, h3⟩ := h
  refine rows_of_own h1 (by rw [upp_length, h2]) fun i l hl => ?_
  simp only [upp, List.getElem?_map, Option.map_eq_some_iff] at hl
  obtain ⟨s, hs, rfl⟩ := hl
  obtain ⟨u, k1, k2⟩ := h3 i s hs
  exact ⟨u, k1, k2.ints⟩
theorem OwnR.slice {w : World} {B base : Nat} {v : Value} {ss : List (List Nat)} (h : OwnR w B base v ss) : ∃ oa cap, v = .slice oa ss.length cap ∧ ss.length ≤ cap ∧ cap ≤ maxLen ∧ (oa = none → cap = 0) ∧ RowsAt w oa (upp ss) := by
  obtain ⟨oa, cap, h1, h2, h3, h4, h5⟩ := h.rows
  rw [upp_length] at h1 h2
  exact ⟨oa, cap, h1, h2, h3, h4, h5⟩
theorem RowE.turned {w w' : World} {B i : Nat} {u : Value} {l : List Int} (h : RowE w B u l) (hT : Turned i w w') (hi : B ≤ i) (ht : ∀ arr fr, w.heap[i]? ≠ some (.cells arr 3 fr)) : RowE w' B u l := by
  obtain ⟨oa, cap, h1, h2, h3, h4, h5⟩ := h
  refine ⟨oa, cap, h1, h2, h3, h4, fun j x hx => ?_⟩
  obtain ⟨b, off, k1, k2, k3, k4⟩ := h5 j x hx
  have hne : b ≠ i := by
    intro e
    subst e
    rcases k2 with k2 | ⟨arr, fr, k2⟩
    · omega
    · exact ht _ _ k2
  have hblk := hT.block b k3 (by simpa using hne)
  exact ⟨b, off, k1, k2.imp id (fun ⟨arr, fr, k⟩ => ⟨arr, fr, hblk.trans k⟩), Nat.lt_of_lt_of_le k3 hT.size, (World.cell?_of_block hblk).trans k4⟩
theorem OwnR.turned {w w' : World} {B base i : Nat} {v : Value} {ss : List (List Nat)} (h : OwnR w B base v ss) (hT : Turned i w w') (hi : B ≤ i) (hb : i < base) (ht : ∀ arr fr, w.heap[i]? ≠ some (.cells arr 3 fr)) : OwnR w' B base v ss := by
  obtain ⟨h0, xs, h1, h2, h3⟩ := h
  exact ⟨h0, xs, h1.turned hT hb, h2, fun j s hs => by obtain ⟨u, k1, k2⟩ := h3 j s hs; exact ⟨u, k1, k2.turned hT hi ht⟩⟩
/-- One's own box is written: what its block is made of stays. -/
theorem tag_set {w : World} {i : Nat} {t : TypeId} (h : ∃ c, w.heap[i]? = some (.cells c t (0, 0))) (hne : t ≠ 3) : ∀ arr fr, w.heap[i]? ≠ some (.cells arr 3 fr) := by
  obtain ⟨c, h⟩ := h
  intro arr fr' e
  rw [h] at e
  simp at e
  exact hne e.2.1
theorem tag_cell {w : World} {i j : Nat} {t : TypeId} (o : Nat) (v : Value) (h : ∃ c, w.heap[i]? = some (.cells c t (0, 0))) : ∃ c, (w.setCell ⟨j, o, none⟩ v).heap[i]? = some (.cells c t (0, 0)) := by
  obtain ⟨c, h⟩ := h
  by_cases e : i = j
  · subst e
    exact ⟨_, heap_setCell_same _ _ _ _ _ _ h⟩
  · exact ⟨c, (heap_setCell_other _ _ _ _ e).trans h⟩

theorem rows_e {w W : World} {oa : Option Addr} {ss : List (List Nat)} (h : RowsAt w oa (upp ss)) (hE : Ext w W) {k : Nat} (hk : k < ss.length) {base : Nat} (hb : w.heap.size ≤ base) :
    ∃ b off oa' cap', oa = some ⟨b, off, none⟩ ∧ W.cell? ⟨b, off + k, none⟩ = some (.slice oa' ss[k].length cap') ∧ ss[k].length ≤ cap' ∧ cap' ≤ maxLen ∧ RowE W base (.slice oa' ss[k].length cap') (up ss[k]) := by
  obtain ⟨b, off, oa', cap', h1, _, h3, h4, h5, h6, h7⟩ := rows_up h hk
  exact ⟨b, off, oa', cap', h1, cell_ext hE h3, h4, h5, RowE.of_below (w := w) ⟨oa', cap', by rw [up_length], by rw [up_length]; exact h4, h5, h6, h7⟩ hE hb⟩

/-- append of one row. -/
theorem wpList_appR (w : World) {ops : Array Oper} {rest : List Oper} {o : Oper} {a : Act} {Q : Exit → Act → World → Prop} (hgd : o.guard = none) (s x : Operand)
    (ho : o.op = .call { callee := .builtin .append, args := #[s, x], argTypes := #[22, 22] }) (B base : Nat) (v : Value) (ss : List (List Nat)) (hs : a.eval s = v)
    (hown : OwnR w B base v ss) (b : Nat) (u : Value) (l : List Nat) (hx : a.eval x = .slice (some ⟨b, 0, none⟩) 1 1) (hc : w.cell? ⟨b, 0, none⟩ = some u) (hu : RowE w B u (up l))
    (hl : ss.length < 1000000000) (hbase : base ≤ w.heap.size)
    (h : ∀ v' w', OwnR w' B base v' (ss ++ [l]) → Below base w w' → wpList Tryz.prog ops Q rest (a.put o.dst v') w') : wpList Tryz.prog ops Q (o :: rest) a w := by
  obtain ⟨hB, xs, h1, h2, h3⟩ := hown
  refine wpList_app1 w hgd s x 22 ho 27 Tryz.underlying22 (.slice none 0 0) 24 i27 rfl (by decide) base v xs hs h1 b u hx hc hu.one (by omega) hbase ?_
  intro v' w' k1 k2 k3
  refine h v' w' ⟨hB, xs ++ [u], k1, by simp [h2], fun i s' hs' => ?_⟩ k2
  by_cases hi : i < ss.length
  · rw [List.getElem?_append_left hi] at hs'
    obtain ⟨u', e1, e2⟩ := h3 i s' hs'
    exact ⟨u', by rw [List.getElem?_append_left (by omega)]; exact e1, e2.grown hB h1 k3⟩
  · rw [List.getElem?_append_right (by omega)] at hs'
    have h0 : i - ss.length = 0 := by
      have := (List.getElem?_eq_some_iff.1 hs').1
      simp at this; omega
    rw [h0] at hs'
    simp at hs'
    subst hs'
    exact ⟨u, by rw [List.getElem?_append_right (by omega), h2, h0]; rfl, hu.grown hB h1 k3⟩

/-- The spots that are in a list, or not. -/
def pickTo (ss : List (List Nat)) (l : List Nat) (is : Bool) (k : Nat) : List (List Nat) := ((List.range k).filter fun i => decide (i ∈ l) == is).map fun i => ss.getD i []
theorem pickTo_succ (ss : List (List Nat)) (l : List Nat) (is : Bool) (k : Nat) (hk : k < ss.length) : pickTo ss l is (k + 1) = if (decide (k ∈ l) == is) = true then pickTo ss l is k ++ [ss[k]] else pickTo ss l is k := by
  unfold pickTo
  rw [List.range_succ, List.filter_append, List.map_append]
  have : ss.getD k [] = ss[k] := by simp [List.getD, hk]
  have e : [k].filter (fun i => decide (i ∈ l) == is) = if (decide (k ∈ l) == is) = true then [k] else [] := List.filter_cons
  rw [e]
  split
  · rw [List.map_singleton, this]
  · rw [List.map_nil, List.append_nil]
theorem pickTo_len (ss : List (List Nat)) (l : List Nat) (is : Bool) (k : Nat) : (pickTo ss l is k).length ≤ k := by
  unfold pickTo
  rw [List.length_map]
  have := List.length_filter_le (fun i => decide (i ∈ l) == is) (List.range k); simpa using this
theorem mem_up {k : Nat} {l : List Nat} : decide ((k : Int) ∈ up l) = decide (k ∈ l) := by
  have : (k : Int) ∈ up l ↔ k ∈ l := by
    simp only [up, List.mem_map]
    exact ⟨fun ⟨a, h, e⟩ => by rw [Int.ofNat.inj e] at h; exact h, fun h => ⟨k, h, rfl⟩⟩
  simp only [this]

set_option maxRecDepth 100000 in
set_option maxHeartbeats 1000000 in
theorem picked_any (n : Nat) (ss : List (List Nat)) (oa : Option Addr) (cap : Nat) (l : List Nat) (ob : Option Addr) (cb : Nat) (is : Bool) (w : World) (h : RowsAt w oa (upp ss)) (hl : ss.length ≤ 1000) (hs : IntsAt w ob (up l)) (hll : l.length ≤ 1000) :
    Calls Tryz.prog 97 #[.agg #[.int .i64 n, .slice oa ss.length cap], .slice ob l.length cb, .bool is] w fun e w' =>
      ∃ oa' cap', e = .returned (.agg #[.int .i64 n, .slice oa' (pickTo ss l is ss.length).length cap']) ∧ (pickTo ss l is ss.length).length ≤ cap' ∧ (oa' = none → cap' = 0) ∧ RowsAt w' oa' (upp (pickTo ss l is ss.length)) ∧ Ext w w' := by
  have hE0 : Ext w ((w.alloc (.cells #[.int .i64 n, .slice oa ss.length cap] 24)).alloc (.cells #[.int .i64 0, .slice none 0 0] 24)) := ((Ext.refl w).alloc _).alloc _
  have H := Lib.hid h
  have Hs := Lib.hid hs
  clear h hs
  go_enter Tryz.func97, Tryz.ntmps97
  go_wp2
  go_loopg [7, 13] ss.length (fun g v i wr => ∃ k : Nat, k + g = ss.length ∧ i = .int .i64 k ∧ Ext ((w.alloc (.cells #[.int .i64 n, .slice oa ss.length cap] 24)).alloc (.cells #[.int .i64 0, .slice none 0 0] 24)) wr ∧ OwnR wr w.heap.size (w.heap.size + 2) v (pickTo ss l is k))
  case atStart => exact ⟨0, by simp, rfl, Ext.refl _, OwnR.nil _ (by omega)⟩
  case round =>
    obtain ⟨k, hk, rfl, hE, hown⟩ := hrel
    have Hown := Lib.hid hown; clear hown
    obtain ⟨wo, rfl⟩ : ∃ wo : World, wo = wr := ⟨_, rfl⟩
    have hEw := hE0.trans hE
    by_cases hlt : k < ss.length
    · obtain ⟨b, off, oa', cap', hoa, hc, h1, h2, hrow⟩ := rows_e H.out hEw hlt (base := w.heap.size) (Nat.le_refl _)
      have Hrow := Lib.hid hrow; clear hrow
      subst hoa
      have hps := pickTo_succ ss l is k hlt
      have hcont := contains_any (up l) ob l.length cb k wo (up_length l) (Hs.out.ext hEw) (by rw [up_length]; omega)
      rw [mem_up] at hcont
      cases hd : (decide (k ∈ l) == is)
      · rw [hd] at hps
        have Hps := Lib.hid hps; clear hps
        have Hcont := Lib.hid hcont; clear hcont
        go_wp2_with (first | (go_at_call 100; refine Hcont.out.mono ?_; rintro e w1 ⟨rfl, rfl⟩))
        go_roundg (gk - 1)
        case measure => omega
        case rel => exact ⟨k + 1, by omega, by go_num, hE, by rw [Hps.out]; simpa using Hown.out⟩
      · rw [hd, if_pos rfl] at hps
        have Hps := Lib.hid hps; clear hps
        have Hcont := Lib.hid hcont; clear hcont
        go_wp2_with (first | (go_at_call 100; refine Hcont.out.mono ?_; rintro e w1 ⟨rfl, rfl⟩) | (at_builtin; refine wpList_appR _ rfl _ _ rfl w.heap.size (w.heap.size + 2) _ (pickTo ss l is k) rfl (Hown.out.ext ((Ext.refl _).alloc _)) _ (.slice oa' ss[k].length cap') ss[k] rfl (by go_simp) (Hrow.out.ext ((Ext.refl _).alloc _)) ?_ ?_ ?_))
        · have := pickTo_len ss l is k; omega
        · have := hE.size; simp at this ⊢; omega
        · intro v' w2 hown2 hBl
          have Ho2 := Lib.hid hown2; clear hown2
          go_wp2
          go_roundg (gk - 1)
          case measure => omega
          case rel => exact ⟨k + 1, by omega, by go_num, (hE.alloc _).below hBl (by simp), by rw [Hps.out]; exact Ho2.out⟩
    · have hkk : k = ss.length := by omega
      have Hk := Lib.hid hkk; clear hkk
      have hsl := Hown.out
      rw [Hk.out] at hsl
      obtain ⟨oa3, cap3, hv3, e1, e2, e3, _⟩ := hsl.slice
      subst hv3
      have Hsl := Lib.hid hsl; clear hsl Hown
      have c0 : wo.cell? ⟨w.heap.size, 0, none⟩ = some (.int .i64 n) := cell_ext hE (by go_simp)
      have c1 : wo.cell? ⟨w.heap.size, 1, none⟩ = some (.slice oa ss.length cap) := cell_ext hE (by go_simp)
      have r0 : wo.cell? ⟨w.heap.size + 1, 0, none⟩ = some (.int .i64 0) := cell_ext hE (by go_simp)
      have r1 : wo.cell? ⟨w.heap.size + 1, 1, none⟩ = some (.slice none 0 0) := cell_ext hE (by go_simp)
      have f1 : wo.frozen? ⟨w.heap.size, 1, none⟩ = false := (hE.frozen (by simp <;> omega)).trans (by go_simp)
      have g0 : wo.frozen? ⟨w.heap.size + 1, 0, none⟩ = false := (hE.frozen (by simp <;> omega)).trans (by go_simp)
      have g1 : wo.frozen? ⟨w.heap.size + 1, 1, none⟩ = false := (hE.frozen (by simp <;> omega)).trans (by go_simp)
      have E3 := Lib.hid e3; clear e3
      go_wp2
      refine bodyPost_ret (v := .agg #[.int .i64 n, .slice oa3 (pickTo ss l is ss.length).length cap3]) (results_cell24 rfl _ _ (w.heap.size + 1) _ _ (by simp) (by go_simp) (by go_simp)) (by simp) ⟨oa3, cap3, rfl, e1, E3.out, ?_, ?_⟩
      · have tg0 : ∃ c, wo.heap[w.heap.size]? = some (.cells c 24 (0, 0)) := ⟨_, (hE.block w.heap.size (by simp <;> omega)).trans (by rw [Below.heap_alloc _ _ _ (by simp)]; exact heap_alloc_new w _)⟩
        have tg1 : ∃ c, wo.heap[w.heap.size + 1]? = some (.cells c 24 (0, 0)) := ⟨_, (hE.block (w.heap.size + 1) (by simp)).trans (by have := heap_alloc_new (w.alloc (.cells #[.int .i64 n, .slice oa ss.length cap] 24)) (.cells #[.int .i64 0, .slice none 0 0] 24); simpa only [World.size_alloc] using this)⟩
        have hh := ((Hsl.out.turned ((Turned.refl w.heap.size wo).set 1 (.slice oa3 (pickTo ss l is ss.length).length cap3)) (Nat.le_refl _) (by omega) (tag_set tg0 (by decide))).turned ((Turned.refl (w.heap.size + 1) _).set 0 (.int .i64 n)) (by omega) (by omega) (tag_set (tag_cell _ _ tg1) (by decide))).turned ((Turned.refl (w.heap.size + 1) _).set 1 (.slice oa3 (pickTo ss l is ss.length).length cap3)) (by omega) (by omega) (tag_set (tag_cell _ _ (tag_cell _ _ tg1)) (by decide))
        obtain ⟨oa4, cap4, hv4, _, _, _, hr4⟩ := hh.slice
        simp only [Value.slice.injEq] at hv4
        rw [← hv4.1] at hr4
        exact hr4
      · exact ext_own (ext_own (ext_own hEw ((Turned.refl w.heap.size _).set 1 _) (Nat.le_refl _)) ((Turned.refl (w.heap.size + 1) _).set 0 _) (by omega)) ((Turned.refl (w.heap.size + 1) _).set 1 _) (by omega)

end Go.Proofs.YtiehfpkcaoeieaaGreatDoor
/- Contract: lists: all lists of spots, the shorter ones first. No condition beyond boards as defined. -/
namespace Go.Proofs.YtiehfpkcaoeieaaGreatDoor
open Go.RowKit Go.My Go.StripM

theorem rows_get {w : World} {oa : Option Addr} {ss : List (List Nat)} (h : RowsAt w oa (upp ss)) {k : Nat} {s : List Nat} (hs : ss[k]? = some s) :
    ∃ b off oa' cap', oa = some ⟨b, off, none⟩ ∧ b < w.heap.size ∧ w.cell? ⟨b, off + k, none⟩ = some (.slice oa' s.length cap') ∧ s.length ≤ cap' ∧ cap' ≤ maxLen ∧ (oa' = none → cap' = 0) ∧ IntsAt w oa' (up s) := by
  obtain ⟨hk, rfl⟩ := List.getElem?_eq_some_iff.1 hs
  exact rows_up h hk

theorem clone_ints {w : World} {oa : Option Addr} {l : List Nat} {cap : Nat} (h : IntsAt w oa (up l)) (hl : l.length ≤ 1000) (hn : oa = none → cap = 0) (hc : l.length ≤ cap) :
    Calls Tryz.prog 103 #[.slice oa l.length cap] w fun e w' => ∃ v, e = .returned v ∧ Own w' w.heap.size 3 v ((up l).map (Value.int .i64)) ∧ Ext w w' := by
  have hlen : ((up l).map (Value.int .i64)).length = l.length := by rw [List.length_map, up_length]
  have := clone_any ((up l).map (Value.int .i64)) oa cap w (fun ad i u he hu => by
    simp only [List.getElem?_map, Option.map_eq_some_iff] at hu
    obtain ⟨x, hx, rfl⟩ := hu
    obtain ⟨b, off, ho, _, hc⟩ := h i x hx
    rw [he] at ho
    cases ho
    rw [add_none]; exact hc) (fun u hu => by
    simp only [List.mem_map] at hu
    obtain ⟨x, _, rfl⟩ := hu
    rfl) (by omega) (fun he => by
    have := hn he
    exact ⟨List.eq_nil_of_length_eq_zero (by omega), this⟩)
  rwa [hlen] at this

theorem extTo_len (l : List Nat) (k : Nat) : (extTo l k).length ≤ k := by
  unfold extTo
  rw [List.length_map]
  have := List.length_filter_le (fun x => decide (fromOf l ≤ x)) (List.range k); simpa using this
theorem fromOf_nil : fromOf [] = 0 := rfl
theorem fromOf_snoc (l : List Nat) (x : Nat) : fromOf (l ++ [x]) = x + 1 := by simp [fromOf]
theorem up_snoc (l : List Nat) (x : Nat) : up (l ++ [x]) = up l ++ [(x : Int)] := by simp [up]

set_option maxRecDepth 100000 in
set_option maxHeartbeats 1000000 in
theorem lists_any (n : Int) (m : Nat) (oa : Option Addr) (cap : Nat) (w : World) (hm : m ≤ 6) (hcap : m ≤ cap) (hc2 : cap ≤ maxLen) :
    Calls Tryz.prog 95 #[.agg #[.int .i64 n, .slice oa m cap]] w fun e w' => ∃ v, e = .returned v ∧ OwnR w' w.heap.size (w.heap.size + 1) v (listsOf m) ∧ Ext w w' := by
  have hE1 : Ext w (w.alloc (.cells #[.int .i64 n, .slice oa m cap] 24)) := (Ext.refl w).alloc _
  have hE2 : Ext w ((w.alloc (.cells #[.int .i64 n, .slice oa m cap] 24)).alloc (.cells #[.slice none 0 0] 27)) := hE1.alloc _
  have hstart : OwnR ((w.alloc (.cells #[.int .i64 n, .slice oa m cap] 24)).alloc (.cells #[.slice none 0 0] 27)) w.heap.size (w.heap.size + 1) (.slice (some ⟨w.heap.size + 1, 0, none⟩) 1 1) (outQ m 0) := by
    refine ⟨by omega, [.slice none 0 0], ⟨rfl, .inr ⟨w.heap.size + 1, 1, #[.slice none 0 0], rfl, Nat.le_refl _, ?_, Nat.le_refl _, by decide, rfl, rfl⟩⟩, rfl, fun i s hs => ?_⟩
    · have := heap_alloc_new (w.alloc (.cells #[.int .i64 n, .slice oa m cap] 24)) (.cells #[.slice none 0 0] 27)
      simpa only [World.size_alloc] using this
    · match i, hs with
      | 0, hs => simp [outQ] at hs; subst hs; exact ⟨_, rfl, none, 0, rfl, Nat.le_refl _, by simp [maxLen], fun _ => rfl, fun i x hx => by simp [up] at hx⟩
  have Hst := Lib.hid hstart; clear hstart
  have Hq := Lib.hid (outQ_facts m hm)
  have hm64 : 2 ^ m ≤ 64 := Nat.pow_le_pow_right (n := 2) (by decide) hm
  go_enter Tryz.func95, Tryz.ntmps95
  go_wp2
  go_loopg [3, 4] (2 ^ m) (fun g v i wr => ∃ k : Nat, k + g = 2 ^ m ∧ i = .int .i64 k ∧ Ext (w.alloc (.cells #[.int .i64 n, .slice oa m cap] 24)) wr ∧ OwnR wr w.heap.size (w.heap.size + 1) v (outQ m k))
  case atStart => exact ⟨0, by simp, rfl, (Ext.refl _).alloc _, Hst.out⟩
  case round =>
    clear Hst
    obtain ⟨k, hk, rfl, hE, hown⟩ := hrel
    obtain ⟨oq, cq, hv, e1, e2, e3, e4⟩ := hown.slice
    subst hv
    have Hown := Lib.hid hown
    have Hrows := Lib.hid e4
    obtain ⟨f1, f2, f3, f4⟩ := Hq.out k (by omega)
    clear hown e4
    obtain ⟨wo, rfl⟩ : ∃ wo : World, wo = wr := ⟨_, rfl⟩
    obtain ⟨g0, rfl⟩ : ∃ g0 : Nat, g0 = gk := ⟨_, rfl⟩
    have c1 : wo.cell? ⟨w.heap.size, 1, none⟩ = some (.slice oa m cap) := cell_ext hE (by go_simp)
    by_cases hlt : k < 2 ^ m
    · have hkl := f2 hlt
      have hsome : (outQ m k)[k]? = some (outQ m k)[k] := by simp [hkl]
      obtain ⟨l, hl⟩ : ∃ l, l = (outQ m k)[k] := ⟨_, rfl⟩
      rw [← hl] at hsome
      have hmem : l ∈ outQ m k := hl ▸ List.getElem_mem hkl
      obtain ⟨hl6, hfm, hlm⟩ := f4 l hmem
      clear f2 f3 f4
      obtain ⟨b, off, ol, cl, hoq, hbl, hcl, hc1, hc2', hcn, hil⟩ := rows_get Hrows.out hsome
      subst hoq
      have Hil := Lib.hid hil; clear hil
      have hgetD : (outQ m k).getD k [] = l := by rw [List.getD, hsome]; rfl
      have hnext : outQ m (k + 1) = outQ m k ++ extTo l m := by rw [outQ, hgetD]
      have Hnext := Lib.hid hnext
      have Hlm := Lib.hid hlm
      have Hsome := Lib.hid hsome
      clear hnext hgetD hl hlm hsome
      rcases List.eq_nil_or_concat l with hnil | ⟨l', x, hcat⟩
      · have hfr : fromOf l = 0 := by rw [hnil]; rfl
        have Hfr := Lib.hid hfr; clear hfr
        have hl0 : l.length = 0 := by rw [hnil]; rfl
        rw [hl0] at hcl
        clear hnil
        go_wp2
        clear hl0
        go_loopg [3, 7] (m - fromOf l) (fun g v i wr => ∃ j : Nat, j + g = m ∧ fromOf l ≤ j ∧ i = .int .i64 j ∧ Ext (w.alloc (.cells #[.int .i64 n, .slice oa m cap] 24)) wr ∧ OwnR wr w.heap.size (w.heap.size + 1) v (outQ m k ++ extTo l j))
        case atStart => exact ⟨fromOf l, by omega, Nat.le_refl _, by rw [Hfr.out]; go_num, hE, by rw [extTo_from l _ (Nat.le_refl _), List.append_nil]; exact Hown.out⟩
        case round =>
          clear Hown Hrows Hil hbl hcl c1
          obtain ⟨j, hj, hfj, rfl, hEi, hown⟩ := hrel
          have hsome2 : (outQ m k ++ extTo l j)[k]? = some l := by rw [List.getElem?_append_left hkl]; exact Hsome.out
          have hlen3 : (outQ m k ++ extTo l j).length = (outQ m k).length + (extTo l j).length := List.length_append
          have hkl3 : k < (outQ m k ++ extTo l j).length := by omega
          have hbig3 : (outQ m k ++ extTo l j).length ≤ 1000 := by have := extTo_len l j; omega
          clear hlen3
          generalize hQ : outQ m k ++ extTo l j = Q at hown hsome2 hkl3 hbig3
          have HQ := Lib.hid hQ; clear hQ
          obtain ⟨oq2, cq2, hv2, d1, d2, d3, d4⟩ := hown.slice
          subst hv2
          have Hown := Lib.hid hown
          obtain ⟨b2, off2, ol2, cl2, hoq2, hbl2, hcl2, hc12, hc22, hcn2, hil2⟩ := rows_get d4 hsome2
          subst hoq2
          obtain ⟨wi, rfl⟩ : ∃ wi : World, wi = wr := ⟨_, rfl⟩
          have Hcl := Lib.hid (clone_ints hil2 (by omega) hcn2 hc12)
          clear hown d4 hil2 hsome2 hcn2
          have c1 : wi.cell? ⟨w.heap.size, 1, none⟩ = some (.slice oa m cap) := cell_ext hEi (by go_simp)
          by_cases hjm : j < m
          · have hext := extTo_succ l j hfj
            have Hext := Lib.hid hext; clear hext
            go_wp2_with (first | (go_at_call 103; refine Hcl.out.mono ?_; rintro e w5 ⟨v5, rfl, hown5, hE5⟩; have Hown5 := Lib.hid hown5; clear hown5) | (at_builtin; refine wpList_app1 _ rfl _ _ 27 rfl 3 Tryz.underlying27 (.int .i64 0) 8 i3 rfl (by decide) wi.heap.size _ _ rfl (Hown5.out.ext ((Ext.refl w5).alloc _)) w5.heap.size (.int .i64 j) rfl (by go_simp) rfl ?_ ?_ ?_))
            · simp [up]; omega
            · have := hE5.size; simp; omega
            · intro v6 w6 hown6 hBl6 _
              have hrow6 : RowE w6 w.heap.size v6 (up (l ++ [j])) := RowE.of_own (B := wi.heap.size) (by rw [up_snoc]; simpa using hown6)
              have hE6 : Ext wi w6 := (hE5.alloc (.cells #[.int .i64 j] 3)).below hBl6 (Nat.le_refl _)
              generalize hR : l ++ [j] = R at hrow6
              have HR := Lib.hid hR; clear hR
              obtain ⟨o6, c6, hv6, _⟩ := id hrow6
              subst hv6
              have Hrow6 := Lib.hid hrow6
              clear hown6 hBl6 hrow6
              go_wp2_with (first | (at_builtin; refine wpList_appR _ rfl _ _ rfl w.heap.size (w.heap.size + 1) _ Q rfl ((Hown.out.ext hE6).ext ((Ext.refl _).alloc _)) w6.heap.size (.slice o6 (up R).length c6) R rfl (by go_simp) (Hrow6.out.ext ((Ext.refl _).alloc _)) ?_ ?_ ?_))
              · omega
              · have := hEi.size; have := hE6.size; simp at *; omega
              · intro v7 w7 hown7 hBl7
                have Ho7 := Lib.hid hown7; clear hown7
                have hE7 : Ext (w.alloc (.cells #[.int .i64 n, .slice oa m cap] 24)) w7 := ((hEi.trans hE6).alloc _).below hBl7 (by simp)
                clear hBl7
                go_wp2
                go_roundg (gk - 1)
                case measure => omega
                case rel => exact ⟨j + 1, by omega, by omega, by go_num, hE7, by rw [Hext.out, ← List.append_assoc, HQ.out, HR.out]; exact Ho7.out⟩
          · have hjj : j = m := by omega
            have Hj := Lib.hid hjj; clear hjj
            go_wp2
            go_roundg (g0 - 1)
            case measure => omega
            case rel => exact ⟨k + 1, by omega, by go_num, hEi, by rw [Hnext.out, show extTo l m = extTo l j by rw [Hj.out], HQ.out]; exact Hown.out⟩
      · rw [List.concat_eq_append] at hcat
        have hfr : fromOf l = x + 1 := by rw [hcat, fromOf_snoc]
        have Hfr := Lib.hid hfr; clear hfr
        have hl1 : l.length = l'.length + 1 := by rw [hcat]; simp
        have hlast : ∃ bl offl, ol = some ⟨bl, offl, none⟩ ∧ wo.cell? ⟨bl, offl + l'.length, none⟩ = some (.int .i64 x) := by
          obtain ⟨bl, offl, h1, _, h2⟩ := Hil.out l'.length x (by rw [hcat, up_snoc, List.getElem?_append_right (by rw [up_length]; omega), up_length]; simp)
          exact ⟨bl, offl, h1, h2⟩
        obtain ⟨bl, offl, hol, hcx⟩ := hlast
        rw [hol, hl1] at hcl
        have hx5 : x < m := Hlm.out x (by rw [hcat]; simp)
        have hl1' : l'.length ≤ 6 := by omega
        clear hcat hol
        go_wp2
        clear hcx hl1
        go_loopg [3, 7] (m - fromOf l) (fun g v i wr => ∃ j : Nat, j + g = m ∧ fromOf l ≤ j ∧ i = .int .i64 j ∧ Ext (w.alloc (.cells #[.int .i64 n, .slice oa m cap] 24)) wr ∧ OwnR wr w.heap.size (w.heap.size + 1) v (outQ m k ++ extTo l j))
        case atStart => exact ⟨fromOf l, by omega, Nat.le_refl _, by rw [Hfr.out]; go_num, hE, by rw [extTo_from l _ (Nat.le_refl _), List.append_nil]; exact Hown.out⟩
        case round =>
          clear Hown Hrows Hil hbl hcl c1
          obtain ⟨j, hj, hfj, rfl, hEi, hown⟩ := hrel
          have hsome2 : (outQ m k ++ extTo l j)[k]? = some l := by rw [List.getElem?_append_left hkl]; exact Hsome.out
          have hlen3 : (outQ m k ++ extTo l j).length = (outQ m k).length + (extTo l j).length := List.length_append
          have hkl3 : k < (outQ m k ++ extTo l j).length := by omega
          have hbig3 : (outQ m k ++ extTo l j).length ≤ 1000 := by have := extTo_len l j; omega
          clear hlen3
          generalize hQ : outQ m k ++ extTo l j = Q at hown hsome2 hkl3 hbig3
          have HQ := Lib.hid hQ; clear hQ
          obtain ⟨oq2, cq2, hv2, d1, d2, d3, d4⟩ := hown.slice
          subst hv2
          have Hown := Lib.hid hown
          obtain ⟨b2, off2, ol2, cl2, hoq2, hbl2, hcl2, hc12, hc22, hcn2, hil2⟩ := rows_get d4 hsome2
          subst hoq2
          obtain ⟨wi, rfl⟩ : ∃ wi : World, wi = wr := ⟨_, rfl⟩
          have Hcl := Lib.hid (clone_ints hil2 (by omega) hcn2 hc12)
          clear hown d4 hil2 hsome2 hcn2
          have c1 : wi.cell? ⟨w.heap.size, 1, none⟩ = some (.slice oa m cap) := cell_ext hEi (by go_simp)
          by_cases hjm : j < m
          · have hext := extTo_succ l j hfj
            have Hext := Lib.hid hext; clear hext
            go_wp2_with (first | (go_at_call 103; refine Hcl.out.mono ?_; rintro e w5 ⟨v5, rfl, hown5, hE5⟩; have Hown5 := Lib.hid hown5; clear hown5) | (at_builtin; refine wpList_app1 _ rfl _ _ 27 rfl 3 Tryz.underlying27 (.int .i64 0) 8 i3 rfl (by decide) wi.heap.size _ _ rfl (Hown5.out.ext ((Ext.refl w5).alloc _)) w5.heap.size (.int .i64 j) rfl (by go_simp) rfl ?_ ?_ ?_))
            · simp [up]; omega
            · have := hE5.size; simp; omega
            · intro v6 w6 hown6 hBl6 _
              have hrow6 : RowE w6 w.heap.size v6 (up (l ++ [j])) := RowE.of_own (B := wi.heap.size) (by rw [up_snoc]; simpa using hown6)
              have hE6 : Ext wi w6 := (hE5.alloc (.cells #[.int .i64 j] 3)).below hBl6 (Nat.le_refl _)
              generalize hR : l ++ [j] = R at hrow6
              have HR := Lib.hid hR; clear hR
              obtain ⟨o6, c6, hv6, _⟩ := id hrow6
              subst hv6
              have Hrow6 := Lib.hid hrow6
              clear hown6 hBl6 hrow6
              go_wp2_with (first | (at_builtin; refine wpList_appR _ rfl _ _ rfl w.heap.size (w.heap.size + 1) _ Q rfl ((Hown.out.ext hE6).ext ((Ext.refl _).alloc _)) w6.heap.size (.slice o6 (up R).length c6) R rfl (by go_simp) (Hrow6.out.ext ((Ext.refl _).alloc _)) ?_ ?_ ?_))
              · omega
              · have := hEi.size; have := hE6.size; simp at *; omega
              · intro v7 w7 hown7 hBl7
                have Ho7 := Lib.hid hown7; clear hown7
                have hE7 : Ext (w.alloc (.cells #[.int .i64 n, .slice oa m cap] 24)) w7 := ((hEi.trans hE6).alloc _).below hBl7 (by simp)
                clear hBl7
                go_wp2
                go_roundg (gk - 1)
                case measure => omega
                case rel => exact ⟨j + 1, by omega, by omega, by go_num, hE7, by rw [Hext.out, ← List.append_assoc, HQ.out, HR.out]; exact Ho7.out⟩
          · have hjj : j = m := by omega
            have Hj := Lib.hid hjj; clear hjj
            go_wp2
            go_roundg (g0 - 1)
            case measure => omega
            case rel => exact ⟨k + 1, by omega, by go_num, hEi, by rw [Hnext.out, show extTo l m = extTo l j by rw [Hj.out], HQ.out]; exact Hown.out⟩
    · have hkk : k = 2 ^ m := by omega
      have hlen := f3 hkk
      have Hkk := Lib.hid hkk; clear hkk f2 f3 f4
      have hlen2 : ((outQ m k).length : Int) = (k : Int) := by rw [hlen]
      go_wp2
      go_ret
      refine ⟨_, rfl, ?_, hE1.trans hE⟩
      have := Hown.out
      rw [Hkk.out] at this ⊢
      exact this

end Go.Proofs.YtiehfpkcaoeieaaGreatDoor
