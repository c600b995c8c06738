/- Contract: the best cuttings. No condition beyond jobs as defined. -/
import Derived.Test.YtdmegfbeibbmfaaLeaf16
import Derived.Test.YtdmegfbeibbmfaaG1
import Derived.Shelf.Abstract
set_option linter.unusedVariables false
set_option linter.unusedSimpArgs false
namespace Go.Proofs.Ytdmegfbeibbmfaa
open Go.RowKit Go.My Go.GoldM Go.Shelf
attribute [local go_sem] Oper.semAt_some

theorem i64 : (Try.prog.info? 64).map (fun i => (i.zero, i.size, i.bytes)) = some (some (.agg #[.slice none 0 0, .int .i64 0]), 2, 32) := by kernel_rfl
theorem is_cell0 (w : World) (x y : Value) (t : TypeId) : (w.alloc (.cells #[x, y] t)).cell? ⟨w.heap.size, 0, none⟩ = some x := by go_simp
theorem is_cell1 (w : World) (x y : Value) (t : TypeId) : (w.alloc (.cells #[x, y] t)).cell? ⟨w.heap.size, 1, none⟩ = some y := by go_simp
/-- A slice of cuttings, its head known. -/
def CutsV (W : World) (v : Value) (L : List (List Nat × Nat)) : Prop := ∃ B xs, W.ownsRow B 64 2 v L.length xs ∧ HeadAt W B (fun _ => False) L xs

theorem row_slice {W : World} {B sz n : Nat} {e : TypeId} {v : Value} {xs : List Value} (h : W.ownsRow B e sz v n xs) : ∃ o c, v = .slice o n c := by
  rcases h.2 with ⟨h1, h2⟩ | ⟨g, c, cur, h1, _⟩
  · exact ⟨none, 0, by rw [h1, h2]⟩
  · exact ⟨_, c, h1⟩


set_option maxRecDepth 100000 in
set_option maxHeartbeats 8000000 in
theorem best31 (j : Jb) (f : Fine j) (og oj : Option Addr) (cg cj bj : Nat) (w : World) (hbj : bj < w.heap.size) (hjb : VB w bj (jobL' j og cg oj cj)) (hp : PcsAt w oj j.pieces) :
    Calls Try.prog 31 #[.func (.func 52) #[] #[.pointer (some ⟨bj, 0, none⟩)], .func (.func 33) #[] #[]] w fun e w' => ∃ v, e = .returned v ∧ CutsV w' v (bests j) ∧ Ext w w' := by
  have hall := cuts_len j f.pl.2
  refine (callsIn_wide (n := 3)).1 (callsIn_of_wp_marks Try.func31 rfl trivial (wpIn_wide.2 ?_))
  simp only [Try.ntmps31, List.size_toArray, List.length_cons, List.length_nil, Nat.reduceAdd, Nat.reduceSub, Array.replicate_succ, Array.replicate_zero, List.push_toArray, List.append_toArray, List.nil_append, List.cons_append]
  go_wp2_with fail
  obtain ⟨wA, hwA⟩ : ∃ wA, wA = (w.alloc (.cells #[.func (.func 33) #[] #[]] 92)).alloc (.cells #[.slice none 0 0] 61) := ⟨_, rfl⟩
  have hXA : Ext w wA := by rw [hwA]; exact ((Ext.refl w).alloc _).alloc _
  have hq0 : wA.cell? ⟨w.heap.size + 1, 0, none⟩ = some (.slice none 0 0) := by rw [hwA]; exact cell2 _ _ _ _
  have hqf : wA.frozen? ⟨w.heap.size + 1, 0, none⟩ = false := by rw [hwA]; exact frozen2 _ _ _ _
  have hlb : wA.cell? ⟨w.heap.size, 0, none⟩ = some (.func (.func 33) #[] #[]) := by rw [hwA]; go_simp
  have hsz : wA.heap.size = w.heap.size + 2 := by rw [hwA]; simp
  have HA := Lib.hid hXA
  have HIt := Lib.hid (iter_cuts j f og oj cg cj bj (fun i => i = w.heap.size + 1) wA (by omega) (by omega) (hjb.ext hXA) (hp.ext hXA))
  have h0 : BestIn 64 (w.heap.size + 1) wA (((cuts j).take 0).foldl bestStep []) (fun _ => False) wA := ⟨Turned.refl _ _, fun _ h => h.elim, hqf, _, [], hq0, World.ownsRow_nil _ _ _ _, (fun b hb => by cases hb), fun x hx => by simp at hx⟩
  have hszl : w.heap.size + 1 < wA.heap.size := by omega
  rw [← hwA]
  have Hsz := Lib.hid hsz
  clear hsz hwA hq0 hqf hjb hp hbj hXA f
  refine wp_rangeFunc_each (gf := 52) (lb := #[.pointer (some ⟨bj, 0, none⟩)]) rfl (enters_of Try.func52 (by kernel_rfl) rfl) (cuts j).length (fun i => i = w.heap.size + 1) (CutP j wA.heap.size)
    (fun k => BestIn 64 (w.heap.size + 1) wA (((cuts j).take k).foldl bestStep [])) (fun k I I' W W' h hM hI' => h.mv (by omega) hM hI') (fun k I W l o o' h hl ho hoc => h.put (by omega) hl ho hoc) (fun _ _ => False) (fun _ _ _ _ _ h => h.elim) h0 HIt.out
    (CutAt j wA fun qb x => { tmps := #[.func (.func 52) #[] #[.pointer (some ⟨bj, 0, none⟩)], .func (.func 33) #[] #[], undef, .pointer (some ⟨w.heap.size, 0, none⟩), .slice none 0 0, .pointer (some ⟨w.heap.size + 1, 0, none⟩), .pointer (some ⟨qb, 0, none⟩), .func (.func 52) #[] #[.pointer (some ⟨bj, 0, none⟩)], x, undef, undef, undef, undef, undef, undef, undef, undef, undef, undef, undef, undef, undef, undef, undef, undef, undef, undef, undef, undef, undef, undef, undef, undef, undef, undef, undef, undef], defers := [] })
    (CutAt.put j wA _) ?assign ?body ?norm ?stop
  case assign =>
    rintro l m k I x W hk hj ⟨c, om, cm, hm, rfl, ho, hb⟩ hI K hK
    have Hk := Lib.hid (hK _ _ (keeps_ext ((Ext.refl W).alloc (.cells (cutL om c.1.length cm c.2).toArray 64))) (Mv.of_ext ((Ext.refl W).alloc (.cells (cutL om c.1.length cm c.2).toArray 64))) (hj.mv (by omega) (Mv.of_ext ((Ext.refl W).alloc _)) fun i hi => ⟨.inl hi, Nat.lt_of_lt_of_le (hI i hi).2 (by simp)⟩) (CutAt.start hm ho hb hI hj.turned.size))
    clear hK
    gi_wp2
    exact Hk.out
  case body =>
    intro l m k I x a' Wb hk hj hp hI
    obtain ⟨c, om, cm, qb, hm, rfl, rfl, ho, hoI, hpb, hqI, hqA⟩ := hp
    have hqW : qb < Wb.heap.size := (Array.getElem?_eq_some_iff.1 hpb).1
    have hLn := best_len (cuts j) k
    rw [best_take (cuts j) hm]
    have hless : Wb.cell? ⟨w.heap.size, 0, none⟩ = some (.func (.func 33) #[] #[]) := Turned.cell hj.turned (by simp) hlb
    generalize ((cuts j).take k).foldl bestStep [] = L at *
    obtain ⟨T, hT⟩ : ∃ T, T = bestStep L c := ⟨_, rfl⟩
    rw [← hT]
    have HT := Lib.hid hT
    have HoI := Lib.hid hoI
    have Hpb := Lib.hid (cut_heap hpb)
    have Hph := Lib.hid hpb
    have Hj := Lib.hid hj
    have Ho := Lib.hid ho
    clear hm hpb hoI ho h0 hlb hT
    gi_wp2_with fail
    cases L with
    | nil =>
      obtain ⟨v, xs, hv, hrow, _, _⟩ := hj.var
      obtain ⟨oa4, c4, rfl⟩ := row_slice hrow
      simp only [List.length_nil] at hv
      clear hrow hj
      refine wpIn_region_planR (.take 0 <| .take 1 <| .take 2 <| .take 3 <| .take 4 <| .take 5 <| .take 6 <| .take 7 <| .take 8 <| .only 9 <| .take 10 <| .done) (fun W => Ext Wb W) mixed (by kernel_rfl) (by kernel_rfl) rfl (fun _ _ d _ _ h => by cases d <;> exact h) (fun _ h => h) ((Ext.refl Wb).drew) (by kernel_rfl) ?_
      repeat ((first | (refine planIn_take (v := ?_) rfl rfl (fun W hW => ?_) ?_; rotate_left; (focus (have d0 := cell_ext hW hv; go_simp; first | exact rfl | (split <;> first | exact rfl | (exfalso; omega)) | done))) | refine planIn_skip rfl rfl ?_); simp only [Act.put, List.setIfInBounds_toArray, List.set_cons_zero, List.set_cons_succ])
      refine planIn_walk rfl ?_; intro K hK
      gi_wp2
      refine ⟨nofun, ?_⟩
      gi_wp2
      refine hK _ _ (Ext.refl Wb).drew ?_
      repeat ((first | (refine planIn_take (v := ?_) rfl rfl (fun W hW => ?_) ?_; rotate_left; (focus (skip; go_simp; first | exact rfl | (split <;> first | exact rfl | (exfalso; omega)) | done))) | refine planIn_skip rfl rfl ?_); simp only [Act.put, List.setIfInBounds_toArray, List.set_cons_zero, List.set_cons_succ])
      refine planIn_done ?_
      have X0 := (Ext.refl Wb).drew
      have Hj4 := Lib.hid (Hj.out.ext (by omega) (fun i hi => (hI i hi).2) X0)
      have HK4 := Lib.hid (And.intro (keeps_ext X0) (Mv.of_ext (I := fun i => ¬ (I i ∨ (i < wA.heap.size ∧ ¬ (i = w.heap.size + 1)))) X0))
      have Hpb4 := Lib.hid (Hpb.out.ext X0)
      have Ho4 := Lib.hid (Ho.out.ext X0)
      have Hs4 := Lib.hid X0.size
      have Hv4 := Lib.hid (cell_ext X0 hv)
      clear X0 hv hless
      generalize Wb.drew = w4 at *
      gi_wp2_with fail
      obtain ⟨Lc, hLc⟩ : ∃ l : List (List Nat × Nat), l = [] := ⟨_, rfl⟩
      rw [← hLc] at Hj4
      have Hst := Lib.hid (show Lc ++ [c] = T by rw [hLc, HT.out]; rfl)
      have HLc := Lib.hid (show Lc.length ≤ 7776 by rw [hLc]; simp)
      clear hLc
      have hv4 : w4.cell? ⟨w.heap.size + 1, 0, none⟩ = some (.slice oa4 0 c4) := Hv4.out
      refine wpIn_region_planR (.take 0 <| .take 1 <| .take 2 <| .take 3 <| .take 4 <| .take 5 <| .take 6 <| .take 7 <| .take 8 <| .only 9 <| .take 10 <| .take 11 <| .done) (fun W => Ext w4 W) mixed (by kernel_rfl) (by kernel_rfl) rfl (fun _ _ d _ _ h => by cases d <;> exact h) (fun _ h => h) ((Ext.refl w4).drew) (by kernel_rfl) ?_
      repeat ((first | (refine planIn_take (v := ?_) rfl rfl (fun W hW => ?_) ?_; rotate_left; (focus (have d0 := cell_ext hW hv4; go_simp; first | exact rfl | (split <;> first | exact rfl | (exfalso; omega)) | done))) | refine planIn_skip rfl rfl ?_); simp only [Act.put, List.setIfInBounds_toArray, List.set_cons_zero, List.set_cons_succ])
      refine planIn_walk rfl ?_; intro K hK
      gi_wp2
      refine ⟨nofun, ?_⟩
      gi_wp2
      refine hK _ _ (Ext.refl w4).drew ?_
      repeat ((first | (refine planIn_take (v := ?_) rfl rfl (fun W hW => ?_) ?_; rotate_left; (focus (skip; go_simp; first | exact rfl | (split <;> first | exact rfl | (exfalso; omega)) | done))) | refine planIn_skip rfl rfl ?_); simp only [Act.put, List.setIfInBounds_toArray, List.set_cons_zero, List.set_cons_succ])
      refine planIn_done ?_
      have X4 := (Ext.refl w4).drew
      clear hv4
      have Hj6 := Lib.hid (Hj4.out.ext (by omega) (fun i hi => Nat.lt_of_lt_of_le (hI i hi).2 Hs4.out) X4)
      have HK6 := Lib.hid (And.intro (HK4.out.1.trans (keeps_ext X4)) (HK4.out.2.trans (Mv.of_ext X4)))
      have Hpb6 := Lib.hid (Hpb4.out.ext X4)
      have Ho6 := Lib.hid (Ho4.out.ext X4)
      have Hs6 := Lib.hid (Nat.le_trans Hs4.out X4.size)
      clear X4
      generalize w4.drew = w6 at *
      obtain ⟨v6, xs6, hv6, hrow6, hvI6, hel6⟩ := Hj6.out.var
      obtain ⟨oa6, c6, rfl⟩ := row_slice hrow6
      have hqf6 := Hj6.out.frozen
      have Hrow6 := Lib.hid hrow6
      have HvI6 := Lib.hid (And.intro hvI6 hel6)
      have hNl := HLc.out
      obtain ⟨N, hN⟩ : ∃ N, N = Lc.length := ⟨_, rfl⟩
      have Hrow6n := Lib.hid (show w6.ownsRow wA.heap.size 64 2 (.slice oa6 N c6) N xs6 by rw [hN]; exact hrow6)
      have hv6n : w6.cell? ⟨w.heap.size + 1, 0, none⟩ = some (.slice oa6 N c6) := by rw [hN]; exact hv6
      rw [← hN] at hNl
      have HN := Lib.hid hN
      have Hv6 := Lib.hid hv6
      have p0 := Hpb6.out 0 _ rfl
      have p1 := Hpb6.out 1 _ rfl
      have hIlt := Lib.hid (fun i (hi : I i) => Nat.lt_of_lt_of_le (hI i hi).2 Hs6.out)
      obtain ⟨ii, hi1, hi2, hi3, hi4⟩ := info_parts i64
      have hn1 := is_cell0 w6 (.slice om c.1.length cm) (.int .i64 (c.2 : Nat)) 64
      have hn2 := is_cell1 w6 (.slice om c.1.length cm) (.int .i64 (c.2 : Nat)) 64
      clear hrow6 hvI6 hel6 hN hv6
      gi_wp2_with (first | (gi_at_builtin; refine wpListIn_append_own_at _ rfl _ _ 61 rfl wA.heap.size 64 ii _ 2 32 Try.underlying61 hi1 hi2 hi3 hi4 rfl (by decide) _ N xs6 rfl (row_mv Hrow6n.out (Mv.of_ext (I := fun _ => False) ((Ext.refl w6).alloc _)) (fun _ _ h => h)) ⟨w6.heap.size, 0, none⟩ 1 1 (cutL om c.1.length cm c.2) rfl rfl ?_ (by simp [Value.oneCell']) (by unfold maxLen; omega) (by omega) (Nat.le_trans Hj6.out.turned.size ((Ext.refl w6).alloc _).size) ?_))
      · intro j u hu
        match j, hu with
        | 0, hu => simp at hu; subst hu; simp [Addr.add]
        | 1, hu => simp at hu; subst hu; simp [Addr.add]
      · intro v' w7 hr7 hg7 _ hat
        have X6 : Ext w6 (w6.alloc (.cells #[.slice om c.1.length cm, .int .i64 (c.2 : Nat)] 64)) := (Ext.refl w6).alloc _
        have hm7 := BestIn.app (e := 64) (by decide) (by omega) Hj6.out hIlt.out X6 Hv6.out Hrow6.out HvI6.out.1 HvI6.out.2 (x := c) (om := om) (cm := cm) (Ho6.out.ext X6) HoI.out (by rw [← HN.out]; exact hr7) (by rw [← HN.out]; exact hg7) (by rw [← HN.out, World.size_alloc]; exact hat)
        obtain ⟨g7, c7, hv7⟩ : ∃ g c, v' = .slice (some ⟨g, 0, none⟩) (N + 1) c := by
          rcases hr7.2 with ⟨_, h2⟩ | ⟨g, c, cur, h1, _⟩
          · omega
          · exact ⟨g, c, h1⟩
        subst hv7
        have Hm7 := Lib.hid hm7
        have hE7 : Mv (fun i => (Value.slice oa6 N c6).ownBlock = some i) (w6.alloc (.cells #[.slice om c.1.length cm, .int .i64 (c.2 : Nat)] 64)) w7 := Mv.of_grown hg7 fun i h => h
        have hqb : ¬ (Value.slice oa6 N c6).ownBlock = some (w.heap.size + 1) := fun h => by have := (World.ownsRow.lt Hrow6n.out _ h).1; omega
        have cq7 : w7.cell? ⟨w.heap.size + 1, 0, none⟩ = some (.slice oa6 N c6) := hE7.cell hqb (cell_ext X6 hv6n)
        have cf7 : w7.frozen? ⟨w.heap.size + 1, 0, none⟩ = false := (hE7.frozen hqb (Nat.lt_of_lt_of_le Hj6.out.lt X6.size)).trans ((frozen_ext X6 Hj6.out.lt).trans hqf6)
        clear hm7 hr7 hg7 hat hn1 hn2 hE7 hqb p0 p1 hv6n hqf6
        gi_wp2
        exact ⟨HK6.out.1.trans Hm7.out.2.2, HK6.out.2.trans Hm7.out.2.1, by have h9 := Hm7.out.1; rw [Hst.out] at h9; exact h9⟩
    | cons y r =>
      obtain ⟨g, cap, om0, cm0, hv, hcap, hcm, r0, r1, hoy⟩ := hj.headCells
      have b0 := Hpb.out 0 _ rfl
      have b1 := Hpb.out 1 _ rfl
      have HLr := Lib.hid (show (y :: r).length ≤ 7776 by omega)
      have hN0 : (0 : Int) < ((r.length + 1 : Nat) : Int) := by omega
      have hN1 : 0 < r.length + 1 := by omega
      have hNz : ¬ ((r.length + 1 : Nat) : Int) = 0 := by omega
      have hNb : (((r.length + 1 : Nat) : Int) == 0) = false := by rw [beq_eq_false_iff_ne]; omega
      obtain ⟨N, hNe⟩ : ∃ N, N = r.length + 1 := ⟨_, rfl⟩
      rw [← hNe] at hv hcap hN0 hN1 hNz hNb
      clear hj hoy hLn
      by_cases hb : c.2 < y.2
      · have R33 := less33 om om0 c.1.length cm c.2 y.1.length cm0 y.2
        rw [decide_eq_true hb] at R33
        replace R33 := Lib.hid R33
        have hst : [c] = T := by rw [HT.out]; simp [bestStep, hb]
        have Hst0 := Lib.hid hst
        clear hb hNe hst
        refine wpIn_region_planR (.take 0 <| .take 1 <| .take 2 <| .take 3 <| .take 4 <| .take 5 <| .take 6 <| .take 7 <| .take 8 <| .only 9 <| .take 10 <| .done) (fun W => Ext Wb W) mixed (by kernel_rfl) (by kernel_rfl) rfl (fun _ _ d _ _ h => by cases d <;> exact h) (fun _ h => h) ((Ext.refl Wb).drew) (by kernel_rfl) ?_
        repeat ((first | (refine planIn_take (v := ?_) rfl rfl (fun W hW => ?_) ?_; rotate_left; (focus (have d0 := cell_ext hW hv; have d1 := cell_ext hW hless; have d2 := cell_ext hW b0; have d3 := cell_ext hW b1; have d4 := cell_ext hW r0; have d5 := cell_ext hW r1; go_simp; first | exact rfl | (split <;> first | exact rfl | (exfalso; omega)) | done))) | refine planIn_skip rfl rfl ?_); simp only [Act.put, List.setIfInBounds_toArray, List.set_cons_zero, List.set_cons_succ])
        refine planIn_walk rfl ?_; intro K hK
        gi_wp2_with (first | (refine ⟨trivial, (fun h => by cases h), ?_⟩; gi_at_call 33; refine (callsIn_wide.2 (R33.out Wb.drew)).mono ?_; rintro e wq ⟨rfl, hE4⟩))
        have X0 := (Ext.refl Wb).drew.trans hE4
        refine hK _ _ X0 ?_
        repeat ((first | (refine planIn_take (v := ?_) rfl rfl (fun W hW => ?_) ?_; rotate_left; (focus (skip; go_simp; first | exact rfl | (split <;> first | exact rfl | (exfalso; omega)) | done))) | refine planIn_skip rfl rfl ?_); simp only [Act.put, List.setIfInBounds_toArray, List.set_cons_zero, List.set_cons_succ])
        refine planIn_done ?_
        have Hjq := Lib.hid (Hj.out.ext (by omega) (fun i hi => (hI i hi).2) X0)
        have HKq := Lib.hid (And.intro (keeps_ext X0) (Mv.of_ext (I := fun i => ¬ (I i ∨ (i < wA.heap.size ∧ ¬ (i = w.heap.size + 1)))) X0))
        have Hpbq := Lib.hid (Hpb.out.ext X0)
        have Hoq := Lib.hid (Ho.out.ext X0)
        have Hsq := Lib.hid X0.size
        have hvq := cell_ext X0 hv
        have hlessq := cell_ext X0 hless
        have r0q := cell_ext X0 r0
        have r1q := cell_ext X0 r1
        have b0q := cell_ext X0 b0
        have b1q := cell_ext X0 b1
        clear X0 hv hless hE4 r0 r1 b0 b1
        have hqfq := Hjq.out.frozen
        gi_wp2_with fail
        have hnil := Hjq.out.nil (by omega)
        have HT5 := Lib.hid ((Turned.refl (w.heap.size + 1) wq).set 0 (.slice none 0 0))
        have HK4 := Lib.hid (And.intro (HKq.out.1.trans hnil.2.2) (HKq.out.2.trans hnil.2.1))
        have Hj4 := Lib.hid hnil.1
        have Hpb4 := Lib.hid (show VB (wq.setCell ⟨w.heap.size + 1, 0, none⟩ (.slice none 0 0)) qb (cutL om c.1.length cm c.2) from fun i v hv => Turned.cell HT5.out (by simp; omega) (Hpbq.out i v hv))
        have Ho4 := Lib.hid (Hoq.out.turned HT5.out (by omega))
        have Hs4 := Lib.hid (Nat.le_trans Hsq.out HT5.out.size)
        have Hv4 := Lib.hid (show (wq.setCell ⟨w.heap.size + 1, 0, none⟩ (.slice none 0 0)).cell? ⟨w.heap.size + 1, 0, none⟩ = some (.slice none 0 0) by go_simp)
        obtain ⟨Lc, hLc⟩ : ∃ l : List (List Nat × Nat), l = [] := ⟨_, rfl⟩
        rw [← hLc] at Hj4
        have Hst := Lib.hid (show Lc ++ [c] = T by rw [hLc]; exact Hst0.out)
        have HLc := Lib.hid (show Lc.length ≤ 7776 by rw [hLc]; simp)
        obtain ⟨oa4, hoa4⟩ : ∃ o : Option Addr, o = none := ⟨_, rfl⟩
        obtain ⟨c4, hc4⟩ : ∃ o : Nat, o = 0 := ⟨_, rfl⟩
        replace Hv4 := Lib.hid (show (wq.setCell ⟨w.heap.size + 1, 0, none⟩ (.slice none 0 0)).cell? ⟨w.heap.size + 1, 0, none⟩ = some (.slice oa4 0 c4) by rw [hoa4, hc4]; exact Hv4.out)
        clear hnil hLc hvq hlessq r0q r1q b0q b1q hqfq hoa4 hc4
        generalize wq.setCell ⟨w.heap.size + 1, 0, none⟩ (.slice none 0 0) = w4 at *
        have hv4 : w4.cell? ⟨w.heap.size + 1, 0, none⟩ = some (.slice oa4 0 c4) := Hv4.out
        refine wpIn_region_planR (.take 0 <| .take 1 <| .take 2 <| .take 3 <| .take 4 <| .take 5 <| .take 6 <| .take 7 <| .take 8 <| .only 9 <| .take 10 <| .take 11 <| .done) (fun W => Ext w4 W) mixed (by kernel_rfl) (by kernel_rfl) rfl (fun _ _ d _ _ h => by cases d <;> exact h) (fun _ h => h) ((Ext.refl w4).drew) (by kernel_rfl) ?_
        repeat ((first | (refine planIn_take (v := ?_) rfl rfl (fun W hW => ?_) ?_; rotate_left; (focus (have d0 := cell_ext hW hv4; go_simp; first | exact rfl | (split <;> first | exact rfl | (exfalso; omega)) | done))) | refine planIn_skip rfl rfl ?_); simp only [Act.put, List.setIfInBounds_toArray, List.set_cons_zero, List.set_cons_succ])
        refine planIn_walk rfl ?_; intro K hK
        gi_wp2
        refine ⟨nofun, ?_⟩
        gi_wp2
        refine hK _ _ (Ext.refl w4).drew ?_
        repeat ((first | (refine planIn_take (v := ?_) rfl rfl (fun W hW => ?_) ?_; rotate_left; (focus (skip; go_simp; first | exact rfl | (split <;> first | exact rfl | (exfalso; omega)) | done))) | refine planIn_skip rfl rfl ?_); simp only [Act.put, List.setIfInBounds_toArray, List.set_cons_zero, List.set_cons_succ])
        refine planIn_done ?_
        have X4 := (Ext.refl w4).drew
        clear hv4
        have Hj6 := Lib.hid (Hj4.out.ext (by omega) (fun i hi => Nat.lt_of_lt_of_le (hI i hi).2 Hs4.out) X4)
        have HK6 := Lib.hid (And.intro (HK4.out.1.trans (keeps_ext X4)) (HK4.out.2.trans (Mv.of_ext X4)))
        have Hpb6 := Lib.hid (Hpb4.out.ext X4)
        have Ho6 := Lib.hid (Ho4.out.ext X4)
        have Hs6 := Lib.hid (Nat.le_trans Hs4.out X4.size)
        clear X4
        generalize w4.drew = w6 at *
        obtain ⟨v6, xs6, hv6, hrow6, hvI6, hel6⟩ := Hj6.out.var
        obtain ⟨oa6, c6, rfl⟩ := row_slice hrow6
        have hqf6 := Hj6.out.frozen
        have Hrow6 := Lib.hid hrow6
        have HvI6 := Lib.hid (And.intro hvI6 hel6)
        have hNl := HLc.out
        obtain ⟨N, hN⟩ : ∃ N, N = Lc.length := ⟨_, rfl⟩
        have Hrow6n := Lib.hid (show w6.ownsRow wA.heap.size 64 2 (.slice oa6 N c6) N xs6 by rw [hN]; exact hrow6)
        have hv6n : w6.cell? ⟨w.heap.size + 1, 0, none⟩ = some (.slice oa6 N c6) := by rw [hN]; exact hv6
        rw [← hN] at hNl
        have HN := Lib.hid hN
        have Hv6 := Lib.hid hv6
        have p0 := Hpb6.out 0 _ rfl
        have p1 := Hpb6.out 1 _ rfl
        have hIlt := Lib.hid (fun i (hi : I i) => Nat.lt_of_lt_of_le (hI i hi).2 Hs6.out)
        obtain ⟨ii, hi1, hi2, hi3, hi4⟩ := info_parts i64
        have hn1 := is_cell0 w6 (.slice om c.1.length cm) (.int .i64 (c.2 : Nat)) 64
        have hn2 := is_cell1 w6 (.slice om c.1.length cm) (.int .i64 (c.2 : Nat)) 64
        clear hrow6 hvI6 hel6 hN hv6
        gi_wp2_with (first | (gi_at_builtin; refine wpListIn_append_own_at _ rfl _ _ 61 rfl wA.heap.size 64 ii _ 2 32 Try.underlying61 hi1 hi2 hi3 hi4 rfl (by decide) _ N xs6 rfl (row_mv Hrow6n.out (Mv.of_ext (I := fun _ => False) ((Ext.refl w6).alloc _)) (fun _ _ h => h)) ⟨w6.heap.size, 0, none⟩ 1 1 (cutL om c.1.length cm c.2) rfl rfl ?_ (by simp [Value.oneCell']) (by unfold maxLen; omega) (by omega) (Nat.le_trans Hj6.out.turned.size ((Ext.refl w6).alloc _).size) ?_))
        · intro j u hu
          match j, hu with
          | 0, hu => simp at hu; subst hu; simp [Addr.add]
          | 1, hu => simp at hu; subst hu; simp [Addr.add]
        · intro v' w7 hr7 hg7 _ hat
          have X6 : Ext w6 (w6.alloc (.cells #[.slice om c.1.length cm, .int .i64 (c.2 : Nat)] 64)) := (Ext.refl w6).alloc _
          have hm7 := BestIn.app (e := 64) (by decide) (by omega) Hj6.out hIlt.out X6 Hv6.out Hrow6.out HvI6.out.1 HvI6.out.2 (x := c) (om := om) (cm := cm) (Ho6.out.ext X6) HoI.out (by rw [← HN.out]; exact hr7) (by rw [← HN.out]; exact hg7) (by rw [← HN.out, World.size_alloc]; exact hat)
          obtain ⟨g7, c7, hv7⟩ : ∃ g c, v' = .slice (some ⟨g, 0, none⟩) (N + 1) c := by
            rcases hr7.2 with ⟨_, h2⟩ | ⟨g, c, cur, h1, _⟩
            · omega
            · exact ⟨g, c, h1⟩
          subst hv7
          have Hm7 := Lib.hid hm7
          have hE7 : Mv (fun i => (Value.slice oa6 N c6).ownBlock = some i) (w6.alloc (.cells #[.slice om c.1.length cm, .int .i64 (c.2 : Nat)] 64)) w7 := Mv.of_grown hg7 fun i h => h
          have hqb : ¬ (Value.slice oa6 N c6).ownBlock = some (w.heap.size + 1) := fun h => by have := (World.ownsRow.lt Hrow6n.out _ h).1; omega
          have cq7 : w7.cell? ⟨w.heap.size + 1, 0, none⟩ = some (.slice oa6 N c6) := hE7.cell hqb (cell_ext X6 hv6n)
          have cf7 : w7.frozen? ⟨w.heap.size + 1, 0, none⟩ = false := (hE7.frozen hqb (Nat.lt_of_lt_of_le Hj6.out.lt X6.size)).trans ((frozen_ext X6 Hj6.out.lt).trans hqf6)
          clear hm7 hr7 hg7 hat hn1 hn2 hE7 hqb p0 p1 hv6n hqf6
          gi_wp2
          exact ⟨HK6.out.1.trans Hm7.out.2.2, HK6.out.2.trans Hm7.out.2.1, by have h9 := Hm7.out.1; rw [Hst.out] at h9; exact h9⟩
      · have R33 := less33 om om0 c.1.length cm c.2 y.1.length cm0 y.2
        rw [decide_eq_false hb] at R33
        replace R33 := Lib.hid R33
        have R33b := less33 om0 om y.1.length cm0 y.2 c.1.length cm c.2
        by_cases hb2 : y.2 < c.2
        · rw [decide_eq_true hb2] at R33b
          replace R33b := Lib.hid R33b
          have hst : y :: r = T := by rw [HT.out]; simp [bestStep, hb, hb2]
          have Hst0 := Lib.hid hst
          clear hb hb2 hNe hst
          refine wpIn_region_planR (.take 0 <| .take 1 <| .take 2 <| .take 3 <| .take 4 <| .take 5 <| .take 6 <| .take 7 <| .take 8 <| .only 9 <| .take 10 <| .done) (fun W => Ext Wb W) mixed (by kernel_rfl) (by kernel_rfl) rfl (fun _ _ d _ _ h => by cases d <;> exact h) (fun _ h => h) ((Ext.refl Wb).drew) (by kernel_rfl) ?_
          repeat ((first | (refine planIn_take (v := ?_) rfl rfl (fun W hW => ?_) ?_; rotate_left; (focus (have d0 := cell_ext hW hv; have d1 := cell_ext hW hless; have d2 := cell_ext hW b0; have d3 := cell_ext hW b1; have d4 := cell_ext hW r0; have d5 := cell_ext hW r1; go_simp; first | exact rfl | (split <;> first | exact rfl | (exfalso; omega)) | done))) | refine planIn_skip rfl rfl ?_); simp only [Act.put, List.setIfInBounds_toArray, List.set_cons_zero, List.set_cons_succ])
          refine planIn_walk rfl ?_; intro K hK
          gi_wp2_with (first | (refine ⟨trivial, (fun h => by cases h), ?_⟩; gi_at_call 33; refine (callsIn_wide.2 (R33.out Wb.drew)).mono ?_; rintro e wq ⟨rfl, hE4⟩))
          have X0 := (Ext.refl Wb).drew.trans hE4
          refine hK _ _ X0 ?_
          repeat ((first | (refine planIn_take (v := ?_) rfl rfl (fun W hW => ?_) ?_; rotate_left; (focus (skip; go_simp; first | exact rfl | (split <;> first | exact rfl | (exfalso; omega)) | done))) | refine planIn_skip rfl rfl ?_); simp only [Act.put, List.setIfInBounds_toArray, List.set_cons_zero, List.set_cons_succ])
          refine planIn_done ?_
          have Hjq := Lib.hid (Hj.out.ext (by omega) (fun i hi => (hI i hi).2) X0)
          have HKq := Lib.hid (And.intro (keeps_ext X0) (Mv.of_ext (I := fun i => ¬ (I i ∨ (i < wA.heap.size ∧ ¬ (i = w.heap.size + 1)))) X0))
          have Hpbq := Lib.hid (Hpb.out.ext X0)
          have Hoq := Lib.hid (Ho.out.ext X0)
          have Hsq := Lib.hid X0.size
          have hvq := cell_ext X0 hv
          have hlessq := cell_ext X0 hless
          have r0q := cell_ext X0 r0
          have r1q := cell_ext X0 r1
          have b0q := cell_ext X0 b0
          have b1q := cell_ext X0 b1
          clear X0 hv hless hE4 r0 r1 b0 b1
          gi_wp2_with fail
          refine wpIn_region_planR (.take 0 <| .take 1 <| .take 2 <| .take 3 <| .take 4 <| .take 5 <| .take 6 <| .take 7 <| .take 8 <| .only 9 <| .take 10 <| .take 11 <| .done) (fun W => Ext wq W) mixed (by kernel_rfl) (by kernel_rfl) rfl (fun _ _ d _ _ h => by cases d <;> exact h) (fun _ h => h) ((Ext.refl wq).drew) (by kernel_rfl) ?_
          repeat ((first | (refine planIn_take (v := ?_) rfl rfl (fun W hW => ?_) ?_; rotate_left; (focus (have d0 := cell_ext hW hvq; have d1 := cell_ext hW hlessq; have d2 := cell_ext hW b0q; have d3 := cell_ext hW b1q; have d4 := cell_ext hW r0q; have d5 := cell_ext hW r1q; go_simp; first | exact rfl | (split <;> first | exact rfl | (exfalso; omega)) | done))) | refine planIn_skip rfl rfl ?_); simp only [Act.put, List.setIfInBounds_toArray, List.set_cons_zero, List.set_cons_succ])
          refine planIn_walk rfl ?_; intro K hK
          gi_wp2_with (first | (refine ⟨trivial, (fun h => by cases h), ?_⟩; gi_at_call 33; refine (callsIn_wide.2 (R33b.out wq.drew)).mono ?_; rintro e w6 ⟨rfl, hE4⟩))
          have X4 := (Ext.refl wq).drew.trans hE4
          refine hK _ _ X4 ?_
          repeat ((first | (refine planIn_take (v := ?_) rfl rfl (fun W hW => ?_) ?_; rotate_left; (focus (skip; go_simp; first | exact rfl | (split <;> first | exact rfl | (exfalso; omega)) | done))) | refine planIn_skip rfl rfl ?_); simp only [Act.put, List.setIfInBounds_toArray, List.set_cons_zero, List.set_cons_succ])
          refine planIn_done ?_
          have Hj6 := Lib.hid (Hjq.out.ext (by omega) (fun i hi => Nat.lt_of_lt_of_le (hI i hi).2 Hsq.out) X4)
          have HK6 := Lib.hid (And.intro (HKq.out.1.trans (keeps_ext X4)) (HKq.out.2.trans (Mv.of_ext X4)))
          have Hpb6 := Lib.hid (Hpbq.out.ext X4)
          have Ho6 := Lib.hid (Hoq.out.ext X4)
          have Hs6 := Lib.hid (Nat.le_trans Hsq.out X4.size)
          clear X4 hE4 hvq hlessq r0q r1q b0q b1q
          gi_wp2
          exact ⟨HK6.out.1, HK6.out.2, by have h9 := Hj6.out; rw [Hst0.out] at h9; exact h9⟩
        · rw [decide_eq_false hb2] at R33b
          replace R33b := Lib.hid R33b
          have hst : y :: r ++ [c] = T := by rw [HT.out]; simp [bestStep, hb, hb2]
          have Hst := Lib.hid hst
          clear hb hb2 hNe hst
          refine wpIn_region_planR (.take 0 <| .take 1 <| .take 2 <| .take 3 <| .take 4 <| .take 5 <| .take 6 <| .take 7 <| .take 8 <| .only 9 <| .take 10 <| .done) (fun W => Ext Wb W) mixed (by kernel_rfl) (by kernel_rfl) rfl (fun _ _ d _ _ h => by cases d <;> exact h) (fun _ h => h) ((Ext.refl Wb).drew) (by kernel_rfl) ?_
          repeat ((first | (refine planIn_take (v := ?_) rfl rfl (fun W hW => ?_) ?_; rotate_left; (focus (have d0 := cell_ext hW hv; have d1 := cell_ext hW hless; have d2 := cell_ext hW b0; have d3 := cell_ext hW b1; have d4 := cell_ext hW r0; have d5 := cell_ext hW r1; go_simp; first | exact rfl | (split <;> first | exact rfl | (exfalso; omega)) | done))) | refine planIn_skip rfl rfl ?_); simp only [Act.put, List.setIfInBounds_toArray, List.set_cons_zero, List.set_cons_succ])
          refine planIn_walk rfl ?_; intro K hK
          gi_wp2_with (first | (refine ⟨trivial, (fun h => by cases h), ?_⟩; gi_at_call 33; refine (callsIn_wide.2 (R33.out Wb.drew)).mono ?_; rintro e wq ⟨rfl, hE4⟩))
          have X0 := (Ext.refl Wb).drew.trans hE4
          refine hK _ _ X0 ?_
          repeat ((first | (refine planIn_take (v := ?_) rfl rfl (fun W hW => ?_) ?_; rotate_left; (focus (skip; go_simp; first | exact rfl | (split <;> first | exact rfl | (exfalso; omega)) | done))) | refine planIn_skip rfl rfl ?_); simp only [Act.put, List.setIfInBounds_toArray, List.set_cons_zero, List.set_cons_succ])
          refine planIn_done ?_
          have Hjq := Lib.hid (Hj.out.ext (by omega) (fun i hi => (hI i hi).2) X0)
          have HKq := Lib.hid (And.intro (keeps_ext X0) (Mv.of_ext (I := fun i => ¬ (I i ∨ (i < wA.heap.size ∧ ¬ (i = w.heap.size + 1)))) X0))
          have Hpbq := Lib.hid (Hpb.out.ext X0)
          have Hoq := Lib.hid (Ho.out.ext X0)
          have Hsq := Lib.hid X0.size
          have hvq := cell_ext X0 hv
          have hlessq := cell_ext X0 hless
          have r0q := cell_ext X0 r0
          have r1q := cell_ext X0 r1
          have b0q := cell_ext X0 b0
          have b1q := cell_ext X0 b1
          clear X0 hv hless hE4 r0 r1 b0 b1
          gi_wp2_with fail
          refine wpIn_region_planR (.take 0 <| .take 1 <| .take 2 <| .take 3 <| .take 4 <| .take 5 <| .take 6 <| .take 7 <| .take 8 <| .only 9 <| .take 10 <| .take 11 <| .done) (fun W => Ext wq W) mixed (by kernel_rfl) (by kernel_rfl) rfl (fun _ _ d _ _ h => by cases d <;> exact h) (fun _ h => h) ((Ext.refl wq).drew) (by kernel_rfl) ?_
          repeat ((first | (refine planIn_take (v := ?_) rfl rfl (fun W hW => ?_) ?_; rotate_left; (focus (have d0 := cell_ext hW hvq; have d1 := cell_ext hW hlessq; have d2 := cell_ext hW b0q; have d3 := cell_ext hW b1q; have d4 := cell_ext hW r0q; have d5 := cell_ext hW r1q; go_simp; first | exact rfl | (split <;> first | exact rfl | (exfalso; omega)) | done))) | refine planIn_skip rfl rfl ?_); simp only [Act.put, List.setIfInBounds_toArray, List.set_cons_zero, List.set_cons_succ])
          refine planIn_walk rfl ?_; intro K hK
          gi_wp2_with (first | (refine ⟨trivial, (fun h => by cases h), ?_⟩; gi_at_call 33; refine (callsIn_wide.2 (R33b.out wq.drew)).mono ?_; rintro e w6 ⟨rfl, hE4⟩))
          have X4 := (Ext.refl wq).drew.trans hE4
          refine hK _ _ X4 ?_
          repeat ((first | (refine planIn_take (v := ?_) rfl rfl (fun W hW => ?_) ?_; rotate_left; (focus (skip; go_simp; first | exact rfl | (split <;> first | exact rfl | (exfalso; omega)) | done))) | refine planIn_skip rfl rfl ?_); simp only [Act.put, List.setIfInBounds_toArray, List.set_cons_zero, List.set_cons_succ])
          refine planIn_done ?_
          have Hj6 := Lib.hid (Hjq.out.ext (by omega) (fun i hi => Nat.lt_of_lt_of_le (hI i hi).2 Hsq.out) X4)
          have HK6 := Lib.hid (And.intro (HKq.out.1.trans (keeps_ext X4)) (HKq.out.2.trans (Mv.of_ext X4)))
          have Hpb6 := Lib.hid (Hpbq.out.ext X4)
          have Ho6 := Lib.hid (Hoq.out.ext X4)
          have Hs6 := Lib.hid (Nat.le_trans Hsq.out X4.size)
          clear X4 hE4 hvq hlessq r0q r1q b0q b1q
          obtain ⟨Lc, hLc⟩ : ∃ l : List (List Nat × Nat), l = y :: r := ⟨_, rfl⟩
          rw [← hLc] at Hj6 Hst HLr
          have HLc := HLr
          clear hLc HLr
          obtain ⟨v6, xs6, hv6, hrow6, hvI6, hel6⟩ := Hj6.out.var
          obtain ⟨oa6, c6, rfl⟩ := row_slice hrow6
          have hqf6 := Hj6.out.frozen
          have Hrow6 := Lib.hid hrow6
          have HvI6 := Lib.hid (And.intro hvI6 hel6)
          have hNl := HLc.out
          obtain ⟨N, hN⟩ : ∃ N, N = Lc.length := ⟨_, rfl⟩
          have Hrow6n := Lib.hid (show w6.ownsRow wA.heap.size 64 2 (.slice oa6 N c6) N xs6 by rw [hN]; exact hrow6)
          have hv6n : w6.cell? ⟨w.heap.size + 1, 0, none⟩ = some (.slice oa6 N c6) := by rw [hN]; exact hv6
          rw [← hN] at hNl
          have HN := Lib.hid hN
          have Hv6 := Lib.hid hv6
          have p0 := Hpb6.out 0 _ rfl
          have p1 := Hpb6.out 1 _ rfl
          have hIlt := Lib.hid (fun i (hi : I i) => Nat.lt_of_lt_of_le (hI i hi).2 Hs6.out)
          obtain ⟨ii, hi1, hi2, hi3, hi4⟩ := info_parts i64
          have hn1 := is_cell0 w6 (.slice om c.1.length cm) (.int .i64 (c.2 : Nat)) 64
          have hn2 := is_cell1 w6 (.slice om c.1.length cm) (.int .i64 (c.2 : Nat)) 64
          clear hrow6 hvI6 hel6 hN hv6
          gi_wp2_with (first | (gi_at_builtin; refine wpListIn_append_own_at _ rfl _ _ 61 rfl wA.heap.size 64 ii _ 2 32 Try.underlying61 hi1 hi2 hi3 hi4 rfl (by decide) _ N xs6 rfl (row_mv Hrow6n.out (Mv.of_ext (I := fun _ => False) ((Ext.refl w6).alloc _)) (fun _ _ h => h)) ⟨w6.heap.size, 0, none⟩ 1 1 (cutL om c.1.length cm c.2) rfl rfl ?_ (by simp [Value.oneCell']) (by unfold maxLen; omega) (by omega) (Nat.le_trans Hj6.out.turned.size ((Ext.refl w6).alloc _).size) ?_))
          · intro j u hu
            match j, hu with
            | 0, hu => simp at hu; subst hu; simp [Addr.add]
            | 1, hu => simp at hu; subst hu; simp [Addr.add]
          · intro v' w7 hr7 hg7 _ hat
            have X6 : Ext w6 (w6.alloc (.cells #[.slice om c.1.length cm, .int .i64 (c.2 : Nat)] 64)) := (Ext.refl w6).alloc _
            have hm7 := BestIn.app (e := 64) (by decide) (by omega) Hj6.out hIlt.out X6 Hv6.out Hrow6.out HvI6.out.1 HvI6.out.2 (x := c) (om := om) (cm := cm) (Ho6.out.ext X6) HoI.out (by rw [← HN.out]; exact hr7) (by rw [← HN.out]; exact hg7) (by rw [← HN.out, World.size_alloc]; exact hat)
            obtain ⟨g7, c7, hv7⟩ : ∃ g c, v' = .slice (some ⟨g, 0, none⟩) (N + 1) c := by
              rcases hr7.2 with ⟨_, h2⟩ | ⟨g, c, cur, h1, _⟩
              · omega
              · exact ⟨g, c, h1⟩
            subst hv7
            have Hm7 := Lib.hid hm7
            have hE7 : Mv (fun i => (Value.slice oa6 N c6).ownBlock = some i) (w6.alloc (.cells #[.slice om c.1.length cm, .int .i64 (c.2 : Nat)] 64)) w7 := Mv.of_grown hg7 fun i h => h
            have hqb : ¬ (Value.slice oa6 N c6).ownBlock = some (w.heap.size + 1) := fun h => by have := (World.ownsRow.lt Hrow6n.out _ h).1; omega
            have cq7 : w7.cell? ⟨w.heap.size + 1, 0, none⟩ = some (.slice oa6 N c6) := hE7.cell hqb (cell_ext X6 hv6n)
            have cf7 : w7.frozen? ⟨w.heap.size + 1, 0, none⟩ = false := (hE7.frozen hqb (Nat.lt_of_lt_of_le Hj6.out.lt X6.size)).trans ((frozen_ext X6 Hj6.out.lt).trans hqf6)
            clear hm7 hr7 hg7 hat hn1 hn2 hE7 hqb p0 p1 hv6n hqf6
            gi_wp2
            exact ⟨HK6.out.1.trans Hm7.out.2.2, HK6.out.2.trans Hm7.out.2.1, by have h9 := Hm7.out.1; rw [Hst.out] at h9; exact h9⟩
  case norm =>
    intro D I W hj hD hK
    rw [List.take_length] at hj
    have HW := Lib.hid (ext_own HA.out hj.turned (by omega))
    obtain ⟨v, xs, hv, hrow, _, hel⟩ := hj.var
    obtain ⟨oa, c, rfl⟩ := row_slice hrow
    have HK := Lib.hid hK
    have hA := HA.out.size
    have Hrow := Lib.hid hrow
    have Hel := Lib.hid hel
    generalize hNe : ((cuts j).foldl bestStep []).length = N at *
    have HNe := Lib.hid hNe
    clear hj hK hrow hel h0 hlb hNe
    go_wp2
    refine ⟨by simp, .inl ⟨_, _, rfl, run_takeDeferred HK.out, ?_⟩⟩
    exact ⟨_, results_tmp rfl _ _ _, _, rfl, ⟨wA.heap.size, xs, by rw [show (bests j).length = N from HNe.out]; exact row_put Hrow.out HK.out rfl, fun x hx => by
      obtain ⟨om, cm, h1, h2, h3⟩ := Hel.out x hx
      exact ⟨om, cm, h1, own_put h2 HK.out rfl, fun _ _ h => h⟩⟩, Mv.ext HW.out (putObj_mv W D _) (fun i e => by rw [e]; exact Nat.le_trans hA hD)⟩
  case stop =>
    rintro D c W h
    exact h.elim

end Go.Proofs.Ytdmegfbeibbmfaa
