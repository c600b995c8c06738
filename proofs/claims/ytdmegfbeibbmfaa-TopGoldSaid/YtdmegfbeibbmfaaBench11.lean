/- Contract: bests of a bench. No condition beyond benches as defined. -/
import Derived.Test.YtdmegfbeibbmfaaBench10
set_option linter.unusedVariables false
set_option linter.unusedSimpArgs false
namespace Go.Proofs.Ytdmegfbeibbmfaa
open Go.RowKit Go.My Go.GoldM Go.Shelf
attribute [local go_sem] Oper.semAt_some

/-- What is known of when the strokes of each plan end. -/
structure EndsKnown (x : Bn) (Fp : List Nat → Nat → Nat) : Prop where
  len : ∀ p ∈ plansOf x, p.length = x.sts.length
  ends : ∀ p ∈ plansOf x, EndsAre x.sts p (Fp p)
  le : ∀ p ∈ plansOf x, ∀ n, n < x.sts.length → Fp p n ≤ 60
abbrev longs (x : Bn) (Fp : List Nat → Nat → Nat) : List Nat := (plansOf x).map fun p => longN x.sts (Fp p)
theorem longs_take (x : Bn) (Fp : List Nat → Nat → Nat) {k : Nat} {p : List Nat} (h : (plansOf x)[k]? = some p) : (longs x Fp).take (k + 1) = (longs x Fp).take k ++ [longN x.sts (Fp p)] := by
  have hk := (List.getElem?_eq_some_iff.1 h).1
  have hl : k < (longs x Fp).length := by simpa using hk
  rw [List.take_succ_eq_append_getElem hl]
  simp [(List.getElem?_eq_some_iff.1 h).2]

set_option maxRecDepth 100000 in
set_option maxHeartbeats 8000000 in
theorem bests21 (x : Bn) (f : FineB x) (Fp : List Nat → Nat → Nat) (hK : EndsKnown x Fp) (hnp : 1 ≤ (plansOf x).length ∧ (plansOf x).length ≤ 1000) (ob os : Option Addr) (cb cs : Nat) (w : World) (h : BnAt w x ob os) (hos : ∀ ad, os = some ad → ad.block < w.heap.size) :
    Calls Try.prog 21 #[bnV x ob cb os cs] w fun e w' => ∃ B v, e = .returned v ∧ OutAt w' B (fun j => (longs x Fp).getD j 0) (plansOf x).length v ∧ Ext w w' := by
  have H := Lib.hid h
  have Hf := Lib.hid f
  have HKn := Lib.hid hK
  have HB0 := Lib.hid (VB.new w (bnL x ob cb os cs) 57)
  refine (callsIn_wide (n := 3)).1 (callsIn_of_wp_marks Try.func21 rfl trivial (wpIn_wide.2 ?_))
  simp only [Try.ntmps21, List.size_toArray, List.length_cons, List.length_nil, Nat.reduceAdd, Nat.reduceSub, Array.replicate_succ, Array.replicate_zero, List.push_toArray, List.append_toArray, List.nil_append, List.cons_append]
  go_wp2_with (first | (go_at_call 45; refine (plans45 x ob os cb cs _).mono ?_; rintro e w1 ⟨rfl, h1⟩; have H1 := Lib.hid h1; clear h1))
  have hwA : w1 = ((w.alloc (.cells (bnL x ob cb os cs).toArray 57)).alloc (.cells #[.slice none 0 0] 76)).alloc (.cells (bnL x ob cb os cs).toArray 57) := H1.out
  have hXA : Ext w w1 := by rw [hwA]; exact (((Ext.refl w).alloc _).alloc _).alloc _
  have hq0 : w1.cell? ⟨w.heap.size + 1, 0, none⟩ = some (.slice none 0 0) := by rw [hwA]; exact cell_ext ((Ext.refl _).alloc _) (cell2 _ _ _ _)
  have hqf : w1.frozen? ⟨w.heap.size + 1, 0, none⟩ = false := by
    rw [hwA]
    exact (frozen_ext (p := ⟨w.heap.size + 1, 0, none⟩) ((Ext.refl _).alloc _) (by simp)).trans (frozen2 _ _ _ _)
  have hbx : VB w1 w.heap.size (bnL x ob cb os cs) := by rw [hwA]; exact (HB0.out.ext ((Ext.refl _).alloc _)).ext ((Ext.refl _).alloc _)
  have hby : VB w1 (w.heap.size + 1 + 1) (bnL x ob cb os cs) := by
    have h9 := VB.new ((w.alloc (.cells (bnL x ob cb os cs).toArray 57)).alloc (.cells #[.slice none 0 0] 76)) (bnL x ob cb os cs) 57
    rw [size2] at h9
    rw [hwA]; exact h9
  have hsz : w1.heap.size = w.heap.size + 3 := by rw [hwA]; simp
  have HA := Lib.hid hXA
  have HBx := Lib.hid hbx
  have hosb : ∀ ad, os = some ad → ad.block < w1.heap.size ∧ ¬ ad.block = w.heap.size + 1 := fun ad had => by have := hos ad had; omega
  have HIt := Lib.hid (iter_plans x f ob os cb cs (w.heap.size + 1 + 1) (fun i => i = w.heap.size + 1) w1 (by omega) (by omega) hosb hby (h.ss.ext hXA))
  have h0 : TimedIn (w.heap.size + 1) w1 ((longs x Fp).take 0) (fun _ => False) w1 := ⟨Turned.refl _ _, fun _ h => h.elim, hqf, _, [], hq0, World.ownsRow_nil _ _ _ _, (fun b hb => by cases hb), fun j m hl => by simp at hl⟩
  have hszl : w.heap.size + 1 < w1.heap.size := by omega
  have Hsz := Lib.hid hsz
  clear hsz hwA H1 hq0 hqf hXA hbx hby HB0 h f hK hos hosb
  refine wp_rangeFunc_each (gf := 68) (lb := #[.pointer (some ⟨w.heap.size + 1 + 1, 0, none⟩)]) rfl (enters_of Try.func68 (by kernel_rfl) rfl) (plansOf x).length (fun i => i = w.heap.size + 1) (PlanP x w1.heap.size)
    (fun k => TimedIn (w.heap.size + 1) w1 ((longs x Fp).take k)) (fun k I I' W W' h hM hI' => h.mv (by omega) hM hI') (fun k I W l o o' h hl ho hoc => h.put (by omega) hl ho hoc) (fun _ _ => False) (fun _ _ _ _ _ h => h.elim) h0 HIt.out
    (PlanAt x w1 fun v => { tmps := #[bnV x ob cb os cs, .pointer (some ⟨w.heap.size, 0, none⟩), .slice none 0 0, .pointer (some ⟨w.heap.size + 1, 0, none⟩), v, bnV x ob cb os cs, .func (.func 68) #[] #[.pointer (some ⟨w.heap.size + 1 + 1, 0, none⟩)], v, undef, undef, undef, undef, undef, undef, undef, undef, undef, undef, undef], defers := [] })
    (PlanAt.put x w1 _) ?assign ?body ?norm ?stop
  case assign =>
    rintro l m k I v W hk hj ⟨p, om, cm, hm, rfl, ho, hb⟩ hI K hK
    have Hk := Lib.hid (hK _ W (KeepsOthers.refl W) (Mv.refl _ W) hj ⟨p, om, cm, hm, rfl, rfl, ho, hb⟩)
    clear hK
    gi_wp2
    exact Hk.out
  case body =>
    intro l m k I v a' Wb hk hj hp hI
    obtain ⟨p, om, cm, hm, rfl, rfl, ho, hoI⟩ := hp
    have Hpm := Lib.hid (List.mem_of_getElem? hm)
    have hEW : Ext w Wb := ext_own HA.out hj.turned (by omega)
    have HEW := Lib.hid hEW
    have Hbx := Lib.hid (show VB Wb w.heap.size (bnL x ob cb os cs) from fun i u hu => Turned.cell hj.turned (by simp) (HBx.out i u hu))
    have Ho := Lib.hid (And.intro ho hoI)
    have Hj := Lib.hid hj
    have hll : ((longs x Fp).take k).length = k := by rw [List.length_take]; simp; omega
    have Hk1 := Lib.hid (longs_take x Fp hm)
    obtain ⟨v, xs, hv, hrow, hvI, hel⟩ := hj.var
    have Hv0 := Lib.hid hv
    have hqf2 := hj.frozen
    obtain ⟨oa, c, rfl⟩ := row_slice hrow
    have Hrow0 := Lib.hid hrow
    have Hel := Lib.hid (And.intro hvI hel)
    obtain ⟨N, hN⟩ : ∃ N, N = ((longs x Fp).take k).length := ⟨_, rfl⟩
    rw [← hN] at hv hrow
    have hNk : N = k := by rw [hN]; exact hll
    have Hrow := Lib.hid hrow
    have HN := Lib.hid hN
    have hN5 : N ≤ 1000 := by omega
    clear hm hj ho hoI hrow hvI hel hN hNk hll hEW h0
    refine wpIn_block ?_
    have X0 := (Ext.refl Wb).drew
    refine wpIn_region_planR (.take 1 <| .take 2 <| .take 3 <| .two 0 4 (.only 4 <| .only 5 <| .take 6 <| .only 7 <| .only 8 <| .only 9 <| .done) (.two 0 5 (.only 5 <| .take 6 <| .only 7 <| .only 8 <| .only 9 <| .done) (.take 6 <| .two 0 7 (.only 7 <| .only 8 <| .only 9 <| .done) (.only 0 <| .only 8 <| .only 9 <| .done)))) (fun W => VB W w.heap.size (bnL x ob cb os cs)) mixed (by kernel_rfl) (by kernel_rfl) rfl (fun _ _ d _ _ h => by cases d <;> exact h) (fun _ h => h) (Hbx.out.ext (Ext.refl Wb).drew) (by kernel_rfl) ?_
    repeat ((first | (refine planIn_take (v := ?_) rfl rfl (fun W hW => ?_) ?_; rotate_left; (focus (have d0 := hW 0 _ rfl; have d1 := hW 1 _ rfl; have d2 := hW 2 _ rfl; go_simp; first | exact rfl | (split <;> first | exact rfl | (exfalso; omega)) | done))) | refine planIn_skip rfl rfl ?_); simp only [Act.put, List.setIfInBounds_toArray, List.set_cons_zero, List.set_cons_succ])
    refine planIn_two rfl rfl ?_ ?_
    · intro K hK
      have hv1 := cell_ext X0 hv
      gi_wp2
      refine hK _ _ (Hbx.out.ext X0) ?_
      clear hv1
      refine planIn_walk rfl ?_; intro K hK
      gi_wp2_with (first | (refine ⟨trivial, (fun h => by cases h), ?_⟩; gi_at_call 46; refine (callsIn_wide.2 (workOf46 x ob os om cb cs p.length cm (fE (Fp p)) _)).mono ?_; rintro e w5 ⟨mb, rfl, hm5, hmb5, hE5⟩))
      have X5 := X0.trans hE5
      have hmbW := Nat.le_trans X0.size hmb5
      refine hK _ _ (Hbx.out.ext X5) ?_
      have H47 := Lib.hid (long47 x Hf.out ob os om cb cs cm mb p (Fp p) (HKn.out.ends p Hpm.out) (HKn.out.le p Hpm.out) (HKn.out.len p Hpm.out) w5 hm5 ⟨H.out.ss.ext (HEW.out.trans X5), (own_nats (Ho.out.1.ext X5)).2.2⟩)
      clear hE5 hm5 hmb5
      refine planIn_walk rfl ?_; intro K hK
      gi_wp2_with (first | (refine ⟨trivial, (fun h => by cases h), ?_⟩; gi_at_call 47; refine (callsIn_wide.2 (H47.out)).mono ?_; rintro e w6 ⟨rfl, hke⟩))
      have X6 := Mv.ext X5 hke.mv (fun i hi => by rw [hi]; exact hmbW)
      refine hK _ _ (Hbx.out.ext X6) ?_
      clear hke
      repeat ((first | (refine planIn_take (v := ?_) rfl rfl (fun W hW => ?_) ?_; rotate_left; (focus (skip; go_simp; first | exact rfl | (split <;> first | exact rfl | (exfalso; omega)) | done))) | refine planIn_skip rfl rfl ?_); simp only [Act.put, List.setIfInBounds_toArray, List.set_cons_zero, List.set_cons_succ])
      refine planIn_walk rfl ?_; intro K hK
      gi_wp2
      have X7 := X6.alloc (.cells #[.slice om p.length cm, .int .i64 (longN x.sts (Fp p) : Nat)] 75)
      refine hK _ _ (Hbx.out.ext X7) ?_
      refine planIn_walk rfl ?_; intro K hK
      obtain ⟨ii, hi1, hi2, hi3, hi4⟩ := info_parts i75
      have hn1 := is_cell0 w6 (.slice om p.length cm) (.int .i64 (longN x.sts (Fp p) : Nat)) 75
      have hn2 := is_cell1 w6 (.slice om p.length cm) (.int .i64 (longN x.sts (Fp p) : Nat)) 75
      gi_wp2_with (first | (gi_at_builtin; refine wpListIn_append_own_at _ rfl _ _ 76 rfl w1.heap.size 75 ii _ 2 32 Try.underlying76 hi1 hi2 hi3 hi4 rfl (by decide) _ N xs rfl (row_mv Hrow.out (Mv.of_ext (I := fun _ => False) X7) (fun _ _ h => h)) ⟨w6.heap.size, 0, none⟩ 1 1 [.slice om p.length cm, .int .i64 (longN x.sts (Fp p) : Nat)] rfl rfl ?_ (by simp [Value.oneCell']) (by unfold maxLen; omega) (by omega) (Nat.le_trans Hj.out.turned.size X7.size) ?_))
      · intro j u hu
        match j, hu with
        | 0, hu => simp at hu; subst hu; simp [Addr.add]
        | 1, hu => simp at hu; subst hu; simp [Addr.add]
      · intro v' w7 hr7 hg7 _ hat
        have hm7 := TimedIn.app (by omega) Hj.out (fun i hi => (hI i hi).2) X7 Hv0.out Hrow0.out Hel.out.1 Hel.out.2 (m := longN x.sts (Fp p)) (om := om) (nm := p.length) (cm := cm) (by rw [← HN.out]; exact hr7) (by rw [← HN.out]; exact hg7) (by rw [← HN.out, World.size_alloc]; exact hat)
        rw [← Hk1.out] at hm7
        obtain ⟨g7, c7, hv7⟩ : ∃ g c, v' = .slice (some ⟨g, 0, none⟩) (N + 1) c := by
          rcases hr7.2 with ⟨_, h2⟩ | ⟨g, c, cur, h1, _⟩
          · omega
          · exact ⟨g, c, h1⟩
        subst hv7
        have Hm7 := Lib.hid hm7
        have hE7 : Mv (fun i => (Value.slice oa N c).ownBlock = some i) (w6.alloc (.cells #[.slice om p.length cm, .int .i64 (longN x.sts (Fp p) : Nat)] 75)) w7 := Mv.of_grown hg7 fun i h => h
        have hown : ∀ b, (Value.slice oa N c).ownBlock = some b → w1.heap.size ≤ b := fun b hb => (World.ownsRow.lt Hrow.out b hb).1
        have hp7 : VB w7 w.heap.size (bnL x ob cb os cs) := fun i u hu => hE7.cell (fun h => by have := hown _ h; simp only at this; omega) ((Hbx.out.ext X7) i u hu)
        have hqb : ¬ (Value.slice oa N c).ownBlock = some (w.heap.size + 1) := fun h => by have := hown _ h; omega
        have cq7 : w7.cell? ⟨w.heap.size + 1, 0, none⟩ = some (.slice oa N c) := hE7.cell hqb (cell_ext X7 hv)
        have cf7 : w7.frozen? ⟨w.heap.size + 1, 0, none⟩ = false := (hE7.frozen hqb (Nat.lt_of_lt_of_le Hj.out.lt X7.size)).trans ((frozen_ext X7 Hj.out.lt).trans hqf2)
        clear hm7 hr7 hg7 hat hn1 hn2 hE7 hqb hown
        refine hK _ _ hp7 ?_
        refine planIn_walk rfl ?_; intro K hK
        gi_wp2
        refine hK _ _ (fun i u hu => Turned.cell ((Turned.refl (w.heap.size + 1) w7).set 0 _) (by simp) (hp7 i u hu)) ?_
        refine planIn_done ?_
        exact ⟨Hm7.out.2.2, Hm7.out.2.1, Hm7.out.1⟩
    · intro K hK
      gi_wp2_with (first | (refine ⟨trivial, (fun h => by cases h), ?_⟩; gi_at_call 46; refine (callsIn_wide.2 (workOf46 x ob os om cb cs p.length cm (fE (Fp p)) _)).mono ?_; rintro e w5 ⟨mb, rfl, hm5, hmb5, hE5⟩))
      have X5 := X0.trans hE5
      have hmbW := Nat.le_trans X0.size hmb5
      refine hK _ _ (Hbx.out.ext X5) ?_
      have H47 := Lib.hid (long47 x Hf.out ob os om cb cs cm mb p (Fp p) (HKn.out.ends p Hpm.out) (HKn.out.le p Hpm.out) (HKn.out.len p Hpm.out) w5 hm5 ⟨H.out.ss.ext (HEW.out.trans X5), (own_nats (Ho.out.1.ext X5)).2.2⟩)
      clear hE5 hm5 hmb5
      refine planIn_two rfl rfl ?_ ?_
      · intro K hK
        have hv1 := cell_ext X5 hv
        gi_wp2
        refine hK _ _ (Hbx.out.ext X5) ?_
        clear hv1
        refine planIn_walk rfl ?_; intro K hK
        gi_wp2_with (first | (refine ⟨trivial, (fun h => by cases h), ?_⟩; gi_at_call 47; refine (callsIn_wide.2 (H47.out)).mono ?_; rintro e w6 ⟨rfl, hke⟩))
        have X6 := Mv.ext X5 hke.mv (fun i hi => by rw [hi]; exact hmbW)
        refine hK _ _ (Hbx.out.ext X6) ?_
        clear hke
        repeat ((first | (refine planIn_take (v := ?_) rfl rfl (fun W hW => ?_) ?_; rotate_left; (focus (skip; go_simp; first | exact rfl | (split <;> first | exact rfl | (exfalso; omega)) | done))) | refine planIn_skip rfl rfl ?_); simp only [Act.put, List.setIfInBounds_toArray, List.set_cons_zero, List.set_cons_succ])
        refine planIn_walk rfl ?_; intro K hK
        gi_wp2
        have X7 := X6.alloc (.cells #[.slice om p.length cm, .int .i64 (longN x.sts (Fp p) : Nat)] 75)
        refine hK _ _ (Hbx.out.ext X7) ?_
        refine planIn_walk rfl ?_; intro K hK
        obtain ⟨ii, hi1, hi2, hi3, hi4⟩ := info_parts i75
        have hn1 := is_cell0 w6 (.slice om p.length cm) (.int .i64 (longN x.sts (Fp p) : Nat)) 75
        have hn2 := is_cell1 w6 (.slice om p.length cm) (.int .i64 (longN x.sts (Fp p) : Nat)) 75
        gi_wp2_with (first | (gi_at_builtin; refine wpListIn_append_own_at _ rfl _ _ 76 rfl w1.heap.size 75 ii _ 2 32 Try.underlying76 hi1 hi2 hi3 hi4 rfl (by decide) _ N xs rfl (row_mv Hrow.out (Mv.of_ext (I := fun _ => False) X7) (fun _ _ h => h)) ⟨w6.heap.size, 0, none⟩ 1 1 [.slice om p.length cm, .int .i64 (longN x.sts (Fp p) : Nat)] rfl rfl ?_ (by simp [Value.oneCell']) (by unfold maxLen; omega) (by omega) (Nat.le_trans Hj.out.turned.size X7.size) ?_))
        · intro j u hu
          match j, hu with
          | 0, hu => simp at hu; subst hu; simp [Addr.add]
          | 1, hu => simp at hu; subst hu; simp [Addr.add]
        · intro v' w7 hr7 hg7 _ hat
          have hm7 := TimedIn.app (by omega) Hj.out (fun i hi => (hI i hi).2) X7 Hv0.out Hrow0.out Hel.out.1 Hel.out.2 (m := longN x.sts (Fp p)) (om := om) (nm := p.length) (cm := cm) (by rw [← HN.out]; exact hr7) (by rw [← HN.out]; exact hg7) (by rw [← HN.out, World.size_alloc]; exact hat)
          rw [← Hk1.out] at hm7
          obtain ⟨g7, c7, hv7⟩ : ∃ g c, v' = .slice (some ⟨g, 0, none⟩) (N + 1) c := by
            rcases hr7.2 with ⟨_, h2⟩ | ⟨g, c, cur, h1, _⟩
            · omega
            · exact ⟨g, c, h1⟩
          subst hv7
          have Hm7 := Lib.hid hm7
          have hE7 : Mv (fun i => (Value.slice oa N c).ownBlock = some i) (w6.alloc (.cells #[.slice om p.length cm, .int .i64 (longN x.sts (Fp p) : Nat)] 75)) w7 := Mv.of_grown hg7 fun i h => h
          have hown : ∀ b, (Value.slice oa N c).ownBlock = some b → w1.heap.size ≤ b := fun b hb => (World.ownsRow.lt Hrow.out b hb).1
          have hp7 : VB w7 w.heap.size (bnL x ob cb os cs) := fun i u hu => hE7.cell (fun h => by have := hown _ h; simp only at this; omega) ((Hbx.out.ext X7) i u hu)
          have hqb : ¬ (Value.slice oa N c).ownBlock = some (w.heap.size + 1) := fun h => by have := hown _ h; omega
          have cq7 : w7.cell? ⟨w.heap.size + 1, 0, none⟩ = some (.slice oa N c) := hE7.cell hqb (cell_ext X7 hv)
          have cf7 : w7.frozen? ⟨w.heap.size + 1, 0, none⟩ = false := (hE7.frozen hqb (Nat.lt_of_lt_of_le Hj.out.lt X7.size)).trans ((frozen_ext X7 Hj.out.lt).trans hqf2)
          clear hm7 hr7 hg7 hat hn1 hn2 hE7 hqb hown
          refine hK _ _ hp7 ?_
          refine planIn_walk rfl ?_; intro K hK
          gi_wp2
          refine hK _ _ (fun i u hu => Turned.cell ((Turned.refl (w.heap.size + 1) w7).set 0 _) (by simp) (hp7 i u hu)) ?_
          refine planIn_done ?_
          exact ⟨Hm7.out.2.2, Hm7.out.2.1, Hm7.out.1⟩
      · intro K hK
        gi_wp2_with (first | (refine ⟨trivial, (fun h => by cases h), ?_⟩; gi_at_call 47; refine (callsIn_wide.2 (H47.out)).mono ?_; rintro e w6 ⟨rfl, hke⟩))
        have X6 := Mv.ext X5 hke.mv (fun i hi => by rw [hi]; exact hmbW)
        refine hK _ _ (Hbx.out.ext X6) ?_
        clear hke
        repeat ((first | (refine planIn_take (v := ?_) rfl rfl (fun W hW => ?_) ?_; rotate_left; (focus (skip; go_simp; first | exact rfl | (split <;> first | exact rfl | (exfalso; omega)) | done))) | refine planIn_skip rfl rfl ?_); simp only [Act.put, List.setIfInBounds_toArray, List.set_cons_zero, List.set_cons_succ])
        refine planIn_two rfl rfl ?_ ?_
        · intro K hK
          have hv1 := cell_ext X6 hv
          gi_wp2
          refine hK _ _ (Hbx.out.ext X6) ?_
          clear hv1
          refine planIn_walk rfl ?_; intro K hK
          gi_wp2
          have X7 := X6.alloc (.cells #[.slice om p.length cm, .int .i64 (longN x.sts (Fp p) : Nat)] 75)
          refine hK _ _ (Hbx.out.ext X7) ?_
          refine planIn_walk rfl ?_; intro K hK
          obtain ⟨ii, hi1, hi2, hi3, hi4⟩ := info_parts i75
          have hn1 := is_cell0 w6 (.slice om p.length cm) (.int .i64 (longN x.sts (Fp p) : Nat)) 75
          have hn2 := is_cell1 w6 (.slice om p.length cm) (.int .i64 (longN x.sts (Fp p) : Nat)) 75
          gi_wp2_with (first | (gi_at_builtin; refine wpListIn_append_own_at _ rfl _ _ 76 rfl w1.heap.size 75 ii _ 2 32 Try.underlying76 hi1 hi2 hi3 hi4 rfl (by decide) _ N xs rfl (row_mv Hrow.out (Mv.of_ext (I := fun _ => False) X7) (fun _ _ h => h)) ⟨w6.heap.size, 0, none⟩ 1 1 [.slice om p.length cm, .int .i64 (longN x.sts (Fp p) : Nat)] rfl rfl ?_ (by simp [Value.oneCell']) (by unfold maxLen; omega) (by omega) (Nat.le_trans Hj.out.turned.size X7.size) ?_))
          · intro j u hu
            match j, hu with
            | 0, hu => simp at hu; subst hu; simp [Addr.add]
            | 1, hu => simp at hu; subst hu; simp [Addr.add]
          · intro v' w7 hr7 hg7 _ hat
            have hm7 := TimedIn.app (by omega) Hj.out (fun i hi => (hI i hi).2) X7 Hv0.out Hrow0.out Hel.out.1 Hel.out.2 (m := longN x.sts (Fp p)) (om := om) (nm := p.length) (cm := cm) (by rw [← HN.out]; exact hr7) (by rw [← HN.out]; exact hg7) (by rw [← HN.out, World.size_alloc]; exact hat)
            rw [← Hk1.out] at hm7
            obtain ⟨g7, c7, hv7⟩ : ∃ g c, v' = .slice (some ⟨g, 0, none⟩) (N + 1) c := by
              rcases hr7.2 with ⟨_, h2⟩ | ⟨g, c, cur, h1, _⟩
              · omega
              · exact ⟨g, c, h1⟩
            subst hv7
            have Hm7 := Lib.hid hm7
            have hE7 : Mv (fun i => (Value.slice oa N c).ownBlock = some i) (w6.alloc (.cells #[.slice om p.length cm, .int .i64 (longN x.sts (Fp p) : Nat)] 75)) w7 := Mv.of_grown hg7 fun i h => h
            have hown : ∀ b, (Value.slice oa N c).ownBlock = some b → w1.heap.size ≤ b := fun b hb => (World.ownsRow.lt Hrow.out b hb).1
            have hp7 : VB w7 w.heap.size (bnL x ob cb os cs) := fun i u hu => hE7.cell (fun h => by have := hown _ h; simp only at this; omega) ((Hbx.out.ext X7) i u hu)
            have hqb : ¬ (Value.slice oa N c).ownBlock = some (w.heap.size + 1) := fun h => by have := hown _ h; omega
            have cq7 : w7.cell? ⟨w.heap.size + 1, 0, none⟩ = some (.slice oa N c) := hE7.cell hqb (cell_ext X7 hv)
            have cf7 : w7.frozen? ⟨w.heap.size + 1, 0, none⟩ = false := (hE7.frozen hqb (Nat.lt_of_lt_of_le Hj.out.lt X7.size)).trans ((frozen_ext X7 Hj.out.lt).trans hqf2)
            clear hm7 hr7 hg7 hat hn1 hn2 hE7 hqb hown
            refine hK _ _ hp7 ?_
            refine planIn_walk rfl ?_; intro K hK
            gi_wp2
            refine hK _ _ (fun i u hu => Turned.cell ((Turned.refl (w.heap.size + 1) w7).set 0 _) (by simp) (hp7 i u hu)) ?_
            refine planIn_done ?_
            exact ⟨Hm7.out.2.2, Hm7.out.2.1, Hm7.out.1⟩
        · intro K hK
          gi_wp2
          have X7 := X6.alloc (.cells #[.slice om p.length cm, .int .i64 (longN x.sts (Fp p) : Nat)] 75)
          refine hK _ _ (Hbx.out.ext X7) ?_
          refine planIn_walk rfl ?_; intro K hK
          have hv1 := cell_ext X7 hv
          gi_wp2
          refine hK _ _ (Hbx.out.ext X7) ?_
          clear hv1
          refine planIn_walk rfl ?_; intro K hK
          obtain ⟨ii, hi1, hi2, hi3, hi4⟩ := info_parts i75
          have hn1 := is_cell0 w6 (.slice om p.length cm) (.int .i64 (longN x.sts (Fp p) : Nat)) 75
          have hn2 := is_cell1 w6 (.slice om p.length cm) (.int .i64 (longN x.sts (Fp p) : Nat)) 75
          gi_wp2_with (first | (gi_at_builtin; refine wpListIn_append_own_at _ rfl _ _ 76 rfl w1.heap.size 75 ii _ 2 32 Try.underlying76 hi1 hi2 hi3 hi4 rfl (by decide) _ N xs rfl (row_mv Hrow.out (Mv.of_ext (I := fun _ => False) X7) (fun _ _ h => h)) ⟨w6.heap.size, 0, none⟩ 1 1 [.slice om p.length cm, .int .i64 (longN x.sts (Fp p) : Nat)] rfl rfl ?_ (by simp [Value.oneCell']) (by unfold maxLen; omega) (by omega) (Nat.le_trans Hj.out.turned.size X7.size) ?_))
          · intro j u hu
            match j, hu with
            | 0, hu => simp at hu; subst hu; simp [Addr.add]
            | 1, hu => simp at hu; subst hu; simp [Addr.add]
          · intro v' w7 hr7 hg7 _ hat
            have hm7 := TimedIn.app (by omega) Hj.out (fun i hi => (hI i hi).2) X7 Hv0.out Hrow0.out Hel.out.1 Hel.out.2 (m := longN x.sts (Fp p)) (om := om) (nm := p.length) (cm := cm) (by rw [← HN.out]; exact hr7) (by rw [← HN.out]; exact hg7) (by rw [← HN.out, World.size_alloc]; exact hat)
            rw [← Hk1.out] at hm7
            obtain ⟨g7, c7, hv7⟩ : ∃ g c, v' = .slice (some ⟨g, 0, none⟩) (N + 1) c := by
              rcases hr7.2 with ⟨_, h2⟩ | ⟨g, c, cur, h1, _⟩
              · omega
              · exact ⟨g, c, h1⟩
            subst hv7
            have Hm7 := Lib.hid hm7
            have hE7 : Mv (fun i => (Value.slice oa N c).ownBlock = some i) (w6.alloc (.cells #[.slice om p.length cm, .int .i64 (longN x.sts (Fp p) : Nat)] 75)) w7 := Mv.of_grown hg7 fun i h => h
            have hown : ∀ b, (Value.slice oa N c).ownBlock = some b → w1.heap.size ≤ b := fun b hb => (World.ownsRow.lt Hrow.out b hb).1
            have hp7 : VB w7 w.heap.size (bnL x ob cb os cs) := fun i u hu => hE7.cell (fun h => by have := hown _ h; simp only at this; omega) ((Hbx.out.ext X7) i u hu)
            have hqb : ¬ (Value.slice oa N c).ownBlock = some (w.heap.size + 1) := fun h => by have := hown _ h; omega
            have cq7 : w7.cell? ⟨w.heap.size + 1, 0, none⟩ = some (.slice oa N c) := hE7.cell hqb (cell_ext X7 hv)
            have cf7 : w7.frozen? ⟨w.heap.size + 1, 0, none⟩ = false := (hE7.frozen hqb (Nat.lt_of_lt_of_le Hj.out.lt X7.size)).trans ((frozen_ext X7 Hj.out.lt).trans hqf2)
            clear hm7 hr7 hg7 hat hn1 hn2 hE7 hqb hown
            refine hK _ _ hp7 ?_
            refine planIn_walk rfl ?_; intro K hK
            gi_wp2
            refine hK _ _ (fun i u hu => Turned.cell ((Turned.refl (w.heap.size + 1) w7).set 0 _) (by simp) (hp7 i u hu)) ?_
            refine planIn_done ?_
            exact ⟨Hm7.out.2.2, Hm7.out.2.1, Hm7.out.1⟩
  case norm =>
    intro D I W hj hD hK
    have hall : (longs x Fp).take (plansOf x).length = longs x Fp := List.take_of_length_le (by simp)
    rw [hall] at hj
    have HW := Lib.hid (ext_own HA.out hj.turned (by omega))
    have hln : (longs x Fp).length = (plansOf x).length := by simp
    obtain ⟨g, cap, hq, hcap, hcells⟩ := hj.cells (by omega)
    rw [hln] at hq hcap hcells
    have HK := Lib.hid hK
    have hA := HA.out.size
    have R48 := Lib.hid (best48 (fun j => (longs x Fp).getD j 0) g (plansOf x).length cap W hnp.2 hcap hcells)
    clear hj hK h0 hall hln hcells
    go_wp2_with (first | (go_at_call 48; refine (R48.out).mono ?_; rintro e w9 ⟨v, rfl, hO, hE9⟩; have HO := Lib.hid hO; have HE9 := Lib.hid hE9; clear hO hE9))
    have hKd : w9.heap[D]? = some (.deferred (some [])) := (HE9.out.block D (Array.getElem?_eq_some_iff.1 HK.out).1).trans HK.out
    refine ⟨by simp, .inl ⟨_, _, rfl, run_takeDeferred hKd, ?_⟩⟩
    refine ⟨_, results_tmp rfl _ _ _, W.heap.size, _, rfl, ?_, Mv.ext (HW.out.trans HE9.out) (putObj_mv _ D _) (fun i e => by rw [e]; exact Nat.le_trans hA hD)⟩
    obtain ⟨N, xs, h1, h2⟩ := HO.out
    exact ⟨N, xs, row_put h1 hKd rfl, h2⟩
  case stop =>
    rintro D c W h
    exact h.elim

end Go.Proofs.Ytdmegfbeibbmfaa
