/- Contract: the search for cuttings, all of it. No condition beyond jobs as defined. -/
import Derived.Test.YtdmegfbeibbmfaaLeaf13
set_option linter.unusedVariables false
set_option linter.unusedSimpArgs false
namespace Go.Proofs.Ytdmegfbeibbmfaa
open Go.RowKit Go.My Go.GoldM
attribute [local go_sem] Oper.semAt_some

theorem natsV_app (l : List Nat) (x : Nat) : natsV l ++ [Value.int .i64 (x : Int)] = natsV (l ++ [x]) := by simp [natsV, upL]
theorem natsV_set (l : List Nat) (i x : Nat) : (natsV l).set i (Value.int .i64 (x : Int)) = natsV (l.set i x) := by simp [natsV, upL, List.map_set]
theorem natsV_at (l : List Nat) (i : Nat) (h : i < (natsV l).length) : (natsV l)[i] = Value.int .i64 ((l.getD i 0 : Nat) : Int) := by
  rw [natsV_len] at h
  simp [natsV, upL, List.getD, h]

section
variable {j : Jb} {bj B l Kb F mb : Nat} {og oj op : Option Addr} {cg cj cp n S : Nat} {Bd : Nat → Prop} {R : Nat → (Nat → Prop) → World → Prop} {Fin : World → Prop}
set_option maxRecDepth 100000 in
set_option maxHeartbeats 8000000 in
theorem put_any (f : Fine j) (hbj : bj < n) (hbd : ¬ Bd bj) (hnS : n ≤ S) (hR : Steady R) (hY : YieldOk j l n S Bd R Fin) : ∀ (r : Nat) (now sets : List Nat) (on os : Option Addr) (cn cs k : Nat) (post : List (List Nat × Nat)) (I : Nat → Prop) (w : World),
    now.length + r = j.pieces.length → sets.length ≤ now.length → (∀ s ∈ sets, s < 2 ^ now.length) → (cuts j).drop k = cutFrom (fits j) r now sets ++ post →
    PS j bj B l Kb F mb og oj op cg cj cp S I now sets (.slice on now.length cn) (.slice os sets.length cs) w → R k (oI I (.slice on now.length cn) (.slice os sets.length cs)) w →
    Calls Try.prog 54 #[.slice on now.length cn, .slice os sets.length cs, .pointer (some ⟨bj, 0, none⟩), .pointer (some ⟨B, 0, none⟩), .pointer (some ⟨Kb, 0, none⟩), .pointer (some ⟨F, 0, none⟩)] w fun e W' => ∃ b, e = .returned (.bool b) ∧ PutPost j n mb Bd R Fin k (cutFrom (fits j) r now sets).length I w W' b := by
  have hpl := f.pl
  intro r
  induction r with
  | zero =>
    intro now sets on os cn cs k post I w hlen hsl hsm hd h hr
    have hk : (cuts j)[k]? = some (now, sets.length) := by
      have := congrArg (fun l => l[0]?) hd
      simpa [cutFrom] using this
    exact put_zero j bj B l Kb F mb og oj op cg cj cp n S Bd R Fin hY now sets on os cn cs k I w h.pb h.pI h.hI (by omega) hpl.2 (by omega) hk (h.on.low hnS) h.onI (hR k _ I w w hr (Mv.refl _ _) fun i hi => ⟨.inl (.inl hi), (h.hI i hi).2⟩)
  | succ r ih =>
    intro now sets on os cn cs k post I w hlen hsl hsm hd h hr
    have Ih := Lib.hid ih
    have HR := Lib.hid hR
    have Hd := Lib.hid hd
    have HPS0 := Lib.hid h
    have Hr := Lib.hid hr
    have Hsm := Lib.hid hsm
    have Hfine := Lib.hid f
    have b5 := h.pb.jb 5 _ rfl
    have hne : ((now.length : Int) == (j.pieces.length : Int)) = false := by simp; omega
    have q0 : IntKind.i64.wrap ((sets.length : Int) + 1) = (sets.length : Int) + 1 := by rw [IntWalk.i64_in _ (by omega)]
    have hn5 : now.length < 5 := by omega
    have hs5 : sets.length ≤ 5 := by omega
    have Hlen := Lib.hid hlen
    have Hsl := Lib.hid hsl
    have hpl5 := hpl.2
    clear hlen hsl ih hR hd h hr hsm hY hpl f
    go_enter Try.func54, Try.ntmps54
    go_wp2_with fail
    refine wp_scope_straight ?_
    go_wp2_with fail
    clear b5 hne
    refine wp_label ?_
    go_wp2_with fail
    go_loopg [26] (sets.length + 1) (fun g i wr => ∃ x : Nat, x + g = sets.length + 1 ∧ i = .int .i64 x ∧ RestM.Memo wr mb (F3 j.pieces) ∧ Mv (xI n mb Bd (oI I (.slice on now.length cn) (.slice os sets.length cs))) w wr ∧
      R (k + (cutTo (fits j) r now sets x).length) (oI I (.slice on now.length cn) (.slice os sets.length cs)) wr)
    case atStart => exact ⟨0, by omega, rfl, HPS0.out.pb.memo, Mv.refl _ _, Hr.out⟩
    case round =>
      obtain ⟨x, hx, rfl, hme, hmo, hrx⟩ := hrel
      obtain ⟨wo, rfl⟩ : ∃ wo : World, wo = wr := ⟨_, rfl⟩
      have hps := HPS0.out.mv hbj hbd hmo hme
      have HPS := Lib.hid hps
      have HMo := Lib.hid hmo
      have Hrx := Lib.hid hrx
      have hcl := clone_nats (own_nats hps.os) (by omega)
      have Hcl := Lib.hid hcl
      clear hcl hps hmo hme hrx Hr
      by_cases hlt : x ≤ sets.length
      · have hltI : (x : Int) < (sets.length : Int) + 1 := by omega
        have hxl := more_len (sets := sets) (n := x) hlt
        obtain ⟨nx, hnx⟩ : ∃ l, l = nextSets sets x now.length := ⟨_, rfl⟩
        obtain ⟨y, hy⟩ : ∃ y, y = (more sets x).getD x 0 ||| (1 <<< now.length) := ⟨_, rfl⟩
        have hsx : (more sets x).getD x 0 < 32 := by
          have h1 : (more sets x).getD x 0 ∈ more sets x := by simp [List.getD, hxl]
          have h2 := more_lt (n := x) Hsm.out _ h1
          have h3 : 2 ^ now.length ≤ 2 ^ 5 := Nat.pow_le_pow_right (by decide) (by omega)
          omega
        have q1 := shl5p hn5
        have q2 := or32 hsx (shl_lt5 hn5)
        have hy32 : y < 32 := by rw [hy]; exact (and_lt hsx (shl_lt5 hn5)).2.2.2
        rw [← hy] at q2
        have Hset := Lib.hid (show (more sets x).set x y = nx by rw [hy, ← next_more _ _ _ hlt, hnx])
        have Hnl := Lib.hid (show (more sets x).length = nx.length by rw [hnx, next_more _ _ _ hlt, List.length_set])
        have Hyx := Lib.hid (show (nextSets sets x now.length).getD x 0 = y by rw [next_at hlt, hy])
        have Hnxs := Lib.hid (show nx.length ≤ (now ++ [x]).length by
          rw [hnx, next_length, List.length_append, List.length_singleton]
          have := Hsl.out
          split <;> omega)
        have Hnxm := Lib.hid (show ∀ s ∈ nx, s < 2 ^ (now ++ [x]).length by
          rw [hnx, List.length_append, List.length_singleton]
          exact next_lt hlt Hsm.out)
        have Hnx := Lib.hid hnx
        have hxn : x < nx.length := by rw [← Hnl.out]; exact hxl
        have hxnI : (x : Int) < (nx.length : Int) := by omega
        have Hxl := Lib.hid hxl
        have HSo := Lib.hid (show S ≤ wo.heap.size by have := HPS.out.hI mb (HPS.out.pI mb (.inr (.inr (.inr (.inl rfl))))); omega)
        have Hln := Lib.hid (show (natsV sets).length < 1000000000 by rw [natsV_len]; omega)
        clear hy hnx hsx hxl
        generalize 1 <<< now.length = m at *
        generalize hsxe : (more sets x).getD x 0 = sx at *
        have Hsxe := Lib.hid hsxe
        clear hsxe
        by_cases hxe : x = sets.length
        · have hxb : ((x : Int) == (sets.length : Int)) = true := by simp; omega
          have Hmo := Lib.hid (show more sets x = sets ++ [0] by simp [more, hxe])
          clear hxe
          go_wp2_with (first | (go_at_call 55; refine (Hcl.out).mono ?_; rintro e w1 ⟨v1, rfl, ho1, hE1⟩; have Ho1 := Lib.hid ho1; have HE1 := Lib.hid hE1; clear ho1 hE1) | (at_builtin; refine wpList_app1n _ rfl _ _ 33 rfl 3 Try.underlying33 (.int .i64 0) 8 i3 rfl (by decide) wo.heap.size _ _ rfl (Ho1.out.ext ((Ext.refl w1).alloc _)) w1.heap.size (.int .i64 0) rfl (by go_simp) rfl Hln.out (HE1.out.alloc _).size ?_))
          intro vM wM hoM hBM _ _
          have HXM := Lib.hid ((HE1.out.alloc _).below hBM (Nat.le_refl _))
          replace hoM : My.Own wM wo.heap.size 3 vM (natsV (more sets x)) := by rw [Hmo.out, ← natsV_app]; exact hoM
          clear hBM
          go_wp2_with fail
          obtain ⟨g, cap, hvM, hg1, hg2, hcap, hcm, hcell, hfr, hset⟩ := hoM.cellAt (i := x) (by rw [natsV_len]; exact Hxl.out) (Value.int .i64 ((y : Nat) : Int))
          rw [natsV_len, Hnl.out] at hvM
          rw [natsV_at, Hsxe.out] at hcell
          rw [natsV_set, Hset.out] at hset
          subst hvM
          have hgs : wo.heap.size ≤ g := hg1
          have HX5 := Lib.hid (ext_own HXM.out.drew ((Turned.refl g wM.drew).set x (.int .i64 ((y : Nat) : Int))) hgs)
          have Hc5 := Lib.hid (show (wM.drew.setCell ⟨g, x, none⟩ (.int .i64 ((y : Nat) : Int))).cell? ⟨g, x, none⟩ = some (.int .i64 ((y : Nat) : Int)) by
            have := cell_ext (Ext.refl wM).drew hcell
            go_simp)
          have Hs5 := Lib.hid (show My.Own (wM.drew.setCell ⟨g, x, none⟩ (.int .i64 ((y : Nat) : Int))) wo.heap.size 3 (.slice (some ⟨g, 0, none⟩) nx.length cap) (natsV nx) by
            have h1 := (My.Own.cellAt (hoM.ext (Ext.refl wM).drew) (i := x) (by rw [natsV_len]; exact Hxl.out) (Value.int .i64 ((y : Nat) : Int)))
            obtain ⟨g', cap', e1, _, _, _, _, _, _, e2⟩ := h1
            rw [natsV_len, Hnl.out] at e1
            simp only [Value.slice.injEq, Option.some.injEq, Addr.mk.injEq] at e1
            obtain ⟨⟨rfl, _⟩, _, rfl⟩ := e1
            rw [natsV_set, Hset.out] at e2
            exact e2)
          have d3 := cell_ext (Ext.refl wM).drew hcell
          have d4 := (frozen_ext (p := ⟨g, x, none⟩) (Ext.refl wM).drew hg2).trans hfr
          clear hset hg1 hcm hcell hfr hoM hcap
          have hwd := (Ext.refl wM).drew
          refine wp_region_plan (.take 0 <| .take 1 <| .take 2 <| .take 4 <| .take 5 <| .take 6 <| .only 3 <| .take 7 <| .take 8 <| .only 9 <| .done) (fun W => Turned g wM W) mixed (by kernel_rfl) (by kernel_rfl) rfl (fun _ _ d _ _ h => by cases d <;> exact h) (Turned.of_ext (Ext.refl wM).drew) ?_
          generalize wM.drew = wd at *
          repeat ((first | (refine plan_take (v := ?_) rfl rfl (fun W hW => ?_) ?_; rotate_left; (focus (skip; go_simp; first | exact rfl | (split <;> first | exact rfl | (exfalso; omega)) | done))) | refine plan_skip rfl rfl ?_); simp only [Act.put, List.setIfInBounds_toArray, List.set_cons_zero, List.set_cons_succ])
          refine plan_walk rfl ?_; intro K hK
          go_wp2
          refine hK _ _ (Turned.of_ext hwd) ?_
          repeat ((first | (refine plan_take (v := ?_) rfl rfl (fun W hW => ?_) ?_; rotate_left; (focus (skip; go_simp; first | exact rfl | (split <;> first | exact rfl | (exfalso; omega)) | done))) | refine plan_skip rfl rfl ?_); simp only [Act.put, List.setIfInBounds_toArray, List.set_cons_zero, List.set_cons_succ])
          refine plan_walk rfl ?_; intro K hK
          go_wp2
          refine hK _ _ ((Turned.of_ext hwd).set x _) ?_
          refine plan_done ?_
          clear d3 d4 q1 q2
          generalize wd.setCell ⟨g, x, none⟩ (.int .i64 ((y : Nat) : Int)) = w5 at *
          have HPS5 := Lib.hid (HPS.out.mv hbj hbd (Mv.of_ext HX5.out) (HPS.out.pb.memo.ext HX5.out))
          have hmbg : ¬ g = mb := by
            have := HPS.out.pb.memo.lt
            omega
          have Hf := Lib.hid (fits56 j Hfine.out og op cg cp mb y w5.drew hy32 (HPS5.out.pb.memo.ext (Ext.refl w5).drew) (HPS5.out.pb.pcs.ext (Ext.refl w5).drew))
          go_wp2_with fail
          refine wp_region_plan (.take 0 <| .take 1 <| .take 2 <| .take 3 <| .take 4 <| .only 5 <| .take 6 <| .done) (fun W => PB j bj B l Kb F mb og oj op cg cj cp W ∧ W.cell? ⟨g, x, none⟩ = some (.int .i64 ((y : Nat) : Int))) mixed (by kernel_rfl) (by kernel_rfl) rfl (fun _ _ d _ _ h => by cases d <;> exact h) (⟨HPS5.out.pb.ext (Ext.refl w5).drew, cell_ext (Ext.refl w5).drew Hc5.out⟩) ?_
          repeat ((first | (refine plan_take (v := ?_) rfl rfl (fun W hW => ?_) ?_; rotate_left; (focus (have d0 := hW.2; have k0 := hW.1.kb 0 _ rfl; have k1 := hW.1.kb 1 _ rfl; have k2 := hW.1.kb 2 _ rfl; have k3 := hW.1.kb 3 _ rfl; have k4 := hW.1.kb 4 _ rfl; have k5 := hW.1.kb 5 _ rfl; have k6 := hW.1.kb 6 _ rfl; go_simp; first | exact rfl | (split <;> first | exact rfl | (exfalso; omega)) | done))) | refine plan_skip rfl rfl ?_); simp only [Act.put, List.setIfInBounds_toArray, List.set_cons_zero, List.set_cons_succ])
          refine plan_walk rfl ?_; intro K hK
          go_wp2_with (first | (go_at_call 56; refine (Hf.out).mono ?_; rintro e w6 ⟨rfl, hkm⟩))
          have HP6 := Lib.hid ((HPS5.out.pb.ext (Ext.refl w5).drew).km hkm)
          have HM6 := Lib.hid ((Mv.of_ext (HX5.out.drew)).trans hkm.mv)
          have Hs6 := Lib.hid ((Hs5.out.ext (Ext.refl w5).drew).mv hkm.mv fun b hb hi => by cases hb; exact hmbg hi)
          refine hK _ _ ⟨HP6.out, hkm.mv.cell hmbg (cell_ext (Ext.refl w5).drew Hc5.out)⟩ ?_
          clear hkm
          repeat ((first | (refine plan_take (v := ?_) rfl rfl (fun W hW => ?_) ?_; rotate_left; (focus (skip; go_simp; first | exact rfl | (split <;> first | exact rfl | (exfalso; omega)) | done))) | refine plan_skip rfl rfl ?_); simp only [Act.put, List.setIfInBounds_toArray, List.set_cons_zero, List.set_cons_succ])
          refine plan_done ?_
          cases hfy : fits j y with
          | false =>
            have hno := cutTo_no (F := fits j) (r := r) (now := now) (sets := sets) (x := x) (by rw [← Hyx.out] at hfy; exact hfy)
            have Hno := Lib.hid hno
            clear hno hfy
            go_wp2
            go_roundg (gk - 1)
            case measure => omega
            case rel => exact ⟨x + 1, by omega, by go_num, HP6.out.memo, HMo.out.trans (HM6.out.mono fun i _ hi => .inl hi), by rw [Hno.out]; exact HR.out _ _ _ _ _ Hrx.out (HM6.out.mono fun i _ hi => .inl (by rw [hi]; exact HPS.out.pI mb (.inr (.inr (.inr (.inl rfl)))))) fun i hi => ⟨.inl hi, Nat.lt_of_lt_of_le (HPS.out.old hi).2 HM6.out.size⟩⟩
          | true =>
            have hfy2 : fits j ((nextSets sets x now.length).getD x 0) = true := by rw [← Hyx.out] at hfy; exact hfy
            have hpost := cut_drop Hd.out hlt hfy2
            obtain ⟨nw, hnw⟩ : ∃ l, l = now ++ [x] := ⟨_, rfl⟩
            rw [← hnw, ← Hnx.out] at hpost
            have hyes := cutTo_yes hfy2 (r := r) k
            rw [← hnw, ← Hnx.out] at hyes
            have Hyes := Lib.hid hyes
            have Hpost := Lib.hid hpost
            have Hnw := Lib.hid hnw
            have HPSn := Lib.hid (HPS.out.mv hbj hbd (HM6.out.mono fun i _ hi => .inl hi) HP6.out.memo)
            have HW6 := Lib.hid HM6.out.size
            clear hfy hfy2 hpost hyes hnw
            have hon := own_nats HPSn.out.on
            have Hcn := Lib.hid (fun W (hE : Ext w6 W) => clone_nats (W := W) ⟨hon.1, hon.2.1, hon.2.2.ext hE⟩ (by omega))
            clear hon
            have Hnl2 := Lib.hid (show (natsV now).length < 1000000000 by rw [natsV_len]; omega)
            go_wp2_with fail
            have hwq := (Ext.refl w6).drew
            have Hsq := Lib.hid (show w6.heap.size ≤ w6.drew.heap.size by simp)
            refine wp_region_plan (.take 0 <| .take 1 <| .take 3 <| .take 6 <| .two 2 4 (.only 4 <| .only 5 <| .only 7 <| .take 8 <| .done) (.only 2 <| .only 5 <| .only 7 <| .take 8 <| .done)) (fun W => W.cell? ⟨F, 0, none⟩ = some (.func (.func 54) #[] #[.pointer (some ⟨bj, 0, none⟩), .pointer (some ⟨B, 0, none⟩), .pointer (some ⟨Kb, 0, none⟩), .pointer (some ⟨F, 0, none⟩)])) mixed (by kernel_rfl) (by kernel_rfl) rfl (fun _ _ d _ _ h => by cases d <;> exact h) ((HP6.out.ext (Ext.refl w6).drew).fb) ?_
            generalize w6.drew = wq at *
            repeat ((first | (refine plan_take (v := ?_) rfl rfl (fun W hW => ?_) ?_; rotate_left; (focus (skip; go_simp; first | exact rfl | (split <;> first | exact rfl | (exfalso; omega)) | done))) | refine plan_skip rfl rfl ?_); simp only [Act.put, List.setIfInBounds_toArray, List.set_cons_zero, List.set_cons_succ])
            refine plan_two rfl rfl ?_ ?_
            · intro K hK
              have X6 := hwq
              go_wp2_with (first | (go_at_call 55; refine (Hcn.out _ X6).mono ?_; rintro e w7 ⟨v7, rfl, ho7, hE7⟩))
              have X7 := X6.trans hE7
              refine hK _ _ (HP6.out.ext X7).fb ?_
              refine plan_walk rfl ?_; intro K hK
              go_wp2
              have X8 := Lib.hid (X7.alloc (.cells #[.int .i64 ((x : Nat) : Int)] 3))
              refine hK _ _ (HP6.out.ext X8.out).fb ?_
              refine plan_walk rfl ?_; intro K hK
              go_wp2_with (first | (at_builtin; refine wpList_app1n _ rfl _ _ 33 rfl 3 Try.underlying33 (.int .i64 0) 8 i3 rfl (by decide) w6.heap.size _ _ rfl ((ho7.low Hsq.out).ext ((Ext.refl w7).alloc _)) w7.heap.size (.int .i64 ((x : Nat) : Int)) rfl (by go_simp) rfl Hnl2.out X8.out.size ?_))
              intro v8 wc ho8 hB8 _ _
              have XC := Lib.hid (X8.out.below hB8 (Nat.le_refl _))
              rw [natsV_app, ← Hnw.out] at ho8
              obtain ⟨o8, c8, hv8, _⟩ := ho8.slice
              rw [natsV_len] at hv8
              subst hv8
              have HMz := Lib.hid ((HM6.out.trans (Mv.of_ext XC.out)))
              have Hsc := Lib.hid ((Hs6.out).ext XC.out)
              have HPc := Lib.hid (HP6.out.ext XC.out)
              have HPo := Lib.hid ho8
              clear ho8 hB8
              have hih := Ih.out nw nx o8 (some ⟨g, 0, none⟩) c8 cap (k + (cutTo (fits j) r now sets x).length) Hpost.out.choose (oI I (.slice on now.length cn) (.slice os sets.length cs)) wc (by rw [Hnw.out, List.length_append, List.length_singleton]; have := Hlen.out; omega) (by rw [Hnw.out]; exact Hnxs.out) (by rw [Hnw.out]; exact Hnxm.out) Hpost.out.choose_spec
                ⟨HPc.out, fun i hi => .inl (HPS.out.pI i hi), fun i hi => ⟨(HPS.out.old hi).1, Nat.lt_of_lt_of_le (HPS.out.old hi).2 HMz.out.size⟩, (HPo.out.low (Nat.le_trans HSo.out HW6.out)), Hsc.out.low HSo.out,
                  fun b hb hi => by have h1 := (HPo.out.lt b hb).1; have h2 := (HPS.out.old hi).2; have h3 := HW6.out; omega, fun b hb hi => by have h1 := (Hsc.out.lt b hb).1; have h2 := (HPS.out.old hi).2; omega⟩
                (HR.out _ _ _ _ _ Hrx.out (HMz.out.mono fun i _ hi => .inl (by rw [hi]; exact HPS.out.pI mb (.inr (.inr (.inr (.inl rfl)))))) fun i hi => by
                  rcases hi with hi | hi | hi
                  · exact ⟨.inl hi, Nat.lt_of_lt_of_le (HPS.out.old hi).2 HMz.out.size⟩
                  · have h1 := HPo.out.lt i hi; have h3 := HW6.out; exact ⟨.inr (by omega), h1.2⟩
                  · have h1 := Hsc.out.lt i hi; exact ⟨.inr h1.1, h1.2⟩)
              have Hih := Lib.hid hih
              clear hih
              have hfc := HPc.out.fb
              refine hK _ _ hfc ?_
              refine plan_walk rfl ?_; intro K hK
              go_wp2_with (first | (go_at_call 54; refine (Hih.out).mono ?_; rintro e w8 ⟨b, rfl, ⟨hMv, hMe⟩, hT, hF⟩; have HMv := Lib.hid hMv; have HMe := Lib.hid hMe; have HT := Lib.hid hT; have HF := Lib.hid hF; clear hMv hMe hT hF))
              have HP8 := Lib.hid ((HPS.out.mv hbj hbd ((HMz.out.mono fun i _ hi => .inl hi).trans HMv.out) HMe.out).pb.fb)
              refine hK _ _ HP8.out ?_
              repeat ((first | (refine plan_take (v := ?_) rfl rfl (fun W hW => ?_) ?_; rotate_left; (focus (skip; go_simp; first | exact rfl | (split <;> first | exact rfl | (exfalso; omega)) | done))) | refine plan_skip rfl rfl ?_); simp only [Act.put, List.setIfInBounds_toArray, List.set_cons_zero, List.set_cons_succ])
              refine plan_done ?_
              clear hfc
              cases b with
              | false =>
                go_wp2
                try rw [Exit.noGoto_ret]
                go_ret
                exact ⟨false, rfl, ⟨(HMo.out.trans ((HMz.out.mono fun i _ hi => .inl hi).trans HMv.out)).mono fun i _ => xI_mono (fun i hi => .inl hi) i, HMe.out⟩, nofun, fun _ => (by first | exact HF.out rfl | exact HF.out trivial)⟩
              | true =>
                go_wp2
                go_roundg (gk - 1)
                case measure => omega
                case rel => exact ⟨x + 1, by omega, by go_num, HMe.out, HMo.out.trans ((HMz.out.mono fun i _ hi => .inl hi).trans HMv.out), by rw [← Hyes.out]; first | exact HT.out rfl | exact HT.out trivial⟩
            · intro K hK
              go_wp2
              have X6 := Lib.hid (hwq.alloc (.cells #[.int .i64 ((x : Nat) : Int)] 3))
              have hcx : (wq.alloc (.cells #[.int .i64 ((x : Nat) : Int)] 3)).cell? ⟨wq.heap.size, 0, none⟩ = some (.int .i64 ((x : Nat) : Int)) := by go_simp
              have hsz6 := X6.out.size
              generalize hwa : wq.alloc (.cells #[.int .i64 ((x : Nat) : Int)] 3) = wa at *
              have Hwa := Lib.hid hwa
              clear hwa
              refine hK _ _ (HP6.out.ext X6.out).fb ?_
              refine plan_walk rfl ?_; intro K hK
              go_wp2_with (first | (go_at_call 55; refine (Hcn.out _ X6.out).mono ?_; rintro e w7 ⟨v7, rfl, ho7, hE7⟩))
              have X8 := Lib.hid (X6.out.trans hE7)
              have hcx7 := cell_ext hE7 hcx
              refine hK _ _ (HP6.out.ext X8.out).fb ?_
              refine plan_walk rfl ?_; intro K hK
              go_wp2_with (first | (at_builtin; refine wpList_app1n _ rfl _ _ 33 rfl 3 Try.underlying33 (.int .i64 0) 8 i3 rfl (by decide) w6.heap.size _ _ rfl (ho7.low hsz6) wq.heap.size (.int .i64 ((x : Nat) : Int)) rfl hcx7 rfl Hnl2.out X8.out.size ?_))
              clear hcx hcx7
              intro v8 wc ho8 hB8 _ _
              have XC := Lib.hid (X8.out.below hB8 (Nat.le_refl _))
              rw [natsV_app, ← Hnw.out] at ho8
              obtain ⟨o8, c8, hv8, _⟩ := ho8.slice
              rw [natsV_len] at hv8
              subst hv8
              have HMz := Lib.hid ((HM6.out.trans (Mv.of_ext XC.out)))
              have Hsc := Lib.hid ((Hs6.out).ext XC.out)
              have HPc := Lib.hid (HP6.out.ext XC.out)
              have HPo := Lib.hid ho8
              clear ho8 hB8
              have hih := Ih.out nw nx o8 (some ⟨g, 0, none⟩) c8 cap (k + (cutTo (fits j) r now sets x).length) Hpost.out.choose (oI I (.slice on now.length cn) (.slice os sets.length cs)) wc (by rw [Hnw.out, List.length_append, List.length_singleton]; have := Hlen.out; omega) (by rw [Hnw.out]; exact Hnxs.out) (by rw [Hnw.out]; exact Hnxm.out) Hpost.out.choose_spec
                ⟨HPc.out, fun i hi => .inl (HPS.out.pI i hi), fun i hi => ⟨(HPS.out.old hi).1, Nat.lt_of_lt_of_le (HPS.out.old hi).2 HMz.out.size⟩, (HPo.out.low (Nat.le_trans HSo.out HW6.out)), Hsc.out.low HSo.out,
                  fun b hb hi => by have h1 := (HPo.out.lt b hb).1; have h2 := (HPS.out.old hi).2; have h3 := HW6.out; omega, fun b hb hi => by have h1 := (Hsc.out.lt b hb).1; have h2 := (HPS.out.old hi).2; omega⟩
                (HR.out _ _ _ _ _ Hrx.out (HMz.out.mono fun i _ hi => .inl (by rw [hi]; exact HPS.out.pI mb (.inr (.inr (.inr (.inl rfl)))))) fun i hi => by
                  rcases hi with hi | hi | hi
                  · exact ⟨.inl hi, Nat.lt_of_lt_of_le (HPS.out.old hi).2 HMz.out.size⟩
                  · have h1 := HPo.out.lt i hi; have h3 := HW6.out; exact ⟨.inr (by omega), h1.2⟩
                  · have h1 := Hsc.out.lt i hi; exact ⟨.inr h1.1, h1.2⟩)
              have Hih := Lib.hid hih
              clear hih
              have hfc := HPc.out.fb
              refine hK _ _ hfc ?_
              refine plan_walk rfl ?_; intro K hK
              go_wp2_with (first | (go_at_call 54; refine (Hih.out).mono ?_; rintro e w8 ⟨b, rfl, ⟨hMv, hMe⟩, hT, hF⟩; have HMv := Lib.hid hMv; have HMe := Lib.hid hMe; have HT := Lib.hid hT; have HF := Lib.hid hF; clear hMv hMe hT hF))
              have HP8 := Lib.hid ((HPS.out.mv hbj hbd ((HMz.out.mono fun i _ hi => .inl hi).trans HMv.out) HMe.out).pb.fb)
              refine hK _ _ HP8.out ?_
              repeat ((first | (refine plan_take (v := ?_) rfl rfl (fun W hW => ?_) ?_; rotate_left; (focus (skip; go_simp; first | exact rfl | (split <;> first | exact rfl | (exfalso; omega)) | done))) | refine plan_skip rfl rfl ?_); simp only [Act.put, List.setIfInBounds_toArray, List.set_cons_zero, List.set_cons_succ])
              refine plan_done ?_
              clear hfc
              cases b with
              | false =>
                go_wp2
                try rw [Exit.noGoto_ret]
                go_ret
                exact ⟨false, rfl, ⟨(HMo.out.trans ((HMz.out.mono fun i _ hi => .inl hi).trans HMv.out)).mono fun i _ => xI_mono (fun i hi => .inl hi) i, HMe.out⟩, nofun, fun _ => (by first | exact HF.out rfl | exact HF.out trivial)⟩
              | true =>
                go_wp2
                go_roundg (gk - 1)
                case measure => omega
                case rel => exact ⟨x + 1, by omega, by go_num, HMe.out, HMo.out.trans ((HMz.out.mono fun i _ hi => .inl hi).trans HMv.out), by rw [← Hyes.out]; first | exact HT.out rfl | exact HT.out trivial⟩
        · have hxb : ((x : Int) == (sets.length : Int)) = false := by rw [beq_eq_false_iff_ne]; omega
          have hxI : ¬ (x : Int) = (sets.length : Int) := by omega
          have Hmo := Lib.hid (show more sets x = sets by simp [more, hxe])
          clear hxe
          go_wp2_with (first | (go_at_call 55; refine (Hcl.out).mono ?_; rintro e wM ⟨vM, rfl, ho1, hE1⟩; have Ho1 := Lib.hid ho1; have HXM := Lib.hid hE1; clear ho1 hE1))
          have hoM : My.Own wM wo.heap.size 3 vM (natsV (more sets x)) := by rw [Hmo.out]; exact Ho1.out
          obtain ⟨g, cap, hvM, hg1, hg2, hcap, hcm, hcell, hfr, hset⟩ := hoM.cellAt (i := x) (by rw [natsV_len]; exact Hxl.out) (Value.int .i64 ((y : Nat) : Int))
          rw [natsV_len, Hnl.out] at hvM
          rw [natsV_at, Hsxe.out] at hcell
          rw [natsV_set, Hset.out] at hset
          subst hvM
          have hgs : wo.heap.size ≤ g := hg1
          have HX5 := Lib.hid (ext_own HXM.out.drew ((Turned.refl g wM.drew).set x (.int .i64 ((y : Nat) : Int))) hgs)
          have Hc5 := Lib.hid (show (wM.drew.setCell ⟨g, x, none⟩ (.int .i64 ((y : Nat) : Int))).cell? ⟨g, x, none⟩ = some (.int .i64 ((y : Nat) : Int)) by
            have := cell_ext (Ext.refl wM).drew hcell
            go_simp)
          have Hs5 := Lib.hid (show My.Own (wM.drew.setCell ⟨g, x, none⟩ (.int .i64 ((y : Nat) : Int))) wo.heap.size 3 (.slice (some ⟨g, 0, none⟩) nx.length cap) (natsV nx) by
            have h1 := (My.Own.cellAt (hoM.ext (Ext.refl wM).drew) (i := x) (by rw [natsV_len]; exact Hxl.out) (Value.int .i64 ((y : Nat) : Int)))
            obtain ⟨g', cap', e1, _, _, _, _, _, _, e2⟩ := h1
            rw [natsV_len, Hnl.out] at e1
            simp only [Value.slice.injEq, Option.some.injEq, Addr.mk.injEq] at e1
            obtain ⟨⟨rfl, _⟩, _, rfl⟩ := e1
            rw [natsV_set, Hset.out] at e2
            exact e2)
          have d3 := cell_ext (Ext.refl wM).drew hcell
          have d4 := (frozen_ext (p := ⟨g, x, none⟩) (Ext.refl wM).drew hg2).trans hfr
          clear hset hg1 hcm hcell hfr hoM hcap
          have hwd := (Ext.refl wM).drew
          refine wp_region_plan (.take 0 <| .take 1 <| .take 2 <| .take 4 <| .take 5 <| .take 6 <| .only 3 <| .take 7 <| .take 8 <| .only 9 <| .done) (fun W => Turned g wM W) mixed (by kernel_rfl) (by kernel_rfl) rfl (fun _ _ d _ _ h => by cases d <;> exact h) (Turned.of_ext (Ext.refl wM).drew) ?_
          generalize wM.drew = wd at *
          repeat ((first | (refine plan_take (v := ?_) rfl rfl (fun W hW => ?_) ?_; rotate_left; (focus (skip; go_simp; first | exact rfl | (split <;> first | exact rfl | (exfalso; omega)) | done))) | refine plan_skip rfl rfl ?_); simp only [Act.put, List.setIfInBounds_toArray, List.set_cons_zero, List.set_cons_succ])
          refine plan_walk rfl ?_; intro K hK
          go_wp2
          refine hK _ _ (Turned.of_ext hwd) ?_
          repeat ((first | (refine plan_take (v := ?_) rfl rfl (fun W hW => ?_) ?_; rotate_left; (focus (skip; go_simp; first | exact rfl | (split <;> first | exact rfl | (exfalso; omega)) | done))) | refine plan_skip rfl rfl ?_); simp only [Act.put, List.setIfInBounds_toArray, List.set_cons_zero, List.set_cons_succ])
          refine plan_walk rfl ?_; intro K hK
          go_wp2
          refine hK _ _ ((Turned.of_ext hwd).set x _) ?_
          refine plan_done ?_
          clear d3 d4 q1 q2
          generalize wd.setCell ⟨g, x, none⟩ (.int .i64 ((y : Nat) : Int)) = w5 at *
          have HPS5 := Lib.hid (HPS.out.mv hbj hbd (Mv.of_ext HX5.out) (HPS.out.pb.memo.ext HX5.out))
          have hmbg : ¬ g = mb := by
            have := HPS.out.pb.memo.lt
            omega
          have Hf := Lib.hid (fits56 j Hfine.out og op cg cp mb y w5.drew hy32 (HPS5.out.pb.memo.ext (Ext.refl w5).drew) (HPS5.out.pb.pcs.ext (Ext.refl w5).drew))
          go_wp2_with fail
          refine wp_region_plan (.take 0 <| .take 1 <| .take 2 <| .take 3 <| .take 4 <| .only 5 <| .take 6 <| .done) (fun W => PB j bj B l Kb F mb og oj op cg cj cp W ∧ W.cell? ⟨g, x, none⟩ = some (.int .i64 ((y : Nat) : Int))) mixed (by kernel_rfl) (by kernel_rfl) rfl (fun _ _ d _ _ h => by cases d <;> exact h) (⟨HPS5.out.pb.ext (Ext.refl w5).drew, cell_ext (Ext.refl w5).drew Hc5.out⟩) ?_
          repeat ((first | (refine plan_take (v := ?_) rfl rfl (fun W hW => ?_) ?_; rotate_left; (focus (have d0 := hW.2; have k0 := hW.1.kb 0 _ rfl; have k1 := hW.1.kb 1 _ rfl; have k2 := hW.1.kb 2 _ rfl; have k3 := hW.1.kb 3 _ rfl; have k4 := hW.1.kb 4 _ rfl; have k5 := hW.1.kb 5 _ rfl; have k6 := hW.1.kb 6 _ rfl; go_simp; first | exact rfl | (split <;> first | exact rfl | (exfalso; omega)) | done))) | refine plan_skip rfl rfl ?_); simp only [Act.put, List.setIfInBounds_toArray, List.set_cons_zero, List.set_cons_succ])
          refine plan_walk rfl ?_; intro K hK
          go_wp2_with (first | (go_at_call 56; refine (Hf.out).mono ?_; rintro e w6 ⟨rfl, hkm⟩))
          have HP6 := Lib.hid ((HPS5.out.pb.ext (Ext.refl w5).drew).km hkm)
          have HM6 := Lib.hid ((Mv.of_ext (HX5.out.drew)).trans hkm.mv)
          have Hs6 := Lib.hid ((Hs5.out.ext (Ext.refl w5).drew).mv hkm.mv fun b hb hi => by cases hb; exact hmbg hi)
          refine hK _ _ ⟨HP6.out, hkm.mv.cell hmbg (cell_ext (Ext.refl w5).drew Hc5.out)⟩ ?_
          clear hkm
          repeat ((first | (refine plan_take (v := ?_) rfl rfl (fun W hW => ?_) ?_; rotate_left; (focus (skip; go_simp; first | exact rfl | (split <;> first | exact rfl | (exfalso; omega)) | done))) | refine plan_skip rfl rfl ?_); simp only [Act.put, List.setIfInBounds_toArray, List.set_cons_zero, List.set_cons_succ])
          refine plan_done ?_
          cases hfy : fits j y with
          | false =>
            have hno := cutTo_no (F := fits j) (r := r) (now := now) (sets := sets) (x := x) (by rw [← Hyx.out] at hfy; exact hfy)
            have Hno := Lib.hid hno
            clear hno hfy
            go_wp2
            go_roundg (gk - 1)
            case measure => omega
            case rel => exact ⟨x + 1, by omega, by go_num, HP6.out.memo, HMo.out.trans (HM6.out.mono fun i _ hi => .inl hi), by rw [Hno.out]; exact HR.out _ _ _ _ _ Hrx.out (HM6.out.mono fun i _ hi => .inl (by rw [hi]; exact HPS.out.pI mb (.inr (.inr (.inr (.inl rfl)))))) fun i hi => ⟨.inl hi, Nat.lt_of_lt_of_le (HPS.out.old hi).2 HM6.out.size⟩⟩
          | true =>
            have hfy2 : fits j ((nextSets sets x now.length).getD x 0) = true := by rw [← Hyx.out] at hfy; exact hfy
            have hpost := cut_drop Hd.out hlt hfy2
            obtain ⟨nw, hnw⟩ : ∃ l, l = now ++ [x] := ⟨_, rfl⟩
            rw [← hnw, ← Hnx.out] at hpost
            have hyes := cutTo_yes hfy2 (r := r) k
            rw [← hnw, ← Hnx.out] at hyes
            have Hyes := Lib.hid hyes
            have Hpost := Lib.hid hpost
            have Hnw := Lib.hid hnw
            have HPSn := Lib.hid (HPS.out.mv hbj hbd (HM6.out.mono fun i _ hi => .inl hi) HP6.out.memo)
            have HW6 := Lib.hid HM6.out.size
            clear hfy hfy2 hpost hyes hnw
            have hon := own_nats HPSn.out.on
            have Hcn := Lib.hid (fun W (hE : Ext w6 W) => clone_nats (W := W) ⟨hon.1, hon.2.1, hon.2.2.ext hE⟩ (by omega))
            clear hon
            have Hnl2 := Lib.hid (show (natsV now).length < 1000000000 by rw [natsV_len]; omega)
            go_wp2_with fail
            have hwq := (Ext.refl w6).drew
            have Hsq := Lib.hid (show w6.heap.size ≤ w6.drew.heap.size by simp)
            refine wp_region_plan (.take 0 <| .take 1 <| .take 3 <| .take 6 <| .two 2 4 (.only 4 <| .only 5 <| .only 7 <| .take 8 <| .done) (.only 2 <| .only 5 <| .only 7 <| .take 8 <| .done)) (fun W => W.cell? ⟨F, 0, none⟩ = some (.func (.func 54) #[] #[.pointer (some ⟨bj, 0, none⟩), .pointer (some ⟨B, 0, none⟩), .pointer (some ⟨Kb, 0, none⟩), .pointer (some ⟨F, 0, none⟩)])) mixed (by kernel_rfl) (by kernel_rfl) rfl (fun _ _ d _ _ h => by cases d <;> exact h) ((HP6.out.ext (Ext.refl w6).drew).fb) ?_
            generalize w6.drew = wq at *
            repeat ((first | (refine plan_take (v := ?_) rfl rfl (fun W hW => ?_) ?_; rotate_left; (focus (skip; go_simp; first | exact rfl | (split <;> first | exact rfl | (exfalso; omega)) | done))) | refine plan_skip rfl rfl ?_); simp only [Act.put, List.setIfInBounds_toArray, List.set_cons_zero, List.set_cons_succ])
            refine plan_two rfl rfl ?_ ?_
            · intro K hK
              have X6 := hwq
              go_wp2_with (first | (go_at_call 55; refine (Hcn.out _ X6).mono ?_; rintro e w7 ⟨v7, rfl, ho7, hE7⟩))
              have X7 := X6.trans hE7
              refine hK _ _ (HP6.out.ext X7).fb ?_
              refine plan_walk rfl ?_; intro K hK
              go_wp2
              have X8 := Lib.hid (X7.alloc (.cells #[.int .i64 ((x : Nat) : Int)] 3))
              refine hK _ _ (HP6.out.ext X8.out).fb ?_
              refine plan_walk rfl ?_; intro K hK
              go_wp2_with (first | (at_builtin; refine wpList_app1n _ rfl _ _ 33 rfl 3 Try.underlying33 (.int .i64 0) 8 i3 rfl (by decide) w6.heap.size _ _ rfl ((ho7.low Hsq.out).ext ((Ext.refl w7).alloc _)) w7.heap.size (.int .i64 ((x : Nat) : Int)) rfl (by go_simp) rfl Hnl2.out X8.out.size ?_))
              intro v8 wc ho8 hB8 _ _
              have XC := Lib.hid (X8.out.below hB8 (Nat.le_refl _))
              rw [natsV_app, ← Hnw.out] at ho8
              obtain ⟨o8, c8, hv8, _⟩ := ho8.slice
              rw [natsV_len] at hv8
              subst hv8
              have HMz := Lib.hid ((HM6.out.trans (Mv.of_ext XC.out)))
              have Hsc := Lib.hid ((Hs6.out).ext XC.out)
              have HPc := Lib.hid (HP6.out.ext XC.out)
              have HPo := Lib.hid ho8
              clear ho8 hB8
              have hih := Ih.out nw nx o8 (some ⟨g, 0, none⟩) c8 cap (k + (cutTo (fits j) r now sets x).length) Hpost.out.choose (oI I (.slice on now.length cn) (.slice os sets.length cs)) wc (by rw [Hnw.out, List.length_append, List.length_singleton]; have := Hlen.out; omega) (by rw [Hnw.out]; exact Hnxs.out) (by rw [Hnw.out]; exact Hnxm.out) Hpost.out.choose_spec
                ⟨HPc.out, fun i hi => .inl (HPS.out.pI i hi), fun i hi => ⟨(HPS.out.old hi).1, Nat.lt_of_lt_of_le (HPS.out.old hi).2 HMz.out.size⟩, (HPo.out.low (Nat.le_trans HSo.out HW6.out)), Hsc.out.low HSo.out,
                  fun b hb hi => by have h1 := (HPo.out.lt b hb).1; have h2 := (HPS.out.old hi).2; have h3 := HW6.out; omega, fun b hb hi => by have h1 := (Hsc.out.lt b hb).1; have h2 := (HPS.out.old hi).2; omega⟩
                (HR.out _ _ _ _ _ Hrx.out (HMz.out.mono fun i _ hi => .inl (by rw [hi]; exact HPS.out.pI mb (.inr (.inr (.inr (.inl rfl)))))) fun i hi => by
                  rcases hi with hi | hi | hi
                  · exact ⟨.inl hi, Nat.lt_of_lt_of_le (HPS.out.old hi).2 HMz.out.size⟩
                  · have h1 := HPo.out.lt i hi; have h3 := HW6.out; exact ⟨.inr (by omega), h1.2⟩
                  · have h1 := Hsc.out.lt i hi; exact ⟨.inr h1.1, h1.2⟩)
              have Hih := Lib.hid hih
              clear hih
              have hfc := HPc.out.fb
              refine hK _ _ hfc ?_
              refine plan_walk rfl ?_; intro K hK
              go_wp2_with (first | (go_at_call 54; refine (Hih.out).mono ?_; rintro e w8 ⟨b, rfl, ⟨hMv, hMe⟩, hT, hF⟩; have HMv := Lib.hid hMv; have HMe := Lib.hid hMe; have HT := Lib.hid hT; have HF := Lib.hid hF; clear hMv hMe hT hF))
              have HP8 := Lib.hid ((HPS.out.mv hbj hbd ((HMz.out.mono fun i _ hi => .inl hi).trans HMv.out) HMe.out).pb.fb)
              refine hK _ _ HP8.out ?_
              repeat ((first | (refine plan_take (v := ?_) rfl rfl (fun W hW => ?_) ?_; rotate_left; (focus (skip; go_simp; first | exact rfl | (split <;> first | exact rfl | (exfalso; omega)) | done))) | refine plan_skip rfl rfl ?_); simp only [Act.put, List.setIfInBounds_toArray, List.set_cons_zero, List.set_cons_succ])
              refine plan_done ?_
              clear hfc
              cases b with
              | false =>
                go_wp2
                try rw [Exit.noGoto_ret]
                go_ret
                exact ⟨false, rfl, ⟨(HMo.out.trans ((HMz.out.mono fun i _ hi => .inl hi).trans HMv.out)).mono fun i _ => xI_mono (fun i hi => .inl hi) i, HMe.out⟩, nofun, fun _ => (by first | exact HF.out rfl | exact HF.out trivial)⟩
              | true =>
                go_wp2
                go_roundg (gk - 1)
                case measure => omega
                case rel => exact ⟨x + 1, by omega, by go_num, HMe.out, HMo.out.trans ((HMz.out.mono fun i _ hi => .inl hi).trans HMv.out), by rw [← Hyes.out]; first | exact HT.out rfl | exact HT.out trivial⟩
            · intro K hK
              go_wp2
              have X6 := Lib.hid (hwq.alloc (.cells #[.int .i64 ((x : Nat) : Int)] 3))
              have hcx : (wq.alloc (.cells #[.int .i64 ((x : Nat) : Int)] 3)).cell? ⟨wq.heap.size, 0, none⟩ = some (.int .i64 ((x : Nat) : Int)) := by go_simp
              have hsz6 := X6.out.size
              generalize hwa : wq.alloc (.cells #[.int .i64 ((x : Nat) : Int)] 3) = wa at *
              have Hwa := Lib.hid hwa
              clear hwa
              refine hK _ _ (HP6.out.ext X6.out).fb ?_
              refine plan_walk rfl ?_; intro K hK
              go_wp2_with (first | (go_at_call 55; refine (Hcn.out _ X6.out).mono ?_; rintro e w7 ⟨v7, rfl, ho7, hE7⟩))
              have X8 := Lib.hid (X6.out.trans hE7)
              have hcx7 := cell_ext hE7 hcx
              refine hK _ _ (HP6.out.ext X8.out).fb ?_
              refine plan_walk rfl ?_; intro K hK
              go_wp2_with (first | (at_builtin; refine wpList_app1n _ rfl _ _ 33 rfl 3 Try.underlying33 (.int .i64 0) 8 i3 rfl (by decide) w6.heap.size _ _ rfl (ho7.low hsz6) wq.heap.size (.int .i64 ((x : Nat) : Int)) rfl hcx7 rfl Hnl2.out X8.out.size ?_))
              clear hcx hcx7
              intro v8 wc ho8 hB8 _ _
              have XC := Lib.hid (X8.out.below hB8 (Nat.le_refl _))
              rw [natsV_app, ← Hnw.out] at ho8
              obtain ⟨o8, c8, hv8, _⟩ := ho8.slice
              rw [natsV_len] at hv8
              subst hv8
              have HMz := Lib.hid ((HM6.out.trans (Mv.of_ext XC.out)))
              have Hsc := Lib.hid ((Hs6.out).ext XC.out)
              have HPc := Lib.hid (HP6.out.ext XC.out)
              have HPo := Lib.hid ho8
              clear ho8 hB8
              have hih := Ih.out nw nx o8 (some ⟨g, 0, none⟩) c8 cap (k + (cutTo (fits j) r now sets x).length) Hpost.out.choose (oI I (.slice on now.length cn) (.slice os sets.length cs)) wc (by rw [Hnw.out, List.length_append, List.length_singleton]; have := Hlen.out; omega) (by rw [Hnw.out]; exact Hnxs.out) (by rw [Hnw.out]; exact Hnxm.out) Hpost.out.choose_spec
                ⟨HPc.out, fun i hi => .inl (HPS.out.pI i hi), fun i hi => ⟨(HPS.out.old hi).1, Nat.lt_of_lt_of_le (HPS.out.old hi).2 HMz.out.size⟩, (HPo.out.low (Nat.le_trans HSo.out HW6.out)), Hsc.out.low HSo.out,
                  fun b hb hi => by have h1 := (HPo.out.lt b hb).1; have h2 := (HPS.out.old hi).2; have h3 := HW6.out; omega, fun b hb hi => by have h1 := (Hsc.out.lt b hb).1; have h2 := (HPS.out.old hi).2; omega⟩
                (HR.out _ _ _ _ _ Hrx.out (HMz.out.mono fun i _ hi => .inl (by rw [hi]; exact HPS.out.pI mb (.inr (.inr (.inr (.inl rfl)))))) fun i hi => by
                  rcases hi with hi | hi | hi
                  · exact ⟨.inl hi, Nat.lt_of_lt_of_le (HPS.out.old hi).2 HMz.out.size⟩
                  · have h1 := HPo.out.lt i hi; have h3 := HW6.out; exact ⟨.inr (by omega), h1.2⟩
                  · have h1 := Hsc.out.lt i hi; exact ⟨.inr h1.1, h1.2⟩)
              have Hih := Lib.hid hih
              clear hih
              have hfc := HPc.out.fb
              refine hK _ _ hfc ?_
              refine plan_walk rfl ?_; intro K hK
              go_wp2_with (first | (go_at_call 54; refine (Hih.out).mono ?_; rintro e w8 ⟨b, rfl, ⟨hMv, hMe⟩, hT, hF⟩; have HMv := Lib.hid hMv; have HMe := Lib.hid hMe; have HT := Lib.hid hT; have HF := Lib.hid hF; clear hMv hMe hT hF))
              have HP8 := Lib.hid ((HPS.out.mv hbj hbd ((HMz.out.mono fun i _ hi => .inl hi).trans HMv.out) HMe.out).pb.fb)
              refine hK _ _ HP8.out ?_
              repeat ((first | (refine plan_take (v := ?_) rfl rfl (fun W hW => ?_) ?_; rotate_left; (focus (skip; go_simp; first | exact rfl | (split <;> first | exact rfl | (exfalso; omega)) | done))) | refine plan_skip rfl rfl ?_); simp only [Act.put, List.setIfInBounds_toArray, List.set_cons_zero, List.set_cons_succ])
              refine plan_done ?_
              clear hfc
              cases b with
              | false =>
                go_wp2
                try rw [Exit.noGoto_ret]
                go_ret
                exact ⟨false, rfl, ⟨(HMo.out.trans ((HMz.out.mono fun i _ hi => .inl hi).trans HMv.out)).mono fun i _ => xI_mono (fun i hi => .inl hi) i, HMe.out⟩, nofun, fun _ => (by first | exact HF.out rfl | exact HF.out trivial)⟩
              | true =>
                go_wp2
                go_roundg (gk - 1)
                case measure => omega
                case rel => exact ⟨x + 1, by omega, by go_num, HMe.out, HMo.out.trans ((HMz.out.mono fun i _ hi => .inl hi).trans HMv.out), by rw [← Hyes.out]; first | exact HT.out rfl | exact HT.out trivial⟩
      · obtain rfl : x = sets.length + 1 := by omega
        have hltI : ¬ ((sets.length + 1 : Nat) : Int) < (sets.length : Int) + 1 := by omega
        go_wp2
        try rw [Exit.noGoto_ret]
        go_ret
        exact ⟨true, rfl, ⟨HMo.out.mono fun i _ => xI_mono (fun i hi => .inl hi) i, HPS.out.pb.memo⟩, fun _ => HR.out _ _ _ _ _ Hrx.out (Mv.refl _ _) fun i hi => ⟨.inl (.inl hi), (HPS.out.hI i hi).2⟩, nofun⟩
end

end Go.Proofs.Ytdmegfbeibbmfaa
