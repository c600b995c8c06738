/- Contract: the search for plans. No condition beyond benches as defined. -/
import Derived.Test.YtdmegfbeibbmfaaBench5
import Derived.Test.YtdmegfbeibbmfaaG2
import Derived.Test.YtdmegfbeibbmfaaLeaf15
set_option linter.unusedVariables false
set_option linter.unusedSimpArgs false
namespace Go.Proofs.Ytdmegfbeibbmfaa
open Go.RowKit Go.My Go.GoldM
attribute [local go_sem] Oper.semAt_some

/-- Which strokes are round. -/
def RndAt (W : World) (o : Option Addr) (sts : List St) : Prop := ∀ (i : Nat) (s : St), sts[i]? = some s → ∃ (b off : Nat), o = some ⟨b, off, none⟩ ∧ b < W.heap.size ∧ W.cell? ⟨b, off + i * 5 + 1, none⟩ = some (.bool s.round)
theorem StsAt.rnd {W : World} {o : Option Addr} {sts : List St} (h : StsAt W o sts) : RndAt W o sts := fun i s hs => by
  obtain ⟨b, off, _, _, h1, h2, h3, _, _⟩ := h i s hs
  exact ⟨b, off, h1, h2, h3 1 _ rfl⟩
/-- The search's boxes, the hands so far. -/
structure QS (x : Bn) (bj B l F : Nat) (ob os : Option Addr) (cb cs S : Nat) (I : Nat → Prop) (now : List Nat) (u : Value) (W : World) : Prop where
  bn : VB W bj (bnL x ob cb os cs)
  rd : RndAt W os x.sts
  yb : W.cell? ⟨B, 0, none⟩ = some (.func (.yield l) #[] #[])
  fb : W.cell? ⟨F, 0, none⟩ = some (.func (.func 69) #[] #[.pointer (some ⟨bj, 0, none⟩), .pointer (some ⟨B, 0, none⟩), .pointer (some ⟨F, 0, none⟩)])
  iB : I B
  iF : I F
  hI : ∀ i, I i → S ≤ i ∧ i < W.heap.size
  on : My.Own W S 3 u (natsV now)
  onI : ∀ b, u.ownBlock = some b → ¬ I b
/-- The blocks that may be altered. -/
def yI (n : Nat) (Bd I : Nat → Prop) (i : Nat) : Prop := ¬ (I i ∨ (i < n ∧ ¬ Bd i))
def oJ (I : Nat → Prop) (u : Value) (i : Nat) : Prop := I i ∨ u.ownBlock = some i
theorem yI_mono {n : Nat} {Bd I I' : Nat → Prop} (h : ∀ i, I i → I' i) (i : Nat) (hx : yI n Bd I' i) : yI n Bd I i := fun h2 => hx (h2.imp (h i) id)
section
variable {x : Bn} {bj B l F : Nat} {ob os : Option Addr} {cb cs n S : Nat} {Bd : Nat → Prop} {I : Nat → Prop} {now : List Nat} {u : Value} {W W' : World}
theorem QS.mv (hbj : bj < n) (hbd : ¬ Bd bj) (hos : ∀ ad, os = some ad → ad.block < n ∧ ¬ Bd ad.block) (h : QS x bj B l F ob os cb cs S I now u W) (hM : Mv (yI n Bd (oJ I u)) W W') : QS x bj B l F ob os cb cs S I now u W' := by
  refine ⟨fun i v hv => hM.cell (fun k => k (.inr ⟨hbj, hbd⟩)) (h.bn i v hv), fun i s hs => ?_, hM.cell (fun k => k (.inl (.inl h.iB))) h.yb, hM.cell (fun k => k (.inl (.inl h.iF))) h.fb, h.iB, h.iF, fun i hi => ⟨(h.hI i hi).1, Nat.lt_of_lt_of_le (h.hI i hi).2 hM.size⟩, h.on.mv hM fun b hb k => k (.inl (.inr hb)), h.onI⟩
  obtain ⟨b, off, h1, h2, h3⟩ := h.rd i s hs
  exact ⟨b, off, h1, Nat.lt_of_lt_of_le h2 hM.size, hM.cell (fun k => k (.inr (show b < n ∧ ¬ Bd b from hos _ h1))) h3⟩
theorem QS.old (h : QS x bj B l F ob os cb cs S I now u W) {i : Nat} (hi : oJ I u i) : S ≤ i ∧ i < W.heap.size := by
  rcases hi with hi | hi
  · exact h.hI i hi
  · exact h.on.lt i hi
end
/-- What is handed out: plan number k, in a row of its own. -/
def PlanP (x : Bn) (n k : Nat) (I : Nat → Prop) (v : Value) (W : World) : Prop :=
  ∃ p o cn, (plansOf x)[k]? = some p ∧ v = .slice o p.length cn ∧ My.Own W n 3 (.slice o p.length cn) (natsV p) ∧ ∀ b, (Value.slice o p.length cn).ownBlock = some b → ¬ I b
def PlanPost (n : Nat) (Bd : Nat → Prop) (R : Nat → (Nat → Prop) → World → Prop) (Fin : World → Prop) (k len : Nat) (I : Nat → Prop) (w W' : World) (b : Bool) : Prop :=
  Mv (yI n Bd I) w W' ∧ (b = true → R (k + len) I W') ∧ (b = false → Fin W')

section
variable (x : Bn) (bj B l F : Nat) (ob os : Option Addr) (cb cs n S : Nat) (Bd : Nat → Prop) (R : Nat → (Nat → Prop) → World → Prop) (Fin : World → Prop)
def YieldOkP : Prop := ∀ (m k : Nat) (I : Nat → Prop) (v : Value) (W1 : World), k < (plansOf x).length → R k I W1 → PlanP x n k I v W1 → (∀ i, I i → S ≤ i ∧ i < W1.heap.size) →
      YieldAt Fence.wide m Try.prog l #[v] W1 fun e W' => ∃ b, e = .returned (.bool b) ∧ Kept I Bd n W1 W' ∧ (b = true → R (k + 1) I W') ∧ (b = false → Fin W')
set_option maxRecDepth 100000 in
set_option maxHeartbeats 4000000 in
theorem plan_zero (hY : YieldOkP x l n S Bd R Fin) (now : List Nat) (on : Option Addr) (cn k : Nat) (I : Nat → Prop) (w : World) (h : QS x bj B l F ob os cb cs S I now (.slice on now.length cn) w) (hnS : n ≤ S) (hl : now.length = x.sts.length) (hk : (plansOf x)[k]? = some now) (hR : R k I w) :
    Calls Try.prog 69 #[.slice on now.length cn, .pointer (some ⟨bj, 0, none⟩), .pointer (some ⟨B, 0, none⟩), .pointer (some ⟨F, 0, none⟩)] w fun e W' => ∃ b, e = .returned (.bool b) ∧ PlanPost n Bd R Fin k 1 I w W' b := by
  have hkl : k < (plansOf x).length := (List.getElem?_eq_some_iff.1 hk).1
  obtain ⟨fn, tmps, assign, body, hy, hRd⟩ := hY 2 k I (.slice on now.length cn) w hkl hR ⟨now, on, cn, hk, rfl, h.on.low hnS, h.onI⟩ h.hI
  have c2 := h.bn 2 _ rfl
  have hyb := h.yb
  have heqI : ((now.length : Int) == (x.sts.length : Int)) = true := by rw [hl]; simp
  clear h hk hR hY hl hkl
  go_enter Try.func69, Try.ntmps69
  go_wp2_with fail
  refine wp_scope_straight ?_
  refine (wpIn_wide (n := 3)).1 ?_
  gi_wp2_with (first | (refine hRd.mono ?_; rintro e w6 ⟨b, rfl, hkp, ht, hf⟩))
  have HK := Lib.hid hkp
  have Ht := Lib.hid ht
  have Hf := Lib.hid hf
  clear hkp ht hf
  rw [Exit.noGoto_ret]
  go_ret
  exact ⟨b, rfl, HK.out, Ht.out, Hf.out⟩
end

section
variable {x : Bn} {bj B l F : Nat} {ob os : Option Addr} {cb cs n S : Nat} {Bd : Nat → Prop} {R : Nat → (Nat → Prop) → World → Prop} {Fin : World → Prop}
set_option maxRecDepth 100000 in
set_option maxHeartbeats 8000000 in
theorem plan_any (f : FineB x) (hbj : bj < n) (hbd : ¬ Bd bj) (hos : ∀ ad, os = some ad → ad.block < n ∧ ¬ Bd ad.block) (hnS : n ≤ S) (hR : Steady R) (hY : YieldOkP x l n S Bd R Fin) : ∀ (r : Nat) (now : List Nat) (on : Option Addr) (cn k : Nat) (post : List (List Nat)) (I : Nat → Prop) (w : World),
    now.length + r = x.sts.length → (plansOf x).drop k = planFrom x.ap x.sts r now ++ post → QS x bj B l F ob os cb cs S I now (.slice on now.length cn) w → R k (oJ I (.slice on now.length cn)) w →
    Calls Try.prog 69 #[.slice on now.length cn, .pointer (some ⟨bj, 0, none⟩), .pointer (some ⟨B, 0, none⟩), .pointer (some ⟨F, 0, none⟩)] w fun e W' => ∃ b, e = .returned (.bool b) ∧ PlanPost n Bd R Fin k (planFrom x.ap x.sts r now).length I w W' b := by
  have hsl := f.sl
  have hap := f.ap
  intro r
  induction r with
  | zero =>
    intro now on cn k post I w hlen hd h hr
    have hk : (plansOf x)[k]? = some now := by
      have := congrArg (fun l => l[0]?) hd
      simpa [planFrom] using this
    exact plan_zero x bj B l F ob os cb cs n S Bd R Fin hY now on cn k I w h hnS (by omega) hk (hR k _ I w w hr (Mv.refl _ _) fun i hi => ⟨.inl (.inl hi), (h.hI i hi).2⟩)
  | succ r ih =>
    intro now on cn k post I w hlen hd h hr
    have Ih := Lib.hid ih
    have HR := Lib.hid hR
    have Hd := Lib.hid hd
    have HPS0 := Lib.hid h
    have Hr := Lib.hid hr
    have Hos := Lib.hid hos
    have b0 := h.bn 0 _ rfl
    have b2 := h.bn 2 _ rfl
    have hne : ((now.length : Int) == (x.sts.length : Int)) = false := by rw [beq_eq_false_iff_ne]; omega
    have q0 : IntKind.i64.wrap ((x.ap : Int) + 1) = (x.ap : Int) + 1 := by rw [IntWalk.i64_in _ (by omega)]
    have hn6 : now.length < x.sts.length := by omega
    have hn6I : (now.length : Int) < (x.sts.length : Int) := by omega
    have Hlen := Lib.hid hlen
    have hsl6 := hsl.2
    obtain ⟨s, hs⟩ : ∃ s, x.sts[now.length]? = some s := ⟨x.sts[now.length], by simp [hn6]⟩
    have Hs := Lib.hid hs
    have hhd : hands x.ap x.sts now.length = if s.round then 1 else x.ap + 1 := by
      unfold hands; rw [show x.sts.getD now.length stD = s by simp [List.getD, hs]]
    clear hlen ih hR hd h hr hY hsl f hos hs
    go_enter Try.func69, Try.ntmps69
    go_wp2_with fail
    refine wp_scope_straight ?_
    go_wp2_with fail
    clear hne
    refine wp_label ?_
    go_wp2_with fail
    clear b0 b2
    go_loopg [19] (x.ap + 1) (fun g i wr => ∃ y : Nat, y + g = x.ap + 1 ∧ y ≤ hands x.ap x.sts now.length ∧ i = .int .i64 y ∧ Mv (yI n Bd (oJ I (.slice on now.length cn))) w wr ∧
      R (k + (planTo x.ap x.sts r now y).length) (oJ I (.slice on now.length cn)) wr)
    case atStart => exact ⟨0, by omega, by omega, rfl, Mv.refl _ _, Hr.out⟩
    case round =>
      obtain ⟨y, hy, hyh, rfl, hmo, hrx⟩ := hrel
      obtain ⟨wo, rfl⟩ : ∃ wo : World, wo = wr := ⟨_, rfl⟩
      have hps := HPS0.out.mv hbj hbd Hos.out hmo
      have HPS := Lib.hid hps
      have HMo := Lib.hid hmo
      have Hrx := Lib.hid hrx
      have HSo := Lib.hid (show S ≤ wo.heap.size by have := hps.hI F hps.iF; omega)
      have p0 := hps.bn 0 _ rfl
      have p2 := hps.bn 2 _ rfl
      obtain ⟨b, off, hos', hb', cr⟩ := hps.rd now.length s Hs.out
      subst hos'
      clear hps hmo hrx Hr
      by_cases hlt : y < hands x.ap x.sts now.length
      · have hlta : y < x.ap + 1 := by rw [hhd] at hlt; split at hlt <;> omega
        have hltI : (y : Int) < (x.ap : Int) + 1 := by omega
        by_cases hy0 : y = 0
        · have hy0I : ¬ (0 : Int) < (y : Int) := by omega
          have hy0J : (y : Int) ≤ 0 := by omega
          clear hy0
          go_wp2_with fail
          clear p0 p2 cr
          have hpost := plan_drop Hd.out hlt
          obtain ⟨nw, hnw⟩ : ∃ l, l = now ++ [y] := ⟨_, rfl⟩
          rw [← hnw] at hpost
          have hyes := planTo_len x.ap x.sts r now y k
          rw [← hnw] at hyes
          have Hyes := Lib.hid hyes
          have Hpost := Lib.hid hpost
          have Hnw := Lib.hid hnw
          have HX6 := Lib.hid (Ext.refl wo).drew
          have hon := own_nats HPS.out.on
          have Hcn := Lib.hid (fun W (hE : Ext wo W) => clone_nats (W := W) ⟨hon.1, hon.2.1, hon.2.2.ext hE⟩ (by omega))
          have Hnl2 := Lib.hid (show (natsV now).length < 1000000000 by rw [natsV_len]; omega)
          clear hon hpost hyes hnw
          refine wp_region_plan (.take 0 <| .take 1 <| .take 3 <| .two 2 4 (.only 4 <| .only 5 <| .only 6 <| .take 7 <| .done) (.only 2 <| .only 5 <| .only 6 <| .take 7 <| .done)) (fun W => W.cell? ⟨F, 0, none⟩ = some (.func (.func 69) #[] #[.pointer (some ⟨bj, 0, none⟩), .pointer (some ⟨B, 0, none⟩), .pointer (some ⟨F, 0, none⟩)])) mixed (by kernel_rfl) (by kernel_rfl) rfl (fun _ _ d _ _ h => by cases d <;> exact h) (cell_ext (Ext.refl wo).drew HPS.out.fb) ?_
          generalize wo.drew = wq at *
          repeat ((first | (refine plan_take (v := ?_) rfl rfl (fun W hW => ?_) ?_; rotate_left; (focus (skip; go_simp; first | exact rfl | (split <;> first | exact rfl | (exfalso; omega)) | done))) | refine plan_skip rfl rfl ?_); simp only [Act.put, List.setIfInBounds_toArray, List.set_cons_zero, List.set_cons_succ])
          refine plan_two rfl rfl ?_ ?_
          · intro K hK
            go_wp2_with (first | (go_at_call 55; refine (Hcn.out _ HX6.out).mono ?_; rintro e w7 ⟨v7, rfl, ho7, hE7⟩))
            have X7 := HX6.out.trans hE7
            refine hK _ _ (cell_ext X7 HPS.out.fb) ?_
            refine plan_walk rfl ?_; intro K hK
            go_wp2
            have X8 := Lib.hid (X7.alloc (.cells #[.int .i64 ((y : Nat) : Int)] 3))
            refine hK _ _ (cell_ext X8.out HPS.out.fb) ?_
            refine plan_walk rfl ?_; intro K hK
            go_wp2_with (first | (at_builtin; refine wpList_app1n _ rfl _ _ 33 rfl 3 Try.underlying33 (.int .i64 0) 8 i3 rfl (by decide) wo.heap.size _ _ rfl ((ho7.low HX6.out.size).ext ((Ext.refl w7).alloc _)) w7.heap.size (.int .i64 ((y : Nat) : Int)) rfl (by go_simp) rfl Hnl2.out X8.out.size ?_))
            intro v8 wc ho8 hB8 _ _
            have XC := Lib.hid (X8.out.below hB8 (Nat.le_refl _))
            rw [natsV_app, ← Hnw.out] at ho8
            obtain ⟨o8, c8, hv8, _⟩ := ho8.slice
            rw [natsV_len] at hv8
            subst hv8
            have HPo := Lib.hid ho8
            clear ho8 hB8
            have hih := Ih.out nw o8 c8 (k + (planTo x.ap x.sts r now y).length) Hpost.out.choose (oJ I (.slice on now.length cn)) wc (by rw [Hnw.out, List.length_append, List.length_singleton]; have := Hlen.out; omega) Hpost.out.choose_spec
              (by
                have hq := HPS.out.mv hbj hbd Hos.out (Mv.of_ext (I := yI n Bd (oJ I (.slice on now.length cn))) XC.out)
                exact ⟨hq.bn, hq.rd, hq.yb, hq.fb, .inl hq.iB, .inl hq.iF, fun i hi => hq.old hi, HPo.out.low HSo.out, fun b hb hi => by have h1 := (HPo.out.lt b hb).1; have h2 := (HPS.out.old hi).2; have h3 := HX6.out.size; omega⟩)
              (HR.out _ _ _ _ _ Hrx.out (Mv.of_ext XC.out) fun i hi => by
                rcases hi with hi | hi
                · exact ⟨.inl hi, Nat.lt_of_lt_of_le (HPS.out.old hi).2 XC.out.size⟩
                · have h1 := HPo.out.lt i hi; have h3 := HX6.out.size; exact ⟨.inr (by omega), h1.2⟩)
            have Hih := Lib.hid hih
            clear hih
            have hfc := cell_ext XC.out HPS.out.fb
            refine hK _ _ hfc ?_
            refine plan_walk rfl ?_; intro K hK
            go_wp2_with (first | (go_at_call 69; refine (Hih.out).mono ?_; rintro e w8 ⟨b, rfl, hMv, hT, hF⟩; have HMv := Lib.hid hMv; have HT := Lib.hid hT; have HF := Lib.hid hF; clear hMv hT hF))
            have HM8 := Lib.hid (show Mv (yI n Bd (oJ I (.slice on now.length cn))) wo w8 from (Mv.of_ext XC.out).trans HMv.out)
            refine hK _ _ (HPS.out.mv hbj hbd Hos.out HM8.out).fb ?_
            repeat ((first | (refine plan_take (v := ?_) rfl rfl (fun W hW => ?_) ?_; rotate_left; (focus (skip; go_simp; first | exact rfl | (split <;> first | exact rfl | (exfalso; omega)) | done))) | refine plan_skip rfl rfl ?_); simp only [Act.put, List.setIfInBounds_toArray, List.set_cons_zero, List.set_cons_succ])
            refine plan_done ?_
            clear hfc
            cases b with
            | false =>
              go_wp2
              try rw [Exit.noGoto_ret]
              go_ret
              exact ⟨false, rfl, (HMo.out.trans HM8.out).mono fun i _ => yI_mono (fun i hi => .inl hi) i, nofun, fun _ => (by first | exact HF.out rfl | exact HF.out trivial)⟩
            | true =>
              go_wp2
              go_roundg (gk - 1)
              case measure => omega
              case rel => exact ⟨y + 1, by omega, by omega, by go_num, HMo.out.trans HM8.out, by rw [← Hyes.out]; first | exact HT.out rfl | exact HT.out trivial⟩
          · intro K hK
            go_wp2
            have X6 := Lib.hid (HX6.out.alloc (.cells #[.int .i64 ((y : Nat) : Int)] 3))
            have hcx : (wq.alloc (.cells #[.int .i64 ((y : Nat) : Int)] 3)).cell? ⟨wq.heap.size, 0, none⟩ = some (.int .i64 ((y : Nat) : Int)) := by go_simp
            have hsz6 := X6.out.size
            generalize hwa : wq.alloc (.cells #[.int .i64 ((y : Nat) : Int)] 3) = wa at *
            have Hwa := Lib.hid hwa
            clear hwa
            refine hK _ _ (cell_ext X6.out HPS.out.fb) ?_
            refine plan_walk rfl ?_; intro K hK
            go_wp2_with (first | (go_at_call 55; refine (Hcn.out _ X6.out).mono ?_; rintro e w7 ⟨v7, rfl, ho7, hE7⟩))
            have X8 := Lib.hid (X6.out.trans hE7)
            have hcx7 := cell_ext hE7 hcx
            refine hK _ _ (cell_ext X8.out HPS.out.fb) ?_
            refine plan_walk rfl ?_; intro K hK
            go_wp2_with (first | (at_builtin; refine wpList_app1n _ rfl _ _ 33 rfl 3 Try.underlying33 (.int .i64 0) 8 i3 rfl (by decide) wo.heap.size _ _ rfl (ho7.low hsz6) wq.heap.size (.int .i64 ((y : Nat) : Int)) rfl hcx7 rfl Hnl2.out X8.out.size ?_))
            clear hcx hcx7
            intro v8 wc ho8 hB8 _ _
            have XC := Lib.hid (X8.out.below hB8 (Nat.le_refl _))
            rw [natsV_app, ← Hnw.out] at ho8
            obtain ⟨o8, c8, hv8, _⟩ := ho8.slice
            rw [natsV_len] at hv8
            subst hv8
            have HPo := Lib.hid ho8
            clear ho8 hB8
            have hih := Ih.out nw o8 c8 (k + (planTo x.ap x.sts r now y).length) Hpost.out.choose (oJ I (.slice on now.length cn)) wc (by rw [Hnw.out, List.length_append, List.length_singleton]; have := Hlen.out; omega) Hpost.out.choose_spec
              (by
                have hq := HPS.out.mv hbj hbd Hos.out (Mv.of_ext (I := yI n Bd (oJ I (.slice on now.length cn))) XC.out)
                exact ⟨hq.bn, hq.rd, hq.yb, hq.fb, .inl hq.iB, .inl hq.iF, fun i hi => hq.old hi, HPo.out.low HSo.out, fun b hb hi => by have h1 := (HPo.out.lt b hb).1; have h2 := (HPS.out.old hi).2; have h3 := HX6.out.size; omega⟩)
              (HR.out _ _ _ _ _ Hrx.out (Mv.of_ext XC.out) fun i hi => by
                rcases hi with hi | hi
                · exact ⟨.inl hi, Nat.lt_of_lt_of_le (HPS.out.old hi).2 XC.out.size⟩
                · have h1 := HPo.out.lt i hi; have h3 := HX6.out.size; exact ⟨.inr (by omega), h1.2⟩)
            have Hih := Lib.hid hih
            clear hih
            have hfc := cell_ext XC.out HPS.out.fb
            refine hK _ _ hfc ?_
            refine plan_walk rfl ?_; intro K hK
            go_wp2_with (first | (go_at_call 69; refine (Hih.out).mono ?_; rintro e w8 ⟨b, rfl, hMv, hT, hF⟩; have HMv := Lib.hid hMv; have HT := Lib.hid hT; have HF := Lib.hid hF; clear hMv hT hF))
            have HM8 := Lib.hid (show Mv (yI n Bd (oJ I (.slice on now.length cn))) wo w8 from (Mv.of_ext XC.out).trans HMv.out)
            refine hK _ _ (HPS.out.mv hbj hbd Hos.out HM8.out).fb ?_
            repeat ((first | (refine plan_take (v := ?_) rfl rfl (fun W hW => ?_) ?_; rotate_left; (focus (skip; go_simp; first | exact rfl | (split <;> first | exact rfl | (exfalso; omega)) | done))) | refine plan_skip rfl rfl ?_); simp only [Act.put, List.setIfInBounds_toArray, List.set_cons_zero, List.set_cons_succ])
            refine plan_done ?_
            clear hfc
            cases b with
            | false =>
              go_wp2
              try rw [Exit.noGoto_ret]
              go_ret
              exact ⟨false, rfl, (HMo.out.trans HM8.out).mono fun i _ => yI_mono (fun i hi => .inl hi) i, nofun, fun _ => (by first | exact HF.out rfl | exact HF.out trivial)⟩
            | true =>
              go_wp2
              go_roundg (gk - 1)
              case measure => omega
              case rel => exact ⟨y + 1, by omega, by omega, by go_num, HMo.out.trans HM8.out, by rw [← Hyes.out]; first | exact HT.out rfl | exact HT.out trivial⟩
        · have hy0I : (0 : Int) < (y : Int) := by omega
          have hrd : s.round = false := by
            rw [hhd] at hlt
            cases h : s.round with
            | false => rfl
            | true => rw [h] at hlt; simp at hlt; omega
          rw [hrd] at cr
          clear hy0 hrd
          go_wp2_with fail
          clear p0 p2 cr
          have hpost := plan_drop Hd.out hlt
          obtain ⟨nw, hnw⟩ : ∃ l, l = now ++ [y] := ⟨_, rfl⟩
          rw [← hnw] at hpost
          have hyes := planTo_len x.ap x.sts r now y k
          rw [← hnw] at hyes
          have Hyes := Lib.hid hyes
          have Hpost := Lib.hid hpost
          have Hnw := Lib.hid hnw
          have HX6 := Lib.hid (Ext.refl wo).drew
          have hon := own_nats HPS.out.on
          have Hcn := Lib.hid (fun W (hE : Ext wo W) => clone_nats (W := W) ⟨hon.1, hon.2.1, hon.2.2.ext hE⟩ (by omega))
          have Hnl2 := Lib.hid (show (natsV now).length < 1000000000 by rw [natsV_len]; omega)
          clear hon hpost hyes hnw
          refine wp_region_plan (.take 0 <| .take 1 <| .take 3 <| .two 2 4 (.only 4 <| .only 5 <| .only 6 <| .take 7 <| .done) (.only 2 <| .only 5 <| .only 6 <| .take 7 <| .done)) (fun W => W.cell? ⟨F, 0, none⟩ = some (.func (.func 69) #[] #[.pointer (some ⟨bj, 0, none⟩), .pointer (some ⟨B, 0, none⟩), .pointer (some ⟨F, 0, none⟩)])) mixed (by kernel_rfl) (by kernel_rfl) rfl (fun _ _ d _ _ h => by cases d <;> exact h) (cell_ext (Ext.refl wo).drew HPS.out.fb) ?_
          generalize wo.drew = wq at *
          repeat ((first | (refine plan_take (v := ?_) rfl rfl (fun W hW => ?_) ?_; rotate_left; (focus (skip; go_simp; first | exact rfl | (split <;> first | exact rfl | (exfalso; omega)) | done))) | refine plan_skip rfl rfl ?_); simp only [Act.put, List.setIfInBounds_toArray, List.set_cons_zero, List.set_cons_succ])
          refine plan_two rfl rfl ?_ ?_
          · intro K hK
            go_wp2_with (first | (go_at_call 55; refine (Hcn.out _ HX6.out).mono ?_; rintro e w7 ⟨v7, rfl, ho7, hE7⟩))
            have X7 := HX6.out.trans hE7
            refine hK _ _ (cell_ext X7 HPS.out.fb) ?_
            refine plan_walk rfl ?_; intro K hK
            go_wp2
            have X8 := Lib.hid (X7.alloc (.cells #[.int .i64 ((y : Nat) : Int)] 3))
            refine hK _ _ (cell_ext X8.out HPS.out.fb) ?_
            refine plan_walk rfl ?_; intro K hK
            go_wp2_with (first | (at_builtin; refine wpList_app1n _ rfl _ _ 33 rfl 3 Try.underlying33 (.int .i64 0) 8 i3 rfl (by decide) wo.heap.size _ _ rfl ((ho7.low HX6.out.size).ext ((Ext.refl w7).alloc _)) w7.heap.size (.int .i64 ((y : Nat) : Int)) rfl (by go_simp) rfl Hnl2.out X8.out.size ?_))
            intro v8 wc ho8 hB8 _ _
            have XC := Lib.hid (X8.out.below hB8 (Nat.le_refl _))
            rw [natsV_app, ← Hnw.out] at ho8
            obtain ⟨o8, c8, hv8, _⟩ := ho8.slice
            rw [natsV_len] at hv8
            subst hv8
            have HPo := Lib.hid ho8
            clear ho8 hB8
            have hih := Ih.out nw o8 c8 (k + (planTo x.ap x.sts r now y).length) Hpost.out.choose (oJ I (.slice on now.length cn)) wc (by rw [Hnw.out, List.length_append, List.length_singleton]; have := Hlen.out; omega) Hpost.out.choose_spec
              (by
                have hq := HPS.out.mv hbj hbd Hos.out (Mv.of_ext (I := yI n Bd (oJ I (.slice on now.length cn))) XC.out)
                exact ⟨hq.bn, hq.rd, hq.yb, hq.fb, .inl hq.iB, .inl hq.iF, fun i hi => hq.old hi, HPo.out.low HSo.out, fun b hb hi => by have h1 := (HPo.out.lt b hb).1; have h2 := (HPS.out.old hi).2; have h3 := HX6.out.size; omega⟩)
              (HR.out _ _ _ _ _ Hrx.out (Mv.of_ext XC.out) fun i hi => by
                rcases hi with hi | hi
                · exact ⟨.inl hi, Nat.lt_of_lt_of_le (HPS.out.old hi).2 XC.out.size⟩
                · have h1 := HPo.out.lt i hi; have h3 := HX6.out.size; exact ⟨.inr (by omega), h1.2⟩)
            have Hih := Lib.hid hih
            clear hih
            have hfc := cell_ext XC.out HPS.out.fb
            refine hK _ _ hfc ?_
            refine plan_walk rfl ?_; intro K hK
            go_wp2_with (first | (go_at_call 69; refine (Hih.out).mono ?_; rintro e w8 ⟨b, rfl, hMv, hT, hF⟩; have HMv := Lib.hid hMv; have HT := Lib.hid hT; have HF := Lib.hid hF; clear hMv hT hF))
            have HM8 := Lib.hid (show Mv (yI n Bd (oJ I (.slice on now.length cn))) wo w8 from (Mv.of_ext XC.out).trans HMv.out)
            refine hK _ _ (HPS.out.mv hbj hbd Hos.out HM8.out).fb ?_
            repeat ((first | (refine plan_take (v := ?_) rfl rfl (fun W hW => ?_) ?_; rotate_left; (focus (skip; go_simp; first | exact rfl | (split <;> first | exact rfl | (exfalso; omega)) | done))) | refine plan_skip rfl rfl ?_); simp only [Act.put, List.setIfInBounds_toArray, List.set_cons_zero, List.set_cons_succ])
            refine plan_done ?_
            clear hfc
            cases b with
            | false =>
              go_wp2
              try rw [Exit.noGoto_ret]
              go_ret
              exact ⟨false, rfl, (HMo.out.trans HM8.out).mono fun i _ => yI_mono (fun i hi => .inl hi) i, nofun, fun _ => (by first | exact HF.out rfl | exact HF.out trivial)⟩
            | true =>
              go_wp2
              go_roundg (gk - 1)
              case measure => omega
              case rel => exact ⟨y + 1, by omega, by omega, by go_num, HMo.out.trans HM8.out, by rw [← Hyes.out]; first | exact HT.out rfl | exact HT.out trivial⟩
          · intro K hK
            go_wp2
            have X6 := Lib.hid (HX6.out.alloc (.cells #[.int .i64 ((y : Nat) : Int)] 3))
            have hcx : (wq.alloc (.cells #[.int .i64 ((y : Nat) : Int)] 3)).cell? ⟨wq.heap.size, 0, none⟩ = some (.int .i64 ((y : Nat) : Int)) := by go_simp
            have hsz6 := X6.out.size
            generalize hwa : wq.alloc (.cells #[.int .i64 ((y : Nat) : Int)] 3) = wa at *
            have Hwa := Lib.hid hwa
            clear hwa
            refine hK _ _ (cell_ext X6.out HPS.out.fb) ?_
            refine plan_walk rfl ?_; intro K hK
            go_wp2_with (first | (go_at_call 55; refine (Hcn.out _ X6.out).mono ?_; rintro e w7 ⟨v7, rfl, ho7, hE7⟩))
            have X8 := Lib.hid (X6.out.trans hE7)
            have hcx7 := cell_ext hE7 hcx
            refine hK _ _ (cell_ext X8.out HPS.out.fb) ?_
            refine plan_walk rfl ?_; intro K hK
            go_wp2_with (first | (at_builtin; refine wpList_app1n _ rfl _ _ 33 rfl 3 Try.underlying33 (.int .i64 0) 8 i3 rfl (by decide) wo.heap.size _ _ rfl (ho7.low hsz6) wq.heap.size (.int .i64 ((y : Nat) : Int)) rfl hcx7 rfl Hnl2.out X8.out.size ?_))
            clear hcx hcx7
            intro v8 wc ho8 hB8 _ _
            have XC := Lib.hid (X8.out.below hB8 (Nat.le_refl _))
            rw [natsV_app, ← Hnw.out] at ho8
            obtain ⟨o8, c8, hv8, _⟩ := ho8.slice
            rw [natsV_len] at hv8
            subst hv8
            have HPo := Lib.hid ho8
            clear ho8 hB8
            have hih := Ih.out nw o8 c8 (k + (planTo x.ap x.sts r now y).length) Hpost.out.choose (oJ I (.slice on now.length cn)) wc (by rw [Hnw.out, List.length_append, List.length_singleton]; have := Hlen.out; omega) Hpost.out.choose_spec
              (by
                have hq := HPS.out.mv hbj hbd Hos.out (Mv.of_ext (I := yI n Bd (oJ I (.slice on now.length cn))) XC.out)
                exact ⟨hq.bn, hq.rd, hq.yb, hq.fb, .inl hq.iB, .inl hq.iF, fun i hi => hq.old hi, HPo.out.low HSo.out, fun b hb hi => by have h1 := (HPo.out.lt b hb).1; have h2 := (HPS.out.old hi).2; have h3 := HX6.out.size; omega⟩)
              (HR.out _ _ _ _ _ Hrx.out (Mv.of_ext XC.out) fun i hi => by
                rcases hi with hi | hi
                · exact ⟨.inl hi, Nat.lt_of_lt_of_le (HPS.out.old hi).2 XC.out.size⟩
                · have h1 := HPo.out.lt i hi; have h3 := HX6.out.size; exact ⟨.inr (by omega), h1.2⟩)
            have Hih := Lib.hid hih
            clear hih
            have hfc := cell_ext XC.out HPS.out.fb
            refine hK _ _ hfc ?_
            refine plan_walk rfl ?_; intro K hK
            go_wp2_with (first | (go_at_call 69; refine (Hih.out).mono ?_; rintro e w8 ⟨b, rfl, hMv, hT, hF⟩; have HMv := Lib.hid hMv; have HT := Lib.hid hT; have HF := Lib.hid hF; clear hMv hT hF))
            have HM8 := Lib.hid (show Mv (yI n Bd (oJ I (.slice on now.length cn))) wo w8 from (Mv.of_ext XC.out).trans HMv.out)
            refine hK _ _ (HPS.out.mv hbj hbd Hos.out HM8.out).fb ?_
            repeat ((first | (refine plan_take (v := ?_) rfl rfl (fun W hW => ?_) ?_; rotate_left; (focus (skip; go_simp; first | exact rfl | (split <;> first | exact rfl | (exfalso; omega)) | done))) | refine plan_skip rfl rfl ?_); simp only [Act.put, List.setIfInBounds_toArray, List.set_cons_zero, List.set_cons_succ])
            refine plan_done ?_
            clear hfc
            cases b with
            | false =>
              go_wp2
              try rw [Exit.noGoto_ret]
              go_ret
              exact ⟨false, rfl, (HMo.out.trans HM8.out).mono fun i _ => yI_mono (fun i hi => .inl hi) i, nofun, fun _ => (by first | exact HF.out rfl | exact HF.out trivial)⟩
            | true =>
              go_wp2
              go_roundg (gk - 1)
              case measure => omega
              case rel => exact ⟨y + 1, by omega, by omega, by go_num, HMo.out.trans HM8.out, by rw [← Hyes.out]; first | exact HT.out rfl | exact HT.out trivial⟩
      · obtain rfl : y = hands x.ap x.sts now.length := by omega
        have Hrx2 := Lib.hid (show R (k + (planFrom x.ap x.sts (r + 1) now).length) (oJ I (.slice on now.length cn)) wo by rw [planTo_end]; exact Hrx.out)
        clear Hrx hlt
        generalize hands x.ap x.sts now.length = hd at *
        have hfin : PlanPost n Bd R Fin k (planFrom x.ap x.sts (r + 1) now).length I w wo true := ⟨HMo.out.mono fun i _ => yI_mono (fun i hi => .inl hi) i, fun _ => HR.out _ _ _ _ _ Hrx2.out (Mv.refl _ _) fun i hi => ⟨.inl (.inl hi), (HPS.out.hI i hi).2⟩, nofun⟩
        have Hfin := Lib.hid hfin
        clear hfin
        by_cases hap0 : hd < x.ap + 1
        · have hrd : s.round = true := by
            cases h : s.round with
            | true => rfl
            | false => rw [h] at hhd; simp at hhd; omega
          obtain rfl : hd = 1 := by rw [hhd, hrd]; rfl
          rw [hrd] at cr
          have hltI : ((1 : Nat) : Int) < (x.ap : Int) + 1 := by omega
          have hltJ : (1 : Int) < (x.ap : Int) + 1 := by omega
          clear hrd hhd
          go_wp2
          try rw [Exit.noGoto_ret]
          go_ret
          exact ⟨true, rfl, Hfin.out⟩
        · have hltI : ¬ (hd : Int) < (x.ap : Int) + 1 := by omega
          have hltJ : (x.ap : Int) + 1 ≤ (hd : Int) := by omega
          clear hhd
          go_wp2
          try rw [Exit.noGoto_ret]
          go_ret
          exact ⟨true, rfl, Hfin.out⟩
end

end Go.Proofs.Ytdmegfbeibbmfaa
