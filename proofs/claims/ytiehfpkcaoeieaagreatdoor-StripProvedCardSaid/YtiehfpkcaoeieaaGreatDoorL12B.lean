/- The walk of StripProved where some spots contradict each other, the proposed ones not. No condition. -/
import Derived.Test.YtiehfpkcaoeieaaGreatDoorL12A
set_option linter.unusedVariables false
set_option linter.unusedSimpArgs false
namespace Go.Proofs.YtiehfpkcaoeieaaGreatDoor
open Go.RowKit Go.My Go.StripM


set_option maxRecDepth 100000 in
set_option maxHeartbeats 8000000 in
theorem law12s0 {n : Nat} {ss : List (List Nat)} {oa : Option Addr} {cap : Nat} {o : List Nat} {ob : Option Addr} {cb : Nat} {w : World} (g : Good n ss) (o1 : o.Pairwise (· < ·)) (o2 : ∀ i ∈ o, i < ss.length) (h : RowsAt w oa (upp ss)) (ho : IntsAt w ob (up o)) (hl : (upp ss).length ≤ 9223372036854775807) (hpl : o.length ≤ cb)
    (hcap : ss.length ≤ cap) (hcm : cap ≤ maxLen) (hr : (shortB (upp ss) && boardB n (upp ss)) = true) (l : List Nat) (hC : clashOf n ss = some l) (hx : cyc n (onlyN ss o) = false) (m : Int) (hm : w.cell? ⟨1, 0, none⟩ = some (.int .i64 m)) :
    Calls Tryz.prog 12 #[.agg #[.int .i64 n, .slice oa ss.length cap], .slice ob o.length cb] w fun e w' => e = .returned (.bool true) ∧ Ext w w' := by
  have hss := g.len
  have hol := len_ris g.len o1 o2
  have hp := proved g.len g.valid hC
  have hlen : ¬ (8 : Int) < (o.length : Int) := by omega
  have hlenN : ¬ 8 < o.length := by omega
  have hll := hp.len
  have hlpos : 0 < l.length := List.length_pos_iff.2 hp.ne
  have hne : ¬ l = [] := hp.ne
  have hl0 : ((l.length : Int) == 0) = false := by simp [hne]
  have hlI : ¬ (l.length : Int) = 0 := by omega
  have hl1 : ¬ (ss.length : Int) < (l.length : Int) := by omega
  have hl2 : ¬ ss.length < l.length := by omega
  have B := Lib.hid (Bx.start (n := n) (cap := cap) h)
  have Ho := Lib.hid (ho.ext ((Ext.refl w).alloc (.cells #[.int .i64 n, .slice oa ss.length cap] 24)))
  have R29 := Lib.hid (fun (W : World) (hW : Bx n ss oa cap w W) => right_any n (upp ss) oa cap W hW.rows hl)
  have R48 := Lib.hid (fun W (hi : IntsAt W ob (up o)) => rising_up (n := (n : Int)) (oa := oa) (cap := cap) o1 o2 (by omega) (by omega) W ob cb hi)
  have R48l := Lib.hid (fun W ol cl (hi : IntsAt W ol (up l)) => rising_up (n := (n : Int)) (oa := oa) (cap := cap) hp.ris hp.lt (by omega) (by omega) W ol cl hi)
  have R46 := Lib.hid (fun (W : World) (hW : Bx n ss oa cap w W) => clash_any n ss oa cap W hW.rows g hcap hcm)
  simp only [hC, ClashPost] at R46
  have hpos : 0 < (wrongsOf n ss).length := List.length_pos_iff.2 (wrongs_ne g.len)
  obtain ⟨f, hb⟩ := blamed (n := n) (M := List.range ss.length) g.len (range_lt _) (fun i hi => List.mem_range.1 hi) (by have := (full_mem ⟨ss.length, by omega⟩).2; simp only at this; rw [this]; simp [onlyN, cyc_nil])
  have hf : (wrongsOf n ss)[0] = f := by have := hb.f0; rw [List.getElem?_eq_getElem hpos] at this; simpa using this
  have R49 := Lib.hid (fun (W : World) (hW : Bx n ss oa cap w W) => wrong_any n ss oa cap W hW.rows g hcap hcm hpos)
  simp only [hf] at R49
  have hfl := hb.len
  have R50 := Lib.hid (fun (W : World) (hW : Bx n ss oa cap w W) => lcan_any n ss oa cap W hW.rows g)
  simp only [hp.all] at R50
  have R51 := Lib.hid (fun (W : World) (hW : Bx n ss oa cap w W) (hi : IntsAt W ob (up o)) => only_r n ss oa cap o ob cb W hW.rows hi (by omega) (by omega) o2)
  have R51l := Lib.hid (fun (W : World) (hW : Bx n ss oa cap w W) ol cl (hi : IntsAt W ol (up l)) => only_r n ss oa cap l ol cl W hW.rows hi (by omega) (by omega) hp.lt)
  have Rc := Lib.hid (fun o2' c2 W hr => lcan_only g (l := o) o2 (by omega) o2' c2 W hr)
  have Rl := Lib.hid (fun o2' c2 W hr => lcan_only g (l := l) hp.lt (by omega) o2' c2 W hr)
  simp only [hp.own] at Rl
  have Rk := Lib.hid (fun (W : World) (hW : Bx n ss oa cap w W) => known_any W m (cell_ext hW.ext hm))
  have R52 := Lib.hid (fun k W ob cb hi => listed_up f k W ob cb hi (by omega))
  have R32 := Lib.hid (fun W (og : Option Addr) (cg : Nat) (h1 : IntsAt W ob (up o)) (h2 : IntsAt W og (up l)) => tbefore_any o l ob og cb cg W h1 h2 (by omega) (by omega))
  have Hless := Lib.hid (fun k (hk : k < l.length) => hp.less k hk)
  have hsub : ∀ k, (∀ i ∈ l.take k ++ l.drop (k + 1), i < ss.length) ∧ (l.take k ++ l.drop (k + 1)).length ≤ 6 := fun k => by
    refine ⟨fun i hi => ?_, ?_⟩
    · rcases List.mem_append.1 hi with h | h
      · exact hp.lt i (List.mem_of_mem_take h)
      · exact hp.lt i (List.mem_of_mem_drop h)
    · rw [List.length_append, List.length_take, List.length_drop]; omega
  have Rons := Lib.hid (fun k o5 c5 W (hW : Bx n ss oa cap w W) (hi : IntsAt W o5 (up (l.take k ++ l.drop (k + 1)))) => only_r n ss oa cap (l.take k ++ l.drop (k + 1)) o5 c5 W hW.rows hi (by omega) (by have := (hsub k).2; omega) (hsub k).1)
  have Rcls := Lib.hid (fun k o2' c2 W hr => lcan_only g (l := l.take k ++ l.drop (k + 1)) (hsub k).1 (hsub k).2 o2' c2 W hr)
  have Hmet := Lib.hid (hp.met f hb.can)
  have hleast := hp.least o o1 o2
  simp only [upp_length, hr] at R29
  have T50 := Lib.hid trivial
  have T51 := Lib.hid trivial
  have T48 := Lib.hid trivial
  have T50c := Lib.hid trivial
  clear h ho hl hm g hcap hcm hpos hC hr o1 o2 hf hb hp hsub
  generalize cyc n (onlyN ss o) = X at *
  rw [hx] at Rc
  clear hleast hx
  go_enter Tryz.func12, Tryz.ntmps12
  go_wp2_with (first | (go_at_call 29; refine (R29.out _ B.out).mono ?_; rintro e w9 ⟨rfl, hE9⟩; replace B := Lib.hid (B.out.next hE9); (try clear c0 c1); have c0 := B.out.c0; have c1 := B.out.c1; replace Ho := Lib.hid (Ho.out.ext hE9); clear hE9) | (go_at_call 48; have t0 := T48; clear t0 T48; refine (R48.out _ Ho.out).mono ?_; rintro e w9 ⟨rfl, hE9⟩; replace B := Lib.hid (B.out.next hE9); (try clear c0 c1); have c0 := B.out.c0; have c1 := B.out.c1; replace Ho := Lib.hid (Ho.out.ext hE9); clear hE9) | (go_at_call 46; refine (R46.out _ B.out).mono ?_; rintro e w9 ⟨⟨v, rfl, hi⟩, hE9⟩; replace B := Lib.hid (B.out.next hE9); (try clear c0 c1); have c0 := B.out.c0; have c1 := B.out.c1; replace Ho := Lib.hid (Ho.out.ext hE9); obtain ⟨ol, cl, rfl, hll2, hlm, hln, hi⟩ := isInts_up hi; have Hl := Lib.hid hi; clear hi hln; clear hE9) | (go_at_call 49; refine (R49.out _ B.out).mono ?_; rintro e w9 ⟨⟨v, rfl, hi⟩, hE9⟩; replace B := Lib.hid (B.out.next hE9); (try clear c0 c1); have c0 := B.out.c0; have c1 := B.out.c1; replace Ho := Lib.hid (Ho.out.ext hE9); replace Hl := Lib.hid (Hl.out.ext hE9); obtain ⟨of, cf, rfl, hff, hfm, hfn, hi⟩ := isInts_up hi; have Hf := Lib.hid hi; clear hi hfn; clear hE9) | (go_at_call 50; have t0 := T50; clear t0 T50; refine (R50.out _ B.out).mono ?_; rintro e w9 ⟨rfl, hE9⟩; replace B := Lib.hid (B.out.next hE9); (try clear c0 c1); have c0 := B.out.c0; have c1 := B.out.c1; replace Ho := Lib.hid (Ho.out.ext hE9); replace Hl := Lib.hid (Hl.out.ext hE9); replace Hf := Lib.hid (Hf.out.ext hE9); clear hE9) | (go_at_call 51; have t0 := T51; clear t0 T51; refine (R51.out _ B.out Ho.out).mono ?_; rintro e w9 ⟨oq, cq, rfl, _, _, _, hrq, hE9⟩; replace B := Lib.hid (B.out.next hE9); (try clear c0 c1); have c0 := B.out.c0; have c1 := B.out.c1; replace Ho := Lib.hid (Ho.out.ext hE9); replace Hl := Lib.hid (Hl.out.ext hE9); replace Hf := Lib.hid (Hf.out.ext hE9); have Hq := Lib.hid hrq; clear hrq; clear hE9) | (go_at_call 50; have t0 := T50c; clear t0 T50c; refine (Rc.out oq cq _ Hq.out).mono ?_; rintro e w9 ⟨rfl, hE9⟩; replace B := Lib.hid (B.out.next hE9); (try clear c0 c1); have c0 := B.out.c0; have c1 := B.out.c1; replace Ho := Lib.hid (Ho.out.ext hE9); replace Hl := Lib.hid (Hl.out.ext hE9); replace Hf := Lib.hid (Hf.out.ext hE9); clear Hq; clear hE9) | (go_at_call 48; refine (R48l.out _ ol cl Hl.out).mono ?_; rintro e w9 ⟨rfl, hE9⟩; replace B := Lib.hid (B.out.next hE9); (try clear c0 c1); have c0 := B.out.c0; have c1 := B.out.c1; replace Ho := Lib.hid (Ho.out.ext hE9); replace Hl := Lib.hid (Hl.out.ext hE9); replace Hf := Lib.hid (Hf.out.ext hE9); clear hE9) | (go_at_call 32; refine (R32.out _ ol cl Ho.out Hl.out).mono ?_; rintro e w9 ⟨rfl, hE9⟩; replace B := Lib.hid (B.out.next hE9); (try clear c0 c1); have c0 := B.out.c0; have c1 := B.out.c1; replace Hl := Lib.hid (Hl.out.ext hE9); replace Hf := Lib.hid (Hf.out.ext hE9); clear hE9) | (go_at_call 51; refine (R51l.out _ B.out ol cl Hl.out).mono ?_; rintro e w9 ⟨oq, cq, rfl, _, _, _, hrq, hE9⟩; replace B := Lib.hid (B.out.next hE9); (try clear c0 c1); have c0 := B.out.c0; have c1 := B.out.c1; replace Hl := Lib.hid (Hl.out.ext hE9); replace Hf := Lib.hid (Hf.out.ext hE9); have Hq := Lib.hid hrq; clear hrq; clear hE9) | (go_at_call 50; refine (Rl.out oq cq _ Hq.out).mono ?_; rintro e w9 ⟨rfl, hE9⟩; replace B := Lib.hid (B.out.next hE9); (try clear c0 c1); have c0 := B.out.c0; have c1 := B.out.c1; replace Hl := Lib.hid (Hl.out.ext hE9); replace Hf := Lib.hid (Hf.out.ext hE9); obtain ⟨wl, rfl⟩ : ∃ wl : World, wl = w9 := ⟨_, rfl⟩; clear hE9))
  go_loopg [15, 16, 17, 18] l.length (fun g v i a b wr => ∃ (k : Nat) (bm : Bool), k + g = l.length ∧ i = .int .i64 k ∧ v = .bool bm ∧ (bm = false → ∀ i, i < k → l.getD i 0 ∉ f) ∧ Ext wl wr)
  case atStart => exact ⟨0, false, by simp, rfl, rfl, fun _ i h => by omega, Ext.refl _⟩
  case round =>
    obtain ⟨k, bm, hk, rfl, rfl, hmt, hE⟩ := hrel
    replace B := Lib.hid (B.out.next hE)
    replace Hl := Lib.hid (Hl.out.ext hE)
    replace Hf := Lib.hid (Hf.out.ext hE)
    have Hmt := Lib.hid hmt
    have HE := Lib.hid hE
    clear c0 c1 hmt hE
    have c0 := B.out.c0
    have c1 := B.out.c1
    by_cases hlt : k < l.length
    · obtain ⟨b, off, hob, hbb, hc⟩ := Hl.out.at (k := k) (by rw [up_length]; exact hlt)
      subst hob
      rw [show (up l)[k]'(by rw [up_length]; exact hlt) = ((l[k] : Nat) : Int) by simp [up]] at hc
      have hlk : (l.take k).length = k := by rw [List.length_take]; omega
      have hlk1 : (l.drop (k + 1)).length = l.length - (k + 1) := List.length_drop
      have Hit : Hid (IntsAt wr (some ⟨b, off, none⟩) (up (l.take k))) := Lib.hid (by have := Hl.out.take k; simpa [up] using this)
      have Ron := Lib.hid (Rons.out k)
      have Rcl := Lib.hid (Rcls.out k)
      simp only [Hless.out k hlt] at Rcl
      obtain ⟨LT, hLT⟩ : ∃ LT, LT = l.take k ++ l.drop (k + 1) := ⟨_, rfl⟩
      rw [← hLT] at Ron Rcl
      have HLT := Lib.hid hLT.symm
      clear hLT
      have R1 := Lib.hid (R52.out l[k])
      obtain ⟨own, hown⟩ : ∃ own : Bool, own = decide (l[k] ∈ f) := ⟨_, rfl⟩
      rw [← hown] at R1
      have hst : (bm || own) = false → ∀ i, i < k + 1 → l.getD i 0 ∉ f := by
        intro hbo i hi
        rw [Bool.or_eq_false_iff] at hbo
        rcases Nat.lt_or_eq_of_le (Nat.le_of_lt_succ hi) with h | rfl
        · exact Hmt.out hbo.1 i h
        · have := of_decide_eq_false (hown.symm.trans hbo.2)
          simpa [List.getD, hlt] using this
      have Hst := Lib.hid hst
      have hsl : (k : Int) + 1 ≤ (l.length : Int) := by omega
      have hslN : k + 1 ≤ l.length := by omega
      have hslc : (k : Int) ≤ (cl : Int) := by omega
      have hwk : IntKind.i64.wrap ((k : Int) + 1) = (k : Int) + 1 := IntWalk.i64_in _ (by omega)
      have h0k : (0 : Int) ≤ (k : Int) + 1 := by omega
      obtain ⟨of2, hof2⟩ : ∃ of2, of2 = if cl = k + 1 then off else off + (k + 1) := ⟨_, rfl⟩
      have hif : (if cl = k + 1 then some (⟨b, off, none⟩ : Addr) else some (⟨b, off + (k + 1), none⟩ : Addr)) = some ⟨b, of2, none⟩ := by rw [hof2]; split <;> rfl
      have Hid1 : Hid (IntsAt wr (some ⟨b, of2, none⟩) (up (l.drop (k + 1)))) := Lib.hid (by
        rw [hof2]
        split
        · rw [List.drop_of_length_le (by omega)]; intro i x hx; simp [up] at hx
        · have := ints_drop Hl.out (k + 1); simpa [up] using this)
      clear hof2
      have hslcN : k ≤ cl := by omega
      clear hst hown Hmt
      generalize l[k] = LK at *
      cases bm
      · go_wp2_with (first | (go_at_call 52; refine (R1.out _ of cf Hf.out).mono ?_; clear R1; rintro e w9 ⟨rfl, rfl⟩))
        refine wp_region_plan (.take 0 <| .take 1 <| .take 2 <| .take 3 <| .take 5 <| .take 6 <| .take 7 <| .take 8 <| .only 4 <| .only 9 <| .only 10 <| .only 11 <| .take 12 <| .take 13 <| .take 14 <| .take 15 <| .take 16 <| .done) (fun W => Ext wr W) mixed (by kernel_rfl) (by kernel_rfl) rfl (fun _ _ d _ _ h => by cases d <;> exact h) ((Ext.refl wr).drew) ?_
        repeat (first | (refine plan_take (v := ?_) rfl rfl (fun W hW => ?_) ?_; rotate_left; (focus (have e0 := cell_ext hW c0; have e1 := cell_ext hW c1; go_simp; first | exact rfl | (split <;> first | exact rfl | (exfalso; omega)) | done)); simp only [Act.put, List.setIfInBounds_toArray, List.set_cons_zero, List.set_cons_succ]) | (refine plan_skip rfl rfl ?_; simp only [Act.put, List.setIfInBounds_toArray, List.set_cons_zero, List.set_cons_succ]))
        refine plan_walk rfl ?_; intro K hK
        refine wpList_appNow _ rfl _ _ rfl (l.take k) (some ⟨b, off, none⟩) cl rfl (by rw [hlk]; rfl) (Hit.out.ext (Ext.refl wr).drew) (fun h => by cases h) (by rw [hlk]; omega) (by rw [hlk]; omega) ?_
        intro v1 w1 own1 hE1
        go_wp2
        refine hK _ _ ((Ext.refl wr).drew.trans hE1) ?_
        refine plan_walk rfl ?_; intro K hK
        refine wpList_appInts _ rfl _ _ rfl wr.drew.heap.size v1 (l.take k) (l.drop (k + 1)) b of2 (cl - (k + 1)) rfl own1 (by rw [hlk1]; rfl) (Hid1.out.ext ((Ext.refl wr).drew.trans hE1)) (by rw [hlk, hlk1]; omega) hE1.size ?_
        intro v2 w2 own2 hB2
        rw [HLT.out] at own2
        have hE2 : Ext wr w2 := (Ext.refl wr).drew.trans (hE1.below hB2 (Nat.le_refl _))
        obtain ⟨o5, c5, rfl, _, _, _, hi5⟩ := isInts_up (RowE.of_own (base := 0) own2).ints
        go_wp2
        refine hK _ _ hE2 ?_
        refine plan_walk rfl ?_; intro K hK
        go_wp2_with (first | (go_at_call 51; refine (Ron.out o5 c5 _ (B.out.next hE2) hi5).mono ?_; rintro e w6 ⟨o6, c6, rfl, _, _, _, hr6, hE6⟩))
        refine hK _ _ (hE2.trans hE6) ?_
        refine plan_walk rfl ?_; intro K hK
        go_wp2_with (first | (go_at_call 50; refine (Rcl.out o6 c6 _ hr6).mono ?_; rintro e w7 ⟨rfl, hE7⟩))
        have hX := (hE2.trans hE6).trans hE7
        refine hK _ _ hX ?_
        repeat (first | (refine plan_take (v := ?_) rfl rfl (fun W hW => ?_) ?_; rotate_left; (focus (skip; go_simp; first | exact rfl | (split <;> first | exact rfl | (exfalso; omega)) | done)); simp only [Act.put, List.setIfInBounds_toArray, List.set_cons_zero, List.set_cons_succ]) | (refine plan_skip rfl rfl ?_; simp only [Act.put, List.setIfInBounds_toArray, List.set_cons_zero, List.set_cons_succ]))
        refine plan_done ?_
        go_wp2
        go_roundg (gk - 1)
        case measure => omega
        case rel => exact ⟨k + 1, own, by omega, by go_num, rfl, Hst.out, HE.out.trans hX⟩
      · go_wp2_with fail
        refine wp_region_plan (.take 0 <| .take 1 <| .take 2 <| .take 3 <| .take 5 <| .take 6 <| .take 7 <| .take 8 <| .only 4 <| .only 9 <| .only 10 <| .only 11 <| .take 12 <| .take 13 <| .take 14 <| .take 15 <| .take 16 <| .done) (fun W => Ext wr W) mixed (by kernel_rfl) (by kernel_rfl) rfl (fun _ _ d _ _ h => by cases d <;> exact h) ((Ext.refl wr).drew) ?_
        repeat (first | (refine plan_take (v := ?_) rfl rfl (fun W hW => ?_) ?_; rotate_left; (focus (have e0 := cell_ext hW c0; have e1 := cell_ext hW c1; go_simp; first | exact rfl | (split <;> first | exact rfl | (exfalso; omega)) | done)); simp only [Act.put, List.setIfInBounds_toArray, List.set_cons_zero, List.set_cons_succ]) | (refine plan_skip rfl rfl ?_; simp only [Act.put, List.setIfInBounds_toArray, List.set_cons_zero, List.set_cons_succ]))
        refine plan_walk rfl ?_; intro K hK
        refine wpList_appNow _ rfl _ _ rfl (l.take k) (some ⟨b, off, none⟩) cl rfl (by rw [hlk]; rfl) (Hit.out.ext (Ext.refl wr).drew) (fun h => by cases h) (by rw [hlk]; omega) (by rw [hlk]; omega) ?_
        intro v1 w1 own1 hE1
        go_wp2
        refine hK _ _ ((Ext.refl wr).drew.trans hE1) ?_
        refine plan_walk rfl ?_; intro K hK
        refine wpList_appInts _ rfl _ _ rfl wr.drew.heap.size v1 (l.take k) (l.drop (k + 1)) b of2 (cl - (k + 1)) rfl own1 (by rw [hlk1]; rfl) (Hid1.out.ext ((Ext.refl wr).drew.trans hE1)) (by rw [hlk, hlk1]; omega) hE1.size ?_
        intro v2 w2 own2 hB2
        rw [HLT.out] at own2
        have hE2 : Ext wr w2 := (Ext.refl wr).drew.trans (hE1.below hB2 (Nat.le_refl _))
        obtain ⟨o5, c5, rfl, _, _, _, hi5⟩ := isInts_up (RowE.of_own (base := 0) own2).ints
        go_wp2
        refine hK _ _ hE2 ?_
        refine plan_walk rfl ?_; intro K hK
        go_wp2_with (first | (go_at_call 51; refine (Ron.out o5 c5 _ (B.out.next hE2) hi5).mono ?_; rintro e w6 ⟨o6, c6, rfl, _, _, _, hr6, hE6⟩))
        refine hK _ _ (hE2.trans hE6) ?_
        refine plan_walk rfl ?_; intro K hK
        go_wp2_with (first | (go_at_call 50; refine (Rcl.out o6 c6 _ hr6).mono ?_; rintro e w7 ⟨rfl, hE7⟩))
        have hX := (hE2.trans hE6).trans hE7
        refine hK _ _ hX ?_
        repeat (first | (refine plan_take (v := ?_) rfl rfl (fun W hW => ?_) ?_; rotate_left; (focus (skip; go_simp; first | exact rfl | (split <;> first | exact rfl | (exfalso; omega)) | done)); simp only [Act.put, List.setIfInBounds_toArray, List.set_cons_zero, List.set_cons_succ]) | (refine plan_skip rfl rfl ?_; simp only [Act.put, List.setIfInBounds_toArray, List.set_cons_zero, List.set_cons_succ]))
        refine plan_done ?_
        go_wp2
        go_roundg (gk - 1)
        case measure => omega
        case rel => exact ⟨k + 1, true, by omega, by go_num, rfl, (fun h => by cases h), HE.out.trans hX⟩
    · obtain rfl : k = l.length := by omega
      obtain rfl : bm = true := by
        cases bm
        · obtain ⟨i, hi, hmem⟩ := Hmet.out
          exact absurd hmem (Hmt.out rfl i hi)
        · rfl
      go_wp2_with (first | (go_at_call 23; refine (Rk.out _ B.out).mono ?_; rintro e w9 ⟨rfl, hE9⟩; replace B := Lib.hid (B.out.next hE9); (try clear c0 c1); have c0 := B.out.c0; have c1 := B.out.c1; clear hE9))
      go_ret
      exact ⟨rfl, B.out.ext⟩

end Go.Proofs.YtiehfpkcaoeieaaGreatDoor
