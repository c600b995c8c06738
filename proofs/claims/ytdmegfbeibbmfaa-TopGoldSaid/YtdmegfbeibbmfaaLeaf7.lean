/- Contract: can, of one piece alone. No condition beyond jobs as defined. -/
import Derived.Test.YtdmegfbeibbmfaaLeaf6
set_option linter.unusedVariables false
set_option linter.unusedSimpArgs false
namespace Go.Proofs.Ytdmegfbeibbmfaa
open Go.RowKit Go.My Go.GoldM


theorem any_succ (P : Nat → Bool) (k : Nat) : (List.range (k + 1)).any P = ((List.range k).any P || P k) := by simp [List.range_succ]

set_option maxRecDepth 100000 in
set_option maxHeartbeats 8000000 in
theorem can_single (j : Jb) (f : Fine j) (og op : Option Addr) (cg cp mb : Nat) (w' h' set : Nat) (w : World) (a1 : 1 ≤ w') (a2 : 1 ≤ h') (hs : set < 32) (hs1 : 1 ≤ set) (h1 : set &&& (set - 1) = 0) (hm : RestM.Memo w mb (F3 j.pieces)) (hp : PcsAt w op j.pieces) :
    Calls Try.prog 73 #[knV j og cg op cp mb, restV w' h' set] w fun e W' => e = .returned (.bool (canR j.pieces w' h' set)) ∧ KM j.pieces mb w W' := by
  obtain ⟨P, hP⟩ : ∃ P : Nat → Bool, P = fun n => set == 1 <<< n && alone (j.pieces.getD n ⟨0, 0, false, 0⟩) w' h' := ⟨_, rfl⟩
  have HR := Lib.hid (show canR j.pieces w' h' set = (List.range j.pieces.length).any P by rw [canR_eq _ _ a1 a2, if_neg (by omega), if_pos h1, hP])
  have HPk := Lib.hid (fun k (hk : k < j.pieces.length) => (show P k = (set == 1 <<< k && alone j.pieces[k] w' h') by rw [hP]; show (set == 1 <<< k && alone (j.pieces.getD k ⟨0, 0, false, 0⟩) w' h') = _; rw [show j.pieces.getD k ⟨0, 0, false, 0⟩ = j.pieces[k] by simp [List.getD, hk]]))
  have Hsu := Lib.hid (any_succ P)
  have hany0 : (List.range 0).any P = false := rfl
  have hmb := hm.lt
  have HM0 := Lib.hid hm
  have HP0 := Lib.hid hp
  have hpl := f.pl
  have R83 := Lib.hid (fun p W => alone83 p w' h' set W)
  have q1 : IntKind.i64.wrap ((set : Int) - 1) = ((set - 1 : Nat) : Int) := by rw [IntWalk.i64_in _ (by omega)]; omega
  have q2 := and32 (a := set) (b := set - 1) hs (by omega)
  rw [h1] at q2
  have h0I : ¬ (set : Int) = 0 := by omega
  have HK0 := Lib.hid (show VB ((w.alloc (.cells (knL j og cg op cp mb).toArray 114)).alloc (.cells #[I w', I h', I set] 139)) w.heap.size (knL j og cg op cp mb) from (VB.new w (knL j og cg op cp mb) 114).ext ((Ext.refl _).alloc _))
  have HA0 := Lib.hid (show VB ((w.alloc (.cells (knL j og cg op cp mb).toArray 114)).alloc (.cells #[I w', I h', I set] 139)) (w.heap.size + 1) [I w', I h', I set] by
    have := VB.new (w.alloc (.cells (knL j og cg op cp mb).toArray 114)) [I w', I h', I set] 139
    simpa only [World.size_alloc] using this)
  have HE0 := Lib.hid (show Ext w ((w.alloc (.cells (knL j og cg op cp mb).toArray 114)).alloc (.cells #[I w', I h', I set] 139)) from ((Ext.refl w).alloc _).alloc _)
  have HM1 := Lib.hid (HM0.out.ext HE0.out)
  clear hm hp f a1 a2 h1 hP
  go_enter Try.func73, Try.ntmps73
  go_wp2_with (first | ((with_reducible refine RestM.at_lookup _ _ rfl ?_); refine RestM.wpList_lookup rfl _ _ rfl mb ?_ (w' : Int) (h' : Int) (set : Int) ?_ (F3 j.pieces) HM1.out ?_; (focus (go_simp; done)); (focus (go_simp; done)); intro v ok hv; have Hv := Lib.hid hv; clear hv; cases ok))
  · clear Hv
    go_loopg [7, 8, 9, 35] j.pieces.length (fun g is n b i wr => ∃ k : Nat, k + g = j.pieces.length ∧ i = .int .i64 k ∧ is = .bool ((List.range k).any P) ∧ Ext w wr ∧ VB wr w.heap.size (knL j og cg op cp mb) ∧ VB wr (w.heap.size + 1) [I w', I h', I set])
    case atStart => exact ⟨0, by omega, rfl, by rw [hany0], HE0.out, HK0.out, HA0.out⟩
    case round =>
      clear hany0
      obtain ⟨k, hk, rfl, rfl, hE, hK, hA⟩ := hrel
      have HE := Lib.hid hE
      have HK := Lib.hid hK
      have HA := Lib.hid hA
      have hlA := World.block_lt_of_cell? _ _ (hA 0 _ rfl)
      simp only at hlA
      have f0 := HA.out 0 _ rfl; have f1 := HA.out 1 _ rfl; have f2 := HA.out 2 _ rfl
      have e6 := HK.out 6 _ rfl
      have HX := Lib.hid (KM.of_ext HM0.out HE.out)
      clear hE hK hA HE0 HM1
      by_cases hlt : k < j.pieces.length
      · have hltI : (k : Int) < (j.pieces.length : Int) := by omega
        obtain ⟨b, off, ho, hb, k0, k1, k2, k3⟩ := (HP0.out.ext HE.out).at hlt
        subst ho
        have q3 := shl5p (k := k) (by omega)
        have q4 := shl5 (k := k) (by omega)
        have HSk := Lib.hid (show (List.range (k + 1)).any P = ((List.range k).any P || (set == 1 <<< k && alone j.pieces[k] w' h')) by rw [Hsu.out, HPk.out k hlt])
        have Rp := Lib.hid (R83.out j.pieces[k])
        clear R83
        generalize (List.range k).any P = B at *
        generalize alone j.pieces[k] w' h' = Al at *
        generalize j.pieces[k] = p at *
        obtain ⟨pw, ph, pt, pg⟩ := p
        simp only at k0 k1 k2 k3
        generalize 1 <<< k = m at *
        have hV := VB.new wr [I pw, I ph, .bool pt, I pg] 32
        have HXe := Lib.hid ((Ext.refl wr).alloc (.cells #[I pw, I ph, .bool pt, I pg] 32))
        go_wp2
        have f0' := cell_ext HXe.out f0; have f1' := cell_ext HXe.out f1; have f2' := cell_ext HXe.out f2
        have p0 := hV 0 _ rfl; have p1 := hV 1 _ rfl; have p2 := hV 2 _ rfl; have p3 := hV 3 _ rfl
        replace HK := Lib.hid (HK.out.ext HXe.out)
        replace HA := Lib.hid (HA.out.ext HXe.out)
        replace HE := Lib.hid (HE.out.trans HXe.out)
        clear f0 f1 f2 e6 k0 k1 k2 k3 hV HXe HX
        generalize hbx : wr.heap.size = bx at *
        generalize wr.alloc (.cells #[I pw, I ph, .bool pt, I pg] 32) = wz at *
        cases B with
        | true =>
          refine wp_region_plan (.take 0 <| .take 1 <| .take 2 <| .take 3 <| .take 4 <| .take 5 <| .take 6 <| .take 7 <| .take 8 <| .take 9 <| .only 10 <| .take 11 <| .take 12 <| .take 13 <| .done) (fun W => Ext wz W) mixed (by kernel_rfl) (by kernel_rfl) rfl (fun _ _ d _ _ h => by cases d <;> exact h) ((Ext.refl wz).drew) ?_
          repeat ((first | (refine plan_take (v := ?_) rfl rfl (fun W hW => ?_) ?_; rotate_left; (focus (skip; go_simp; first | exact rfl | (split <;> first | exact rfl | (exfalso; omega)) | done))) | refine plan_skip rfl rfl ?_); simp only [Act.put, List.setIfInBounds_toArray, List.set_cons_zero, List.set_cons_succ])
          refine plan_walk rfl ?_; intro K hK
          go_wp2
          refine hK _ _ (Ext.refl wz).drew ?_
          repeat ((first | (refine plan_take (v := ?_) rfl rfl (fun W hW => ?_) ?_; rotate_left; (focus (skip; go_simp; first | exact rfl | (split <;> first | exact rfl | (exfalso; omega)) | done))) | refine plan_skip rfl rfl ?_); simp only [Act.put, List.setIfInBounds_toArray, List.set_cons_zero, List.set_cons_succ])
          refine plan_done ?_
          go_wp2
          go_roundg (gk - 1)
          case measure => omega
          case rel => exact ⟨k + 1, by omega, by go_num, by rw [HSk.out]; rfl, HE.out.drew, HK.out.ext (Ext.refl wz).drew, HA.out.ext (Ext.refl wz).drew⟩
        | false =>
          by_cases hme : set = m
          · have hmb1 : ((set : Int) == (m : Int)) = true := by rw [beq_iff_eq]; omega
            have Hme := Lib.hid hme
            clear hme
            refine wp_region_plan (.take 0 <| .take 1 <| .take 2 <| .take 3 <| .take 4 <| .take 5 <| .take 6 <| .take 7 <| .take 8 <| .take 9 <| .only 10 <| .take 11 <| .take 12 <| .take 13 <| .done) (fun W => Ext wz W) mixed (by kernel_rfl) (by kernel_rfl) rfl (fun _ _ d _ _ h => by cases d <;> exact h) ((Ext.refl wz).drew) ?_
            repeat ((first | (refine plan_take (v := ?_) rfl rfl (fun W hW => ?_) ?_; rotate_left; (focus (have d0 := cell_ext hW f0'; have d1 := cell_ext hW f1'; have d2 := cell_ext hW f2'; have d3 := cell_ext hW p0; have d4 := cell_ext hW p1; have d5 := cell_ext hW p2; have d6 := cell_ext hW p3; go_simp; first | exact rfl | (split <;> first | exact rfl | (exfalso; omega)) | done))) | refine plan_skip rfl rfl ?_); simp only [Act.put, List.setIfInBounds_toArray, List.set_cons_zero, List.set_cons_succ])
            refine plan_walk rfl ?_; intro K hK
            go_wp2_with (first | (go_at_call 83; refine (Rp.out _).mono ?_; rintro e w5 ⟨rfl, h5⟩))
            have X := Lib.hid ((Ext.refl wz).drew.trans h5)
            refine hK _ _ X.out ?_
            clear h5
            repeat ((first | (refine plan_take (v := ?_) rfl rfl (fun W hW => ?_) ?_; rotate_left; (focus (skip; go_simp; first | exact rfl | (split <;> first | exact rfl | (exfalso; omega)) | done))) | refine plan_skip rfl rfl ?_); simp only [Act.put, List.setIfInBounds_toArray, List.set_cons_zero, List.set_cons_succ])
            refine plan_done ?_
            clear f0' f1' f2' p0 p1 p2 p3
            go_wp2
            go_roundg (gk - 1)
            case measure => omega
            case rel => exact ⟨k + 1, by omega, by go_num, by rw [HSk.out]; simp [Hme.out], HE.out.trans X.out, HK.out.ext X.out, HA.out.ext X.out⟩
          · have hmb1 : ((set : Int) == (m : Int)) = false := by rw [beq_eq_false_iff_ne]; omega
            have hmn : (set == m) = false := by simpa using hme
            have hmI : ¬ (set : Int) = (m : Int) := by omega
            refine wp_region_plan (.take 0 <| .take 1 <| .take 2 <| .take 3 <| .take 4 <| .take 5 <| .take 6 <| .take 7 <| .take 8 <| .take 9 <| .only 10 <| .take 11 <| .take 12 <| .take 13 <| .done) (fun W => Ext wz W) mixed (by kernel_rfl) (by kernel_rfl) rfl (fun _ _ d _ _ h => by cases d <;> exact h) ((Ext.refl wz).drew) ?_
            repeat ((first | (refine plan_take (v := ?_) rfl rfl (fun W hW => ?_) ?_; rotate_left; (focus (have d0 := cell_ext hW f0'; have d1 := cell_ext hW f1'; have d2 := cell_ext hW f2'; go_simp; first | exact rfl | (split <;> first | exact rfl | (exfalso; omega)) | done))) | refine plan_skip rfl rfl ?_); simp only [Act.put, List.setIfInBounds_toArray, List.set_cons_zero, List.set_cons_succ])
            refine plan_walk rfl ?_; intro K hK
            go_wp2
            refine hK _ _ (Ext.refl wz).drew ?_
            repeat ((first | (refine plan_take (v := ?_) rfl rfl (fun W hW => ?_) ?_; rotate_left; (focus (skip; go_simp; first | exact rfl | (split <;> first | exact rfl | (exfalso; omega)) | done))) | refine plan_skip rfl rfl ?_); simp only [Act.put, List.setIfInBounds_toArray, List.set_cons_zero, List.set_cons_succ])
            refine plan_done ?_
            clear f0' f1' f2' p0 p1 p2 p3
            go_wp2
            go_roundg (gk - 1)
            case measure => omega
            case rel => exact ⟨k + 1, by omega, by go_num, by rw [HSk.out, hmn]; rfl, HE.out.drew, HK.out.ext (Ext.refl wz).drew, HA.out.ext (Ext.refl wz).drew⟩
      · obtain rfl : k = j.pieces.length := by omega
        have hltI : ¬ (j.pieces.length : Int) < (j.pieces.length : Int) := by omega
        rw [← HR.out]
        go_wp2_with (first | ((with_reducible refine RestM.at_update _ _ _ rfl ?_); refine RestM.wpList_update rfl _ _ _ rfl mb ?_ (w' : Int) (h' : Int) (set : Int) ?_ (F3 j.pieces) ?_ HX.out.memo ?_; (focus (go_simp; done)); (focus (go_simp; done)); (focus (rw [F3_nat, HR.out]; go_simp; done)); intro w8 hm8 hg8 _; have H8 := Lib.hid (KM.trans HX.out ⟨Mv.of_grown hg8 fun i e => by cases e; rfl, hm8⟩); clear hm8 hg8))
        go_ret
        exact ⟨rfl, H8.out⟩
  · go_ret
    exact ⟨ret_bool ((Hv.out trivial).trans (F3_nat _ _ _ _)), KM.of_ext HM0.out HE0.out⟩

end Go.Proofs.Ytdmegfbeibbmfaa
