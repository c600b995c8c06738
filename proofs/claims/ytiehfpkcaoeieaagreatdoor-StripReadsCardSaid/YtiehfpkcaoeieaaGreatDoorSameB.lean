/- Contract of the reference: equal boards. No condition. -/
import Derived.Test.YtiehfpkcaoeieaaGreatDoorAgree
set_option linter.unusedVariables false
set_option linter.unusedSimpArgs false
namespace Go.Proofs.YtiehfpkcaoeieaaGreatDoor
open Go.RowKit Go.My Go.StripM

set_option maxHeartbeats 1000000 in
theorem sboards_same (n : Int) (ls : List (List Int)) (oa ob : Option Addr) (ca cb : Nat) (w : World) (h1 : RowsAt w oa ls) (h2 : RowsAt w ob ls) (hl : ls.length ≤ 9223372036854775807) :
    Calls Tryz.prog 68 #[.agg #[.int .i64 n, .slice oa ls.length ca], .agg #[.int .i64 n, .slice ob ls.length cb]] w fun e w' => e = .returned (.bool true) ∧ Ext w w' := by
  have H1 := Lib.hid h1; have H2 := Lib.hid h2; clear h1 h2
  have hE0 : Ext w ((w.alloc (.cells #[.int .i64 n, .slice oa ls.length ca] 24)).alloc (.cells #[.int .i64 n, .slice ob ls.length cb] 24)) := ((Ext.refl w).alloc _).alloc _
  go_enter Tryz.func68, Tryz.ntmps68
  go_wp2
  go_loopg [5] ls.length (fun g i wr => ∃ k : Nat, k + g = ls.length ∧ i = .int .i64 k ∧ Ext ((w.alloc (.cells #[.int .i64 n, .slice oa ls.length ca] 24)).alloc (.cells #[.int .i64 n, .slice ob ls.length cb] 24)) wr)
  case atStart => exact ⟨0, by simp, rfl, Ext.refl _⟩
  case round =>
    obtain ⟨k, hk, rfl, hE⟩ := hrel
    have a1 : wr.cell? ⟨w.heap.size, 1, none⟩ = some (.slice oa ls.length ca) := cell_ext hE (by go_simp)
    have b1 : wr.cell? ⟨w.heap.size + 1, 1, none⟩ = some (.slice ob ls.length cb) := cell_ext hE (by go_simp)
    have HE := Lib.hid (hE0.trans hE)
    by_cases hlt : k < ls.length
    · obtain ⟨b, off, oc, cc, hoa, _, hc, hcc, hcm, _, hci⟩ := (H1.out.ext HE.out).at hlt
      obtain ⟨b2, off2, od, cd, hob, _, hc2, hdd, hdm, _, hdi⟩ := (H2.out.ext HE.out).at hlt
      subst hoa
      subst hob
      have hll := len_le hcc hcm
      have Hci := Lib.hid hci
      have Hdi := Lib.hid hdi
      generalize ls[k] = l at *
      clear hci hdi hcc hcm hdd hdm
      go_wp2_with fail
      refine wp_region_plan (.take 0 <| .take 1 <| .take 2 <| .take 3 <| .take 4 <| .take 5 <| .take 6 <| .take 7 <| .take 8 <| .take 9 <| .only 10 <| .take 11 <| .done) (fun W => Ext wr W) mixed (by kernel_rfl) (by kernel_rfl) rfl (fun _ _ d _ _ h => by cases d <;> exact h) ((Ext.refl wr).drew) ?_
      repeat (first | (refine plan_take (v := ?_) rfl rfl (fun W hW => ?_) ?_; rotate_left; (focus (have e1 := cell_ext hW a1; have e2 := cell_ext hW b1; have e3 := cell_ext hW hc; have e4 := cell_ext hW hc2; go_simp; first | exact rfl | (split <;> first | exact rfl | (exfalso; omega)) | done)); simp only [Act.put, List.setIfInBounds_toArray, List.set_cons_zero, List.set_cons_succ]) | (refine plan_skip rfl rfl ?_; simp only [Act.put, List.setIfInBounds_toArray, List.set_cons_zero, List.set_cons_succ]))
      refine plan_walk rfl ?_; intro K hK
      go_wp2_with (first | (go_at_call 28; refine (tsame_any l l oc od cc cd _ (Hci.out.ext (Ext.refl wr).drew) (Hdi.out.ext (Ext.refl wr).drew) hll hll).mono ?_; rw [decide_eq_true rfl]; rintro e w1 ⟨rfl, hE1⟩))
      refine hK _ _ ((Ext.refl wr).drew.trans hE1) ?_
      repeat (first | (refine plan_take (v := ?_) rfl rfl (fun W hW => ?_) ?_; rotate_left; (focus (skip; go_simp; first | exact rfl | (split <;> first | exact rfl | (exfalso; omega)) | done)); simp only [Act.put, List.setIfInBounds_toArray, List.set_cons_zero, List.set_cons_succ]) | (refine plan_skip rfl rfl ?_; simp only [Act.put, List.setIfInBounds_toArray, List.set_cons_zero, List.set_cons_succ]))
      refine plan_done ?_
      go_wp2
      go_roundg (gk - 1)
      case measure => omega
      case rel => exact ⟨k + 1, by omega, by go_num, hE.drew.trans hE1⟩
    · go_wp2
      go_ret
      exact ⟨rfl, HE.out⟩

end Go.Proofs.YtiehfpkcaoeieaaGreatDoor
