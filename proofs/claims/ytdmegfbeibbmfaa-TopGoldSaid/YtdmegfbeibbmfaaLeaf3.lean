/- Contract: large. No condition beyond jobs as defined. -/
import Derived.Test.YtdmegfbeibbmfaaG4
set_option linter.unusedVariables false
set_option linter.unusedSimpArgs false
namespace Go.Proofs.Ytdmegfbeibbmfaa
open Go.RowKit Go.My Go.GoldM

abbrev knL (j : Jb) (og : Option Addr) (cg : Nat) (op : Option Addr) (cp mb : Nat) : List Value := [I j.wide, I j.high, I j.book, I j.spoilt, .slice og j.grounds.length cg, .slice op j.pieces.length cp, .map (some mb)]
abbrev knV (j : Jb) (og : Option Addr) (cg : Nat) (op : Option Addr) (cp mb : Nat) : Value := .agg #[I j.wide, I j.high, I j.book, I j.spoilt, .slice og j.grounds.length cg, .slice op j.pieces.length cp, .map (some mb)]

theorem areas_small {ps : List Pc} (h : ∀ p ∈ ps, p.w ≤ 6 ∧ p.h ≤ 6) (set : Nat) : ∀ k, ∀ x ∈ areasTo ps set k, x ≤ 36 := by
  intro k
  induction k with
  | zero => intro x hx; cases hx
  | succ k ih =>
    intro x hx
    rw [areasTo] at hx
    rcases List.mem_append.1 hx with hx | hx
    · exact ih x hx
    · split at hx
      · simp only [List.mem_singleton] at hx
        subst hx
        by_cases hk : k < ps.length
        · have := h ps[k] (List.getElem_mem hk)
          rw [show ps.getD k ⟨0, 0, false, 0⟩ = ps[k] by simp [List.getD, hk]]
          exact Nat.mul_le_mul this.1 this.2
        · rw [show ps.getD k ⟨0, 0, false, 0⟩ = ⟨0, 0, false, 0⟩ by simp [List.getD, Nat.le_of_not_lt hk]]; decide
      · cases hx
theorem areas_len (ps : List Pc) (set : Nat) : ∀ k, (areasTo ps set k).length ≤ k := by
  intro k
  induction k with
  | zero => simp [areasTo]
  | succ k ih => rw [areasTo, List.length_append]; split <;> simp <;> omega

set_option maxRecDepth 100000 in
set_option maxHeartbeats 4000000 in
theorem large84 (j : Jb) (f : Fine j) (og op : Option Addr) (cg cp mb rw' rh set : Nat) (hw : rw' ≤ 6) (hh : rh ≤ 6) (hs : set < 32) (w : World) (h : PcsAt w op j.pieces) :
    Calls Try.prog 84 #[knV j og cg op cp mb, restV rw' rh set] w fun e w' => e = .returned (.bool (large j.pieces rw' rh set)) ∧ Ext w w' := by
  have H := Lib.hid h
  have hpl := f.pl
  have hw6 : ∀ p ∈ j.pieces, p.w ≤ 6 ∧ p.h ≤ 6 := fun p hp => ⟨(f.pc p hp).1.2, (f.pc p hp).2.1.2⟩
  have H6 := Lib.hid (fun k (hk : k < j.pieces.length) => hw6 _ (List.getElem_mem hk))
  have Hsm := Lib.hid (areas_small hw6 set)
  have Hle := Lib.hid (areas_len j.pieces set)
  have HL := Lib.hid (show large j.pieces rw' rh set = decide (rw' * rh < (areasTo j.pieces set j.pieces.length).sum) from rfl)
  have B := Lib.hid (show VB ((w.alloc (.cells (knL j og cg op cp mb).toArray 114)).alloc (.cells #[I rw', I rh, I set] 139)) w.heap.size (knL j og cg op cp mb) from (VB.new w (knL j og cg op cp mb) 114).ext ((Ext.refl _).alloc _))
  have C := Lib.hid (show VB ((w.alloc (.cells (knL j og cg op cp mb).toArray 114)).alloc (.cells #[I rw', I rh, I set] 139)) (w.heap.size + 1) [I rw', I rh, I set] by
    have := VB.new (w.alloc (.cells (knL j og cg op cp mb).toArray 114)) [I rw', I rh, I set] 139
    simpa only [World.size_alloc] using this)
  have hE0 : Ext w ((w.alloc (.cells (knL j og cg op cp mb).toArray 114)).alloc (.cells #[I rw', I rh, I set] 139)) := ((Ext.refl w).alloc _).alloc _
  clear h f hw6
  go_enter Try.func84, Try.ntmps84
  go_wp2
  have hsz0 : w.heap.size + 2 ≤ ((w.alloc (.cells (knL j og cg op cp mb).toArray 114)).alloc (.cells #[I rw', I rh, I set] 139)).heap.size := by simp
  generalize (w.alloc (.cells (knL j og cg op cp mb).toArray 114)).alloc (.cells #[I rw', I rh, I set] 139) = w0 at *
  have HE0 := Lib.hid hE0
  clear hE0
  go_loopg [5, 6, 7, 12] j.pieces.length (fun g v n b i wr => ∃ k : Nat, k + g = j.pieces.length ∧ i = .int .i64 k ∧ Ext w0 wr ∧ My.Own wr w0.heap.size 3 v ((upL (areasTo j.pieces set k)).map (Value.int .i64)))
  case atStart => exact ⟨0, by omega, rfl, Ext.refl _, My.Own.nil _ _ _⟩
  case round =>
    obtain ⟨k, hk, rfl, hE, hown⟩ := hrel
    have HE := Lib.hid hE
    have Hown := Lib.hid hown
    have hsE := hE.size
    clear hE hown
    obtain ⟨wo, rfl⟩ : ∃ wo : World, wo = wr := ⟨_, rfl⟩
    by_cases hlt : k < j.pieces.length
    · have hltI : (k : Int) < (j.pieces.length : Int) := by omega
      obtain ⟨b, off, ho, hb, k0, k1, k2, k3⟩ := (H.out.ext (HE0.out.trans HE.out)).at hlt
      subst ho
      have h6 := H6.out k hlt
      have q1 := shl5p (k := k) (by omega)
      have q2 := and32 hs (shl_lt5 (k := k) (by omega))
      have Hs := Lib.hid (show areasTo j.pieces set (k + 1) = areasTo j.pieces set k ++ (if set &&& (1 <<< k) ≠ 0 then [j.pieces[k].w * j.pieces[k].h] else []) by rw [areasTo, show j.pieces.getD k ⟨0, 0, false, 0⟩ = j.pieces[k] by simp [List.getD, hlt]])
      have hll := Hle.out k
      obtain ⟨pw, hpw⟩ : ∃ x, x = j.pieces[k].w := ⟨_, rfl⟩
      obtain ⟨ph, hph⟩ : ∃ x, x = j.pieces[k].h := ⟨_, rfl⟩
      rw [← hpw] at k0 h6 Hs
      rw [← hph] at k1 h6 Hs
      clear hpw hph
      generalize j.pieces[k].turn = pt at *
      generalize j.pieces[k].g = pg at *
      have hmul := Nat.mul_le_mul h6.1 h6.2
      have hmi : ((pw * ph : Nat) : Int) = (pw : Int) * (ph : Int) := Int.natCast_mul pw ph
      have q3 : IntKind.i64.wrap ((pw : Int) * (ph : Int)) = ((pw * ph : Nat) : Int) := by rw [← hmi, IntWalk.i64_in _ (by omega)]
      have c2 : wo.cell? ⟨w.heap.size + 1, 2, none⟩ = some (I set) := (C.out.ext HE.out) 2 _ rfl
      have hne1 : ¬ w.heap.size + 1 = wo.heap.size := by omega
      clear hmi h6
      generalize 1 <<< k = m at *
      by_cases hz : set &&& m = 0
      · rw [hz] at q2
        have Hs2 := Lib.hid (show areasTo j.pieces set (k + 1) = areasTo j.pieces set k by rw [Hs.out, hz]; simp)
        clear hz
        go_wp2
        refine wp_region_plan (.take 0 <| .take 1 <| .take 2 <| .take 3 <| .take 4 <| .take 5 <| .done) (fun W => Ext (wo.alloc (.cells #[I pw, I ph, .bool pt, I pg] 32)) W) mixed (by kernel_rfl) (by kernel_rfl) rfl (fun _ _ d _ _ h => by cases d <;> exact h) ((Ext.refl (wo.alloc (.cells #[I pw, I ph, .bool pt, I pg] 32))).drew) ?_
        repeat ((first | (refine plan_take (v := ?_) rfl rfl (fun W hW => ?_) ?_; rotate_left; (focus (have d2 := cell_ext hW (cell_ext ((Ext.refl wo).alloc (.cells #[I pw, I ph, .bool pt, I pg] 32)) c2); go_simp; first | exact rfl | (split <;> first | exact rfl | (exfalso; omega)) | done))) | refine plan_skip rfl rfl ?_); simp only [Act.put, List.setIfInBounds_toArray, List.set_cons_zero, List.set_cons_succ])
        refine plan_done ?_
        have X := Lib.hid ((Ext.refl wo).alloc (.cells #[I pw, I ph, .bool pt, I pg] 32)).drew
        clear k0 k1 k2 k3 c2 hne1
        generalize (wo.alloc (.cells #[I pw, I ph, .bool pt, I pg] 32)).drew = w5 at *
        go_wp2
        go_roundg (gk - 1)
        case measure => omega
        case rel => exact ⟨k + 1, by omega, by go_num, HE.out.trans X.out, by rw [Hs2.out]; exact Hown.out.ext X.out⟩
      · have hzI : ¬ ((set &&& m : Nat) : Int) = 0 := by omega
        have hzb : (((set &&& m : Nat) : Int) != 0) = true := by simpa using hzI
        have Hs2 := Lib.hid (show areasTo j.pieces set (k + 1) = areasTo j.pieces set k ++ [pw * ph] by rw [Hs.out, if_pos hz])
        clear hz
        generalize set &&& m = Z at *
        go_wp2
        refine wp_region_plan (.take 0 <| .take 1 <| .take 2 <| .take 3 <| .take 4 <| .take 5 <| .done) (fun W => Ext (wo.alloc (.cells #[I pw, I ph, .bool pt, I pg] 32)) W) mixed (by kernel_rfl) (by kernel_rfl) rfl (fun _ _ d _ _ h => by cases d <;> exact h) ((Ext.refl (wo.alloc (.cells #[I pw, I ph, .bool pt, I pg] 32))).drew) ?_
        repeat ((first | (refine plan_take (v := ?_) rfl rfl (fun W hW => ?_) ?_; rotate_left; (focus (have d2 := cell_ext hW (cell_ext ((Ext.refl wo).alloc (.cells #[I pw, I ph, .bool pt, I pg] 32)) c2); go_simp; first | exact rfl | (split <;> first | exact rfl | (exfalso; omega)) | done))) | refine plan_skip rfl rfl ?_); simp only [Act.put, List.setIfInBounds_toArray, List.set_cons_zero, List.set_cons_succ])
        refine plan_done ?_
        have X := Lib.hid ((Ext.refl wo).alloc (.cells #[I pw, I ph, .bool pt, I pg] 32)).drew
        have hV := (VB.new wo [I pw, I ph, .bool pt, I pg] 32).ext (Ext.refl (wo.alloc (.cells #[I pw, I ph, .bool pt, I pg] 32))).drew
        have e0 := hV 0 _ rfl
        have e1 := hV 1 _ rfl
        have hs5 := X.out.size
        clear k0 k1 k2 k3 c2 hne1 hV
        generalize (wo.alloc (.cells #[I pw, I ph, .bool pt, I pg] 32)).drew = w5 at *
        have ho5 := Hown.out.ext X.out
        have hl5 := World.block_lt_of_cell? _ _ e0
        simp only at hl5
        go_wp2_with (first | (at_builtin; refine wpList_app1 _ rfl _ _ 33 rfl 3 Try.underlying33 (.int .i64 0) 8 i3 rfl (by decide) w0.heap.size _ _ rfl (ho5.ext ((Ext.refl w5).alloc _)) w5.heap.size (.int .i64 ((pw * ph : Nat) : Int)) rfl (by go_simp) rfl ?_ ?_ ?_))
        · rw [List.length_map, upL_length]; omega
        · simp only [World.size_alloc]; omega
        · intro v' w7 hown7 hB7 _
          have Ho7 := Lib.hid hown7
          have X7 := Lib.hid (((HE.out.trans X.out).alloc (.cells #[.int .i64 ((pw * ph : Nat) : Int)] 3)).below hB7 (Nat.le_refl _))
          clear hown7 hB7
          go_wp2
          go_roundg (gk - 1)
          case measure => omega
          case rel => exact ⟨k + 1, by omega, by go_num, X7.out, by rw [Hs2.out]; simpa [upL] using Ho7.out⟩
    · obtain rfl : k = j.pieces.length := by omega
      have hltI : ¬ (j.pieces.length : Int) < (j.pieces.length : Int) := by omega
      obtain ⟨oa, ca, hv, _, _, _, hi⟩ := Hown.out.ints
      rw [upL_length] at hv
      subst hv
      have hll := Hle.out j.pieces.length
      have Hi := Lib.hid hi
      have R := Lib.hid (fun W (hW : IntsAt W oa (upL (areasTo j.pieces set j.pieces.length))) => sum88 (upL (areasTo j.pieces set j.pieces.length)) oa ca W hW (by rw [upL_length]; omega) (fun x hx => by
        obtain ⟨y, hy, rfl⟩ := List.mem_map.1 hx
        have := Hsm.out _ y hy
        omega))
      rw [upL_length, sum_up] at R
      clear hi hll Hown
      generalize areasTo j.pieces set j.pieces.length = L at *
      have c0 : wo.cell? ⟨w.heap.size + 1, 0, none⟩ = some (I rw') := (C.out.ext HE.out) 0 _ rfl
      have c1 : wo.cell? ⟨w.heap.size + 1, 1, none⟩ = some (I rh) := (C.out.ext HE.out) 1 _ rfl
      have hmul := Nat.mul_le_mul hw hh
      have hmi : ((rw' * rh : Nat) : Int) = (rw' : Int) * (rh : Int) := Int.natCast_mul rw' rh
      have q3 : IntKind.i64.wrap ((rw' : Int) * (rh : Int)) = ((rw' * rh : Nat) : Int) := by rw [← hmi, IntWalk.i64_in _ (by omega)]
      clear hmi
      generalize rw' * rh = A at *
      generalize L.sum = S at *
      go_wp2
      refine wp_region_plan (.take 0 <| .take 2 <| .take 3 <| .take 4 <| .take 5 <| .take 6 <| .only 1 <| .take 7 <| .take 8 <| .done) (fun W => Ext wo W) mixed (by kernel_rfl) (by kernel_rfl) rfl (fun _ _ d _ _ h => by cases d <;> exact h) ((Ext.refl wo).drew) ?_
      repeat ((first | (refine plan_take (v := ?_) rfl rfl (fun W hW => ?_) ?_; rotate_left; (focus (have d0 := cell_ext hW c0; have d1 := cell_ext hW c1; go_simp; first | exact rfl | (split <;> first | exact rfl | (exfalso; omega)) | done))) | refine plan_skip rfl rfl ?_); simp only [Act.put, List.setIfInBounds_toArray, List.set_cons_zero, List.set_cons_succ])
      refine plan_walk rfl ?_; intro K hK
      go_wp2_with (first | (go_at_call 88; refine (R.out _ (Hi.out.ext (Ext.refl wo).drew)).mono ?_; rintro e w6 ⟨rfl, h6⟩; obtain rfl := h6))
      refine hK _ _ (Ext.refl wo).drew ?_
      repeat ((first | (refine plan_take (v := ?_) rfl rfl (fun W hW => ?_) ?_; rotate_left; (focus (skip; go_simp; first | exact rfl | (split <;> first | exact rfl | (exfalso; omega)) | done))) | refine plan_skip rfl rfl ?_); simp only [Act.put, List.setIfInBounds_toArray, List.set_cons_zero, List.set_cons_succ])
      refine plan_done ?_
      go_wp2
      go_ret
      exact ⟨ret_bool (by rw [HL.out] <;> exact decide_eq_decide.2 (by omega)), HE0.out.trans (HE.out.trans (Ext.refl wo).drew)⟩

end Go.Proofs.Ytdmegfbeibbmfaa
