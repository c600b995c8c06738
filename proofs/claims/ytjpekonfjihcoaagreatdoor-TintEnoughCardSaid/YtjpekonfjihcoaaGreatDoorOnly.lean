/- Contract: only: a sheet with some of its tins alone. No condition beyond sheets as defined. -/
import Derived.Test.YtjpekonfjihcoaaGreatDoorM27
import Derived.Test.YtjpekonfjihcoaaGreatDoorM32
namespace Go.TintM
end Go.TintM
set_option maxRecDepth 100000
set_option maxHeartbeats 64000000
set_option linter.unusedVariables false
set_option linter.unusedSimpArgs false
namespace Go.Proofs.YtjpekonfjihcoaaGreatDoor
open Go.RowKit Go.My Go.TintM

abbrev onlyX (s : Sh) (ts : List Nat) (k : Nat) : Tx := ⟨(txOf s).head, (txOf s).fade, (ts.take k).map fun i => s.tins.getD i []⟩
theorem onlyX_end (s : Sh) (ts : List Nat) : siOf (onlyX s ts ts.length) = ofSh (onlyT s ts) := by
 rw [onlyX, List.take_length]; rfl
theorem onlyX_len (s : Sh) (ts : List Nat) {k : Nat} (hk : k ≤ ts.length) : (onlyX s ts k).tins.length = k := by simp [onlyX]; omega
theorem onlyX_succ (s : Sh) (ts : List Nat) {k : Nat} (hk : k < ts.length) : onlyX s ts (k + 1) = setTx (onlyX s ts k) 2 (s.tins.getD ts[k] []) := by
 unfold onlyX
 rw [List.take_succ_eq_append_getElem hk, List.map_append]
 rfl


theorem only_any (s : Sh) (ts : List Nat) (hts : ∀ t ∈ ts, t < s.tins.length) (hl : ts.length ≤ 1000) (ot : Option Addr) (cap : Nat) (ol : Option Addr) (cl : Nat) (w : World) (h : TinsAt w ot (ofSh s).tins) (hi : IntsAt w ol (upL ts)) :
  Calls Tryz.prog 53 #[sheetV (ofSh s) ot cap, .slice ol ts.length cl] w fun e w' => (∃ oa ca, e = .returned (sheetV (ofSh (onlyT s ts)) oa ca) ∧ TinsAt w' oa (ofSh (onlyT s ts)).tins) ∧ Ext w w' := by
 have H := Lib.hid h
 have HI := Lib.hid hi
 have Hts := Lib.hid hts
 have h6 := tins_six h
 have H6 := Lib.hid (fun t (ht : t < s.tins.length) => (show (s.tins.getD t []).length = 6 by
  have := h6 (upL s.tins[t]) (List.mem_map.2 ⟨s.tins[t], List.getElem_mem ht, rfl⟩)
  rw [upL_length] at this
  simpa [List.getD, ht] using this))
 obtain ⟨ii, hi1, hi2, hi3, hi4⟩ := info_parts i82
 clear h hi hts h6
 go_enter Tryz.func53, Tryz.ntmps53
 go_wp2
 obtain ⟨w0, hw0⟩ : ∃ W, W = (w.alloc (.cells (sheetC (siOf (onlyX s ts 0)) none 0) 28)).alloc (.cells #[.int .i64 0, .int .i64 0, .int .i64 0, .int .i64 0, .int .i64 0, .int .i64 0, .int .i64 0, .int .i64 0, .int .i64 0, .int .i64 0, .int .i64 0, .int .i64 0, .slice none 0 0] 28) := ⟨_, rfl⟩
 have hps0 : PSt w w0 w0 w.heap.size (onlyX s ts 0) none 0 := by
  have hb : w0.heap[w.heap.size]? = some (.cells (sheetC (siOf (onlyX s ts 0)) none 0) 28) := by
   rw [hw0]; exact ((Ext.refl (w.alloc (.cells (sheetC (siOf (onlyX s ts 0)) none 0) 28))).alloc _).block _ (by simp) |>.trans (heap_alloc_new w _)
  have hs : w0.heap.size = w.heap.size + 2 := by rw [hw0]; simp
  exact ⟨by rw [hw0]; exact ((Ext.refl w).alloc _).alloc _, Turned.refl _ _, ⟨fun i v hv => by rw [cell_of_row _ _ i _ _ _ hb]; exact hv, fun i _ => frozen_of_row _ _ i _ _ hb⟩, World.ownsRow_nil _ _ _ _, Nat.le_refl _, by omega⟩
 have hres : SOwn w0 (w.heap.size + 1) noSI none 0 := by
  have := sheet_new (w.alloc (.cells (sheetC (siOf (onlyX s ts 0)) none 0) 28))
  rw [World.size_alloc] at this
  rw [hw0]; exact this
 have Hps0 := Lib.hid hps0
 have Hres := Lib.hid hres
 have hs0 : w.heap.size + 1 < w0.heap.size := by rw [hw0]; simp
 refine (show _ from ?_)
 rw [show ((w.alloc (.cells #[.int .i64 (ofSh s).o0, .int .i64 (ofSh s).o1, .int .i64 (ofSh s).o2, .int .i64 (ofSh s).a0, .int .i64 (ofSh s).b0, .int .i64 (ofSh s).a1, .int .i64 (ofSh s).b1, .int .i64 (ofSh s).a2, .int .i64 (ofSh s).b2, .int .i64 (ofSh s).ylo, .int .i64 (ofSh s).yhi, .int .i64 (ofSh s).off, .slice none 0 0] 28)).alloc (.cells #[.int .i64 0, .int .i64 0, .int .i64 0, .int .i64 0, .int .i64 0, .int .i64 0, .int .i64 0, .int .i64 0, .int .i64 0, .int .i64 0, .int .i64 0, .int .i64 0, .slice none 0 0] 28)) = w0 from hw0.symm]
 clear hw0 hps0 hres
 go_loopg [6] ts.length (fun g i wr => ∃ (k : Nat) (oa : Option Addr) (ca : Nat), k + g = ts.length ∧ i = .int .i64 k ∧ PSt w w0 wr w.heap.size (onlyX s ts k) oa ca)
 case atStart => exact ⟨0, none, 0, by omega, rfl, Hps0.out⟩
 case round =>
  clear Hps0
  obtain ⟨k, oa, ca, hk, rfl, ps⟩ := hrel
  have Ps := Lib.hid ps
  clear ps
  by_cases hlt : k < ts.length
  ·have hkI : (k : Int) < (ts.length : Int) := by omega
   have htk : ts[k] < s.tins.length := Hts.out _ (List.getElem_mem hlt)
   have Hsu := Lib.hid (onlyX_succ s ts hlt)
   obtain ⟨bL, offL, hoL, _, hcL⟩ := HI.out.at (k := k) (by rw [upL_length]; exact hlt)
   subst hoL
   have e1 : (upL ts)[k]'(by rw [upL_length]; exact hlt) = ((ts[k] : Nat) : Int) := by simp [upL]
   rw [e1] at hcL
   clear e1
   have h6k := H6.out _ htk
   have htS : ts[k] < (ofSh s).tins.length := by rw [tins_len]; exact htk
   obtain ⟨b, off, x0, x1, x2, x3, x4, x5, hot, hb, hT, k0, k1, k2, k3, k4, k5⟩ := H.out.at htS
   subst hot
   have hu : upL (s.tins.getD ts[k] []) = [x0, x1, x2, x3, x4, x5] := by rw [← hT]; simp [ofSh, List.getD, htk]
   have htI : ((ts[k] : Nat) : Int) < ((ofSh s).tins.length : Int) := by omega
   have hxl := onlyX_len s ts (Nat.le_of_lt hlt)
   generalize s.tins.getD ts[k] [] = ns at *
   generalize ts[k] = t at *
   obtain ⟨a0, a1, a2, a3, a4, a5, rfl⟩ := six_of h6k
   simp only [upL, List.map_cons, List.map_nil, List.cons.injEq, and_true] at hu
   obtain ⟨rfl, rfl, rfl, rfl, rfl, rfl⟩ := hu
   have HE := Lib.hid Ps.out.ext
   have hsE := Ps.out.size
   generalize hX : onlyX s ts k = x at *
   have Q12 := Lib.hid (fun W (hE : Ext wr W) => cell_ext hE (show wr.cell? ⟨w.heap.size, 12, none⟩ = some (.slice oa k ca) by rw [← hxl, ← tinsLen x]; exact Ps.out.own.box 12 _ rfl))
   have HEnd := Lib.hid (fun (W W8 : World) (oa' : Option Addr) (cap' : Nat) (hE : Ext wr W) (hr : W8.ownsRow w0.heap.size 82 6 (.slice oa' (k + 1) cap') (k + 1) (tinCells x.tins ++ (upL [a0, a1, a2, a3, a4, a5]).map (Value.int .i64))) (hB : Below w0.heap.size W W8) => (show PSt w w0 (W8.setCell ⟨w.heap.size, 12, none⟩ (.slice oa' (k + 1) cap')) w.heap.size (setTx x 2 [a0, a1, a2, a3, a4, a5]) oa' cap' by
    have := (Ps.out.next hE).tins (ns := [a0, a1, a2, a3, a4, a5]) (k := 2) (by omega) hB (by rw [hxl]; exact hr)
    rw [hxl] at this
    exact this))
   have HRow := Lib.hid (fun (W : World) (hE : Ext wr W) => (show W.ownsRow w0.heap.size 82 6 (.slice oa k ca) k (tinCells x.tins) by have := (Ps.out.next hE).row; rwa [hxl] at this))
   have HOwn := Lib.hid (fun (W W8 : World) (hE : Ext wr W) (hB : Below w0.heap.size W W8) => ((Ps.out.next hE).own.below hB (by omega)))
   clear hT h6k hX
   go_wp2_with fail
   refine wp_region_plan (.take 0 <| .take 2 <| .take 3 <| .take 4 <| .take 5 <| .take 6 <| .take 7 <| .take 8 <| .two 1 9 (.only 9 <| .only 10 <| .take 11 <| .only 12 <| .done) (.only 1 <| .only 10 <| .take 11 <| .only 12 <| .done)) (fun W => Ext w W) mixed (by kernel_rfl) (by kernel_rfl) rfl (fun _ _ d _ _ h => by cases d <;> exact h) (HE.out.drew) ?_
   repeat ((first | (refine plan_take (v := ?_) rfl rfl (fun W hW => ?_) ?_; rotate_left; (focus (have d0 := cell_ext hW hcL; have d1 := cell_ext hW k0; have d2 := cell_ext hW k1; have d3 := cell_ext hW k2; have d4 := cell_ext hW k3; have d5 := cell_ext hW k4; have d6 := cell_ext hW k5; go_simp; first | exact rfl | (split <;> first | exact rfl | (exfalso; omega)) | done))) | refine plan_skip rfl rfl ?_); simp only [puts])
   have X1 := (Ext.refl wr).drew
   clear hcL k0 k1 k2 k3 k4 k5
   generalize wr.drew = wd at *
   refine plan_two rfl rfl ?_ ?_
   ·intro K hK
    have q := Q12.out _ X1
    go_wp2
    refine hK _ _ (HE.out.trans X1) ?_
    clear q
    refine plan_walk rfl ?_; intro K hK
    go_wp2
    have X8 := X1.alloc (.cells #[.int .i64 a0, .int .i64 a1, .int .i64 a2, .int .i64 a3, .int .i64 a4, .int .i64 a5] 82)
    refine hK _ _ (HE.out.trans X8) ?_
    have hx8 := X8.size
    have hsix := six_cells wd a0 a1 a2 a3 a4 a5
    refine plan_walk rfl ?_; intro K hK
    go_wp2_with (first | (at_builtin; refine wpList_append_own_at _ rfl _ _ 26 rfl w0.heap.size 82 ii (.agg #[.int .i64 0, .int .i64 0, .int .i64 0, .int .i64 0, .int .i64 0, .int .i64 0]) 6 48 Tryz.underlying26 hi1 hi2 hi3 hi4 rfl (by decide) _ k (tinCells x.tins) rfl (HRow.out _ X8) ⟨wd.heap.size, 0, none⟩ 1 1 [.int .i64 a0, .int .i64 a1, .int .i64 a2, .int .i64 a3, .int .i64 a4, .int .i64 a5] rfl rfl hsix (by simp [Value.oneCell']) (by unfold maxLen; omega) (by omega) (by omega) ?_))
    intro v' w8 hr8 hg8 _ _
    have hB8 := (Below.refl w0.heap.size _).grown hg8 (by omega) fun b hb => ((HRow.out _ X8).lt b hb).1
    obtain ⟨oa', cap', hv8, _⟩ := row_slice hr8
    subst hv8
    have Hend := Lib.hid (HEnd.out _ _ _ _ X8 hr8 hB8)
    have o8 := HOwn.out _ _ X8 hB8
    have E8 := Lib.hid ((HE.out.trans X8).below hB8 (by omega))
    have c12 := o8.box 12 _ rfl
    have f12 := o8.fr 12 (by omega)
    clear hr8 hg8 hB8 o8 hsix X8
    go_wp2
    refine hK _ _ E8.out ?_
    repeat ((first | (refine plan_take (v := ?_) rfl rfl (fun W hW => ?_) ?_; rotate_left; (focus (skip; go_simp; first | exact rfl | (split <;> first | exact rfl | (exfalso; omega)) | done))) | refine plan_skip rfl rfl ?_); simp only [puts])
    refine plan_walk rfl ?_; intro K hK
    go_wp2
    refine hK _ _ Hend.out.ext ?_
    refine plan_done ?_
    clear c12 f12
    go_wp2
    go_roundg (gk - 1)
    case measure => omega
    case rel => exact ⟨k + 1, oa', cap', by omega, by go_num, by rw [Hsu.out]; exact Hend.out⟩
   ·intro K hK
    go_wp2
    have X8 := X1.alloc (.cells #[.int .i64 a0, .int .i64 a1, .int .i64 a2, .int .i64 a3, .int .i64 a4, .int .i64 a5] 82)
    refine hK _ _ (HE.out.trans X8) ?_
    refine plan_walk rfl ?_; intro K hK
    have q := Q12.out _ X8
    go_wp2
    refine hK _ _ (HE.out.trans X8) ?_
    clear q
    have hx8 := X8.size
    have hsix := six_cells wd a0 a1 a2 a3 a4 a5
    refine plan_walk rfl ?_; intro K hK
    go_wp2_with (first | (at_builtin; refine wpList_append_own_at _ rfl _ _ 26 rfl w0.heap.size 82 ii (.agg #[.int .i64 0, .int .i64 0, .int .i64 0, .int .i64 0, .int .i64 0, .int .i64 0]) 6 48 Tryz.underlying26 hi1 hi2 hi3 hi4 rfl (by decide) _ k (tinCells x.tins) rfl (HRow.out _ X8) ⟨wd.heap.size, 0, none⟩ 1 1 [.int .i64 a0, .int .i64 a1, .int .i64 a2, .int .i64 a3, .int .i64 a4, .int .i64 a5] rfl rfl hsix (by simp [Value.oneCell']) (by unfold maxLen; omega) (by omega) (by omega) ?_))
    intro v' w8 hr8 hg8 _ _
    have hB8 := (Below.refl w0.heap.size _).grown hg8 (by omega) fun b hb => ((HRow.out _ X8).lt b hb).1
    obtain ⟨oa', cap', hv8, _⟩ := row_slice hr8
    subst hv8
    have Hend := Lib.hid (HEnd.out _ _ _ _ X8 hr8 hB8)
    have o8 := HOwn.out _ _ X8 hB8
    have E8 := Lib.hid ((HE.out.trans X8).below hB8 (by omega))
    have c12 := o8.box 12 _ rfl
    have f12 := o8.fr 12 (by omega)
    clear hr8 hg8 hB8 o8 hsix X8
    go_wp2
    refine hK _ _ E8.out ?_
    repeat ((first | (refine plan_take (v := ?_) rfl rfl (fun W hW => ?_) ?_; rotate_left; (focus (skip; go_simp; first | exact rfl | (split <;> first | exact rfl | (exfalso; omega)) | done))) | refine plan_skip rfl rfl ?_); simp only [puts])
    refine plan_walk rfl ?_; intro K hK
    go_wp2
    refine hK _ _ Hend.out.ext ?_
    refine plan_done ?_
    clear c12 f12
    go_wp2
    go_roundg (gk - 1)
    case measure => omega
    case rel => exact ⟨k + 1, oa', cap', by omega, by go_num, by rw [Hsu.out]; exact Hend.out⟩
  ·have hkk : k = ts.length := by omega
   subst hkk
   have hkI : ¬ ((ts.length : Nat) : Int) < (ts.length : Int) := by omega
   have hxl := onlyX_len s ts (Nat.le_refl _)
   have HX := Lib.hid (onlyX_end s ts)
   have hB := Hres.out.turned Ps.out.turned (by omega)
   have HRB := Lib.hid hB
   have hO := Ps.out.own
   rw [onlyX_end] at hO
   have HO := Lib.hid hO
   have c0 : World.cell? wr ⟨w.heap.size, 0, none⟩ = some (.int .i64 (ofSh (onlyT s ts)).o0) := HO.out.box 0 _ rfl; have c1 : World.cell? wr ⟨w.heap.size, 1, none⟩ = some (.int .i64 (ofSh (onlyT s ts)).o1) := HO.out.box 1 _ rfl; have c2 : World.cell? wr ⟨w.heap.size, 2, none⟩ = some (.int .i64 (ofSh (onlyT s ts)).o2) := HO.out.box 2 _ rfl; have c3 : World.cell? wr ⟨w.heap.size, 3, none⟩ = some (.int .i64 (ofSh (onlyT s ts)).a0) := HO.out.box 3 _ rfl; have c4 : World.cell? wr ⟨w.heap.size, 4, none⟩ = some (.int .i64 (ofSh (onlyT s ts)).b0) := HO.out.box 4 _ rfl; have c5 : World.cell? wr ⟨w.heap.size, 5, none⟩ = some (.int .i64 (ofSh (onlyT s ts)).a1) := HO.out.box 5 _ rfl; have c6 : World.cell? wr ⟨w.heap.size, 6, none⟩ = some (.int .i64 (ofSh (onlyT s ts)).b1) := HO.out.box 6 _ rfl; have c7 : World.cell? wr ⟨w.heap.size, 7, none⟩ = some (.int .i64 (ofSh (onlyT s ts)).a2) := HO.out.box 7 _ rfl; have c8 : World.cell? wr ⟨w.heap.size, 8, none⟩ = some (.int .i64 (ofSh (onlyT s ts)).b2) := HO.out.box 8 _ rfl; have c9 : World.cell? wr ⟨w.heap.size, 9, none⟩ = some (.int .i64 (ofSh (onlyT s ts)).ylo) := HO.out.box 9 _ rfl; have c10 : World.cell? wr ⟨w.heap.size, 10, none⟩ = some (.int .i64 (ofSh (onlyT s ts)).yhi) := HO.out.box 10 _ rfl; have c11 : World.cell? wr ⟨w.heap.size, 11, none⟩ = some (.int .i64 (ofSh (onlyT s ts)).off) := HO.out.box 11 _ rfl; have c12 : World.cell? wr ⟨w.heap.size, 12, none⟩ = some (.slice oa (ofSh (onlyT s ts)).tins.length ca) := HO.out.box 12 _ rfl
   have r0 := HRB.out.box 0 _ rfl; have r1 := HRB.out.box 1 _ rfl; have r2 := HRB.out.box 2 _ rfl; have r3 := HRB.out.box 3 _ rfl; have r4 := HRB.out.box 4 _ rfl; have r5 := HRB.out.box 5 _ rfl; have r6 := HRB.out.box 6 _ rfl; have r7 := HRB.out.box 7 _ rfl; have r8 := HRB.out.box 8 _ rfl; have r9 := HRB.out.box 9 _ rfl; have r10 := HRB.out.box 10 _ rfl; have r11 := HRB.out.box 11 _ rfl; have r12 := HRB.out.box 12 _ rfl; have q0 := HRB.out.fr 0 (by omega); have q1 := HRB.out.fr 1 (by omega); have q2 := HRB.out.fr 2 (by omega); have q3 := HRB.out.fr 3 (by omega); have q4 := HRB.out.fr 4 (by omega); have q5 := HRB.out.fr 5 (by omega); have q6 := HRB.out.fr 6 (by omega); have q7 := HRB.out.fr 7 (by omega); have q8 := HRB.out.fr 8 (by omega); have q9 := HRB.out.fr 9 (by omega); have q10 := HRB.out.fr 10 (by omega); have q11 := HRB.out.fr 11 (by omega); have q12 := HRB.out.fr 12 (by omega)
   clear hB hO
   go_wp2
   clear r0 r1 r2 r3 r4 r5 r6 r7 r8 r9 r10 r11 r12 q0 q1 q2 q3 q4 q5 q6 q7 q8 q9 q10 q11 q12
   clear c0 c1 c2 c3 c4 c5 c6 c7 c8 c9 c10 c11 c12
   refine bodyPost_ret (v := sheetV (ofSh (onlyT s ts)) oa ca) (results_cells (n := 13) rfl (by kernel_rfl) (by kernel_rfl) _ (w.heap.size + 1) (sheetC (ofSh (onlyT s ts)) oa ca).toList rfl (by simp) (fun j v hv => by have hh := (HRB.out.put (ofSh (onlyT s ts)) oa ca).box j v (by simpa using hv); exact hh)) (by simp) ⟨⟨oa, ⟨ca, rfl⟩, ?_⟩, ?_⟩
   ·show TinsAt (putW wr (w.heap.size + 1) (ofSh (onlyT s ts)) oa ca) oa ((onlyT s ts).tins.map upL)
    have h2 := Ps.out.row
    have h3 := row_mv (I := fun i => i = w.heap.size + 1) h2 (Mv.of_grown (turned_put wr (w.heap.size + 1) (ofSh (onlyT s ts)) oa ca) fun i hi => by cases hi; rfl) (row_not h2 (by omega))
    generalize putW wr (w.heap.size + 1) (ofSh (onlyT s ts)) oa ca = W9 at h3 ⊢
    have e2 : (onlyX s ts ts.length).tins = (onlyT s ts).tins := by simp [onlyX, onlyT]
    rw [e2] at h3
    exact row_tins h3 (fun t ht => by
     simp only [onlyT, List.mem_map] at ht
     obtain ⟨i, hi, rfl⟩ := ht
     exact H6.out i (Hts.out i hi))
   ·exact ext_own Ps.out.ext (turned_put _ (w.heap.size + 1) (ofSh (onlyT s ts)) oa ca) (by omega)

end Go.Proofs.YtjpekonfjihcoaaGreatDoor
