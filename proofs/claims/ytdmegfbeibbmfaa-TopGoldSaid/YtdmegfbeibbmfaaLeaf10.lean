/- Contract: knifeOf, without more pieces. No condition beyond jobs as defined. -/
import Derived.Test.YtdmegfbeibbmfaaLeaf9
import Derived.Deep.Upon
set_option linter.unusedVariables false
set_option linter.unusedSimpArgs false
namespace Go.Proofs.Ytdmegfbeibbmfaa
open Go.RowKit Go.My Go.GoldM

theorem wpList_appNil28 (w : World) {ops : Array Oper} {rest : List Oper} {o : Oper} {a : Act} {Q : Exit → Act → World → Prop} (hgd : o.guard = none) (s x : Operand)
    (ho : o.op = .call { callee := .builtin .append, args := #[s, x], argTypes := #[28, 28] }) (ov : Option Addr) (n cv : Nat) (hs : a.eval s = .slice ov n cv) (hx : a.eval x = .slice none 0 0) (l1 : n ≤ cv)
    (h : wpList Try.prog ops Q rest (a.put o.dst (.slice ov n cv)) w) : wpList Try.prog ops Q (o :: rest) a w := by
  obtain ⟨i, hi1, _⟩ := info_parts i32
  refine wpList_plain hgd fun K hK' => ?_
  have hrun := run_append_nothing (P := Try.prog) w 28 28 o.type 32 i Try.underlying28 hi1 ov n cv l1 (.slice none 0 0) (Src.ofNil w Try.underlying28 0)
  unfold Oper.wp
  simp [execOp, ho, resolve, invoke, builtin, hs, hx, hrun, Result.andThen]
  exact hK' _ _ h

set_option maxRecDepth 100000 in
set_option maxHeartbeats 4000000 in
theorem knife53 (j : Jb) (f : Fine j) (og op : Option Addr) (cg cp : Nat) (w : World) (h : PcsAt w op j.pieces) :
    Calls Try.prog 53 #[jobV j og cg op cp, .slice none 0 0] w fun e w' => ∃ op' cp' mb, e = .returned (knV j og cg op' cp' mb) ∧ PcsAt w' op' j.pieces ∧ RestM.Memo w' mb (F3 j.pieces) ∧ w.heap.size ≤ mb ∧ (∀ ad, op' = some ad → w.heap.size ≤ ad.block) ∧ Ext w w' := by
  have hpl := f.pl
  have H := Lib.hid h
  have R72 := Lib.hid (fun W (hE : Ext w W) => clone72 j.pieces hpl.1 (by omega) op cp W (H.out.ext hE))
  clear h f
  have HJ := Lib.hid ((CB.new w (jobL' j og cg op cp) 30).ext ((Ext.refl _).alloc (.cells #[.int .i64 0, .int .i64 0, .int .i64 0, .int .i64 0, .slice none 0 0, .slice none 0 0, .map none] 114)))
  have HK := Lib.hid (show CB ((w.alloc (.cells (jobL' j og cg op cp).toArray 30)).alloc (.cells #[.int .i64 0, .int .i64 0, .int .i64 0, .int .i64 0, .slice none 0 0, .slice none 0 0, .map none] 114)) (w.heap.size + 1) [.int .i64 0, .int .i64 0, .int .i64 0, .int .i64 0, .slice none 0 0, .slice none 0 0, .map none] by
    have := CB.new (w.alloc (.cells (jobL' j og cg op cp).toArray 30)) [.int .i64 0, .int .i64 0, .int .i64 0, .int .i64 0, .slice none 0 0, .slice none 0 0, .map none] 114
    simpa only [World.size_alloc] using this)
  have HE0 := Lib.hid (show Ext w ((w.alloc (.cells (jobL' j og cg op cp).toArray 30)).alloc (.cells #[.int .i64 0, .int .i64 0, .int .i64 0, .int .i64 0, .slice none 0 0, .slice none 0 0, .map none] 114)) from ((Ext.refl w).alloc _).alloc _)
  go_enter Try.func53, Try.ntmps53
  go_wp2_with (first | (go_at_call 72; refine (R72.out _ HE0.out).mono ?_; rintro e w5 ⟨o', c', rfl, hc, hp5, hfr, h5⟩; have HP5 := Lib.hid hp5; have HF := Lib.hid hfr; clear hfr; replace HJ := Lib.hid (HJ.out.ext h5); replace HK := Lib.hid (HK.out.ext h5); replace HE0 := Lib.hid (HE0.out.trans h5); clear hp5 h5; have c0 := HJ.out.c 0 _ rfl; have c1 := HJ.out.c 1 _ rfl; have c2 := HJ.out.c 2 _ rfl; have c3 := HJ.out.c 3 _ rfl; have c4 := HJ.out.c 4 _ rfl; have c5 := HJ.out.c 5 _ rfl; have g5 := HJ.out.f 5 (by simp); have k0 := HK.out.c 0 _ rfl; have q0 := HK.out.f 0 (by simp); have k1 := HK.out.c 1 _ rfl; have q1 := HK.out.f 1 (by simp); have k2 := HK.out.c 2 _ rfl; have q2 := HK.out.f 2 (by simp); have k3 := HK.out.c 3 _ rfl; have q3 := HK.out.f 3 (by simp); have k4 := HK.out.c 4 _ rfl; have q4 := HK.out.f 4 (by simp); have k5 := HK.out.c 5 _ rfl; have q5 := HK.out.f 5 (by simp); have k6 := HK.out.c 6 _ rfl; have q6 := HK.out.f 6 (by simp); have hlt := World.block_lt_of_cell? _ _ k0; have hne := Nat.ne_of_lt hlt; simp only at hlt hne; have hlt0 := World.block_lt_of_cell? _ _ c0; have hne0 := Nat.ne_of_lt hlt0; simp only at hlt0 hne0) | (at_builtin; refine wpList_appNil28 _ rfl _ _ rfl o' _ c' rfl rfl hc ?_) | ((with_reducible refine RestM.at_make rfl ?_); refine RestM.wpList_make rfl rfl ?_))
  have hB := ((((((((HK.out.other (q := w.heap.size) 5 (.slice o' j.pieces.length c') (by omega)).set (i := 0) (by simp) (I j.wide)).set (i := 1) (by simp) (I j.high)).set (i := 2) (by simp) (I j.book)).set (i := 3) (by simp) (I j.spoilt)).set (i := 4) (by simp) (.slice og j.grounds.length cg)).set (i := 5) (by simp) (.slice o' j.pieces.length c')).set (i := 6) (by simp) (.map (some w5.heap.size)))
  have hX := ((((((((HE0.out.setCell (p := ⟨w.heap.size, 5, none⟩) (Nat.le_refl _) (.slice o' j.pieces.length c')).setCell (p := ⟨w.heap.size + 1, 0, none⟩) (by simp) (I j.wide)).setCell (p := ⟨w.heap.size + 1, 1, none⟩) (by simp) (I j.high)).setCell (p := ⟨w.heap.size + 1, 2, none⟩) (by simp) (I j.book)).setCell (p := ⟨w.heap.size + 1, 3, none⟩) (by simp) (I j.spoilt)).setCell (p := ⟨w.heap.size + 1, 4, none⟩) (by simp) (.slice og j.grounds.length cg)).setCell (p := ⟨w.heap.size + 1, 5, none⟩) (by simp) (.slice o' j.pieces.length c')).setCell (p := ⟨w.heap.size + 1, 6, none⟩) (by simp) (.map (some w5.heap.size)))
  have hMv := (((((((((Mv.refl (fun i => i = w.heap.size ∨ i = w.heap.size + 1) w5).set (.inl rfl) 5 (.slice o' j.pieces.length c')).set (.inr rfl) 0 (I j.wide)).set (.inr rfl) 1 (I j.high)).set (.inr rfl) 2 (I j.book)).set (.inr rfl) 3 (I j.spoilt)).set (.inr rfl) 4 (.slice og j.grounds.length cg)).set (.inr rfl) 5 (.slice o' j.pieces.length c')).set (.inr rfl) 6 (.map (some w5.heap.size)))
  obtain ⟨X, hXe⟩ : ∃ X, X = ((((((((w5.setCell ⟨w.heap.size, 5, none⟩ (.slice o' j.pieces.length c')).setCell ⟨w.heap.size + 1, 0, none⟩ (I j.wide)).setCell ⟨w.heap.size + 1, 1, none⟩ (I j.high)).setCell ⟨w.heap.size + 1, 2, none⟩ (I j.book)).setCell ⟨w.heap.size + 1, 3, none⟩ (I j.spoilt)).setCell ⟨w.heap.size + 1, 4, none⟩ (.slice og j.grounds.length cg)).setCell ⟨w.heap.size + 1, 5, none⟩ (.slice o' j.pieces.length c')).setCell ⟨w.heap.size + 1, 6, none⟩ (.map (some w5.heap.size))) := ⟨_, rfl⟩
  have hsX : X.heap.size = w5.heap.size := by rw [hXe]; simp
  rw [← hXe] at hB hX hMv ⊢
  clear hXe
  have hB2 := hB.ext ((Ext.refl X).alloc (.map #[] 0))
  have hM : RestM.Memo (X.alloc (.map #[] 0)) w5.heap.size (F3 j.pieces) := by
    have := RestM.Memo.new X (F3 j.pieces)
    rwa [hsX] at this
  have hP : PcsAt (X.alloc (.map #[] 0)) o' j.pieces := PcsAt.ext (fun i p hp => by
    obtain ⟨b, off, h1, h2, h3⟩ := HP5.out i p hp
    have hf := HF.out _ h1
    simp only [World.size_alloc] at hf
    exact ⟨b, off, h1, by omega, fun k v hv => hMv.cell (by simp; omega) (h3 k v hv)⟩) ((Ext.refl X).alloc _)
  refine bodyPost_ret (v := knV j og cg o' c' w5.heap.size) (results_cells (n := 7) rfl (by kernel_rfl) (by kernel_rfl) _ (w.heap.size + 1) (knL j og cg o' c' w5.heap.size) rfl (by simp) (fun i v hv => hB2.c i v hv)) (by simp) ⟨o', c', _, rfl, hP, hM, by omega, fun ad h => (by have := HF.out ad h; simp only [World.size_alloc] at this; omega), hX.alloc hX.size _⟩

end Go.Proofs.Ytdmegfbeibbmfaa
