/- Contracts: the iterator over all cuttings; cuttings. No condition beyond jobs as defined. -/
import Derived.Test.YtdmegfbeibbmfaaLeaf14
import Derived.Laws.EntriesVeiled
set_option linter.unusedVariables false
set_option linter.unusedSimpArgs false
namespace Go.Proofs.Ytdmegfbeibbmfaa
open Go.RowKit Go.My Go.GoldM

theorem heap2 (w : World) (A C : Obj) : ((w.alloc A).alloc C).heap[w.heap.size + 1]? = some C := by
  have := heap_alloc_new (w.alloc A) C
  simpa only [World.size_alloc] using this
theorem cell2 (w : World) (A : Obj) (v : Value) (t : TypeId) : ((w.alloc A).alloc (.cells #[v] t)).cell? ⟨w.heap.size + 1, 0, none⟩ = some v := by
  rw [cell_of_row _ _ 0 _ _ _ (heap2 w A (.cells #[v] t))]; rfl
theorem frozen2 (w : World) (A : Obj) (v : Value) (t : TypeId) : ((w.alloc A).alloc (.cells #[v] t)).frozen? ⟨w.heap.size + 1, 0, none⟩ = false := frozen_of_row _ _ 0 _ _ (heap2 w A (.cells #[v] t))
set_option maxRecDepth 100000 in
set_option maxHeartbeats 4000000 in
theorem iter_cuts (j : Jb) (f : Fine j) (og oj : Option Addr) (cg cj bj : Nat) (Bd : Nat → Prop) (w : World) (hbj : bj < w.heap.size) (hbd : ¬ Bd bj) (hjb : VB w bj (jobL' j og cg oj cj)) (hp : PcsAt w oj j.pieces) :
    Iter Try.prog 52 #[.pointer (some ⟨bj, 0, none⟩)] (cuts j).length Bd w.heap.size (CutP j w.heap.size) w := by
  intro l W R Fin hE hR h0 hY
  have hpl := f.pl
  have HR := Lib.hid hR
  have H0 := Lib.hid h0
  have HY := Lib.hid hY
  have HE := Lib.hid hE
  have Hf := Lib.hid f
  have hE1 := (Ext.refl W).alloc (.cells #[.func (.yield l) #[] #[]] 111)
  have hjW := hjb.ext (hE.trans hE1)
  have c0 := hjW 0 _ rfl; have c1 := hjW 1 _ rfl; have c2 := hjW 2 _ rfl; have c3 := hjW 3 _ rfl; have c4 := hjW 4 _ rfl; have c5 := hjW 5 _ rfl
  have HJ := Lib.hid hjW
  have R53 := Lib.hid (knife53 j f og oj cg cj _ (hp.ext (hE.trans hE1)))
  clear hR h0 hY hE hjb hp hjW f
  go_enter Try.func52, Try.ntmps52
  go_wp2_with (first | (go_at_call 53; refine (R53.out).mono ?_; rintro e w1 ⟨op, cp, mb, rfl, hp1, hm1, hmb, hfr, hX1⟩; have HP1 := Lib.hid hp1; have HM1 := Lib.hid hm1; have HF1 := Lib.hid (And.intro hmb hfr); have HX1 := Lib.hid hX1; have k3 := cell2 w1 (.cells #[.int .i64 (j.wide : Nat), .int .i64 (j.high : Nat), .int .i64 (j.book : Nat), .int .i64 (j.spoilt : Nat), .slice og j.grounds.length cg, .slice op j.pieces.length cp, .map (some mb)] 114) .nilFunc 59; have k4 := frozen2 w1 (.cells #[.int .i64 (j.wide : Nat), .int .i64 (j.high : Nat), .int .i64 (j.book : Nat), .int .i64 (j.spoilt : Nat), .slice og j.grounds.length cg, .slice op j.pieces.length cp, .map (some mb)] 114) .nilFunc 59; clear hp1 hm1 hfr hmb hX1 c0 c1 c2 c3 c4 c5))
  obtain ⟨w4, hw4⟩ : ∃ X, X = (w1.alloc (.cells #[.int .i64 (j.wide : Nat), .int .i64 (j.high : Nat), .int .i64 (j.book : Nat), .int .i64 (j.spoilt : Nat), .slice og j.grounds.length cg, .slice op j.pieces.length cp, .map (some mb)] 114)).alloc
      (.cells #[.func (.func 54) #[] #[.pointer (some ⟨bj, 0, none⟩), .pointer (some ⟨W.heap.size, 0, none⟩), .pointer (some ⟨w1.heap.size, 0, none⟩), .pointer (some ⟨w1.heap.size + 1, 0, none⟩)]] 59) := ⟨_, rfl⟩
  have hfb : w4.cell? ⟨w1.heap.size + 1, 0, none⟩ = some (.func (.func 54) #[] #[.pointer (some ⟨bj, 0, none⟩), .pointer (some ⟨W.heap.size, 0, none⟩), .pointer (some ⟨w1.heap.size, 0, none⟩), .pointer (some ⟨w1.heap.size + 1, 0, none⟩)]) := by rw [hw4]; exact cell2 _ _ _ _
  have hkb : VB w4 w1.heap.size (knL j og cg op cp mb) := by
    rw [hw4]
    exact (VB.new w1 (knL j og cg op cp mb) 114).ext ((Ext.refl _).alloc _)
  have hE4 : Ext w1 w4 := by rw [hw4]; exact ((Ext.refl w1).alloc _).alloc _
  have hs4 : w1.heap.size + 2 ≤ w4.heap.size := by rw [hw4]; simp
  rw [← hw4]
  clear hw4 k3 k4
  have hyb : w4.cell? ⟨W.heap.size, 0, none⟩ = some (.func (.yield l) #[] #[]) := cell_ext (HX1.out.trans hE4) (by go_simp)
  have hW1 := HX1.out.size
  simp only [World.size_alloc] at hW1
  have hF1 := HF1.out
  simp only [World.size_alloc] at hF1
  have hm4 := HM1.out.ext hE4
  have hp4 := HP1.out.ext hE4
  have hEW : Ext W w4 := hE1.trans (HX1.out.trans hE4)
  have hpb : PB j bj W.heap.size l w1.heap.size (w1.heap.size + 1) mb og oj op cg cj cp w4 := ⟨HJ.out.ext (HX1.out.trans hE4), hyb, hkb, hfb, hm4, hp4⟩
  have hI : ∀ i, pI W.heap.size w1.heap.size (w1.heap.size + 1) mb op i → W.heap.size ≤ i ∧ i < w4.heap.size := fun i hi => by
    rcases hi with rfl | rfl | rfl | rfl | ⟨ad, h1, rfl⟩
    · omega
    · omega
    · omega
    · have := hm4.lt; omega
    · obtain ⟨b, off, h2, h3, _⟩ := hp4 0 j.pieces[0] (by simp [hpl.1])
      have := hF1.2 ad h1
      rw [h1] at h2
      injection h2 with h2
      subst h2
      exact ⟨by omega, h3⟩
  have hput := put_any Hf.out hbj hbd HE.out.size HR.out HY.out j.pieces.length [] [] none none 0 0 0 [] _ w4 (by simp) (Nat.le_refl _) (fun s hs => by simp at hs) (by simp [cuts]) ⟨hpb, fun i hi => hi, hI, My.Own.nil _ _ _, My.Own.nil _ _ _, nofun, nofun⟩
    (HR.out 0 _ _ W w4 H0.out (Mv.of_ext hEW) fun i hi => by
      rcases hi with hi | hi | hi
      · exact ⟨.inr (hI i hi).1, (hI i hi).2⟩
      · cases hi
      · cases hi)
  have Hput := Lib.hid hput
  have HI := Lib.hid hI
  clear hput hI hpb hEW hp4 hm4 hF1 hW1 hyb hs4 hE4 hkb hfb hE1
  refine (Hput.out).mono ?_
  rintro e w7 ⟨b, rfl, ⟨hMv, _⟩, hT, hF⟩
  have HMv := Lib.hid hMv
  have HT := Lib.hid hT
  have HF := Lib.hid hF
  clear hMv hT hF
  go_wp2
  go_end0
  refine ⟨⟨_, rfl⟩, ?_⟩
  cases b with
  | true => exact .inl ⟨_, by have := HT.out rfl; rwa [Nat.zero_add] at this, fun i hi => ⟨(HI.out i hi).1, Nat.lt_of_lt_of_le (HI.out i hi).2 HMv.out.size⟩⟩
  | false => exact .inr (HF.out rfl)

end Go.Proofs.Ytdmegfbeibbmfaa
