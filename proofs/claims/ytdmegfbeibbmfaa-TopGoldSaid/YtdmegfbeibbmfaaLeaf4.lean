/- Contract: parts, given can's. What is kept while a map notes. No condition beyond jobs as defined. -/
import Derived.Test.YtdmegfbeibbmfaaLeaf3
import Derived.Test.YtdmegfbeibbmfaaG2
import Derived.Test.YtdmegfbeibbmfaaG1
set_option linter.unusedVariables false
set_option linter.unusedSimpArgs false
namespace Go.Proofs.Ytdmegfbeibbmfaa
open Go.RowKit Go.My Go.GoldM

theorem CB.mv {I : Nat → Prop} {W W' : World} {b : Nat} {vs : List Value} (h : CB W b vs) (hM : Mv I W W') (hb : ¬ I b) : CB W' b vs :=
  ⟨fun i v hv => hM.cell hb (h.c i v hv), fun i hi => (hM.frozen hb (World.block_lt_of_cell? _ _ (h.c i vs[i] (by simp [hi])))).trans (h.f i hi)⟩
theorem VB.mv {I : Nat → Prop} {W W' : World} {b : Nat} {vs : List Value} (h : VB W b vs) (hM : Mv I W W') (hb : ¬ I b) : VB W' b vs := fun i v hv => hM.cell hb (h i v hv)
theorem _root_.Go.My.Mv.set {I : Nat → Prop} {W W' : World} (h : Mv I W W') {b : Nat} (hb : I b) (o : Nat) (v : Value) : Mv I W (W'.setCell ⟨b, o, none⟩ v) :=
  h.trans (Mv.of_grown ((Turned.refl b W').set o v) fun i e => by cases e; exact hb)
/-- What the map notes. -/
def F3 (ps : List Pc) (a b c : Int) : Bool := canR ps a.toNat b.toNat c.toNat
theorem F3_nat (ps : List Pc) (a b c : Nat) : F3 ps a b c = canR ps a b c := rfl
theorem PcsAt.mv {I : Nat → Prop} {W W' : World} {o : Option Addr} {ps : List Pc} (h : PcsAt W o ps) (hM : Mv I W W') (hI : ∀ p v, W.cell? p = some v → p.block < W.heap.size → ¬ I p.block) : PcsAt W' o ps := fun i p hp => by
  obtain ⟨b, off, h1, h2, h3⟩ := h i p hp
  exact ⟨b, off, h1, Nat.lt_of_lt_of_le h2 hM.size, fun j v hv => hM.cell (hI _ _ (h3 j v hv) h2) (h3 j v hv)⟩
/-- Nothing but the map's block is altered, and the map notes what is so. -/
structure KM (ps : List Pc) (mb : Nat) (W W' : World) : Prop where
  mv : Mv (fun i => i = mb) W W'
  memo : RestM.Memo W' mb (F3 ps)
theorem KM.trans {ps : List Pc} {mb : Nat} {a b c : World} (h : KM ps mb a b) (k : KM ps mb b c) : KM ps mb a c := ⟨h.mv.trans k.mv, k.memo⟩
theorem KM.refl {ps : List Pc} {mb : Nat} {a : World} (h : RestM.Memo a mb (F3 ps)) : KM ps mb a a := ⟨Mv.refl _ _, h⟩
theorem KM.of_ext {ps : List Pc} {mb : Nat} {a b : World} (h : RestM.Memo a mb (F3 ps)) (hE : Ext a b) : KM ps mb a b := ⟨Mv.of_ext hE, h.ext hE⟩
theorem KM.pcs {ps : List Pc} {mb : Nat} {W W' : World} {o : Option Addr} (h : KM ps mb W W') (hm : RestM.Memo W mb (F3 ps)) (hp : PcsAt W o ps) : PcsAt W' o ps := hp.mv h.mv fun p v hc _ => hm.not hc
/-- can's contract up to some measure. -/
def CanOK (j : Jb) (og op : Option Addr) (cg cp mb n : Nat) : Prop := ∀ (w' h' set : Nat) (W : World), 1 ≤ w' → 1 ≤ h' → w' + h' ≤ n → w' ≤ 6 → h' ≤ 6 → set < 32 → RestM.Memo W mb (F3 j.pieces) → PcsAt W op j.pieces →
  Calls Try.prog 73 #[knV j og cg op cp mb, restV w' h' set] W fun e W' => e = .returned (.bool (canR j.pieces w' h' set)) ∧ KM j.pieces mb W W'

set_option maxRecDepth 100000 in
set_option maxHeartbeats 8000000 in
theorem parts89 (j : Jb) (og op : Option Addr) (cg cp mb n : Nat) (hC : CanOK j og op cg cp mb n) (w1 h1 w2 h2 set : Nat) (a1 : 1 ≤ w1) (a2 : 1 ≤ h1) (a3 : 1 ≤ w2) (a4 : 1 ≤ h2) (a5 : w1 + h1 ≤ n) (a6 : w2 + h2 ≤ n) (b1 : w1 ≤ 6) (b2 : h1 ≤ 6) (b3 : w2 ≤ 6) (b4 : h2 ≤ 6) (hs : set < 32) (hs1 : 1 ≤ set)
    (w : World) (hm : RestM.Memo w mb (F3 j.pieces)) (hp : PcsAt w op j.pieces) :
    Calls Try.prog 89 #[knV j og cg op cp mb, I set, restV w1 h1 0, restV w2 h2 0] w fun e w' => e = .returned (.bool (parts set (canR j.pieces w1 h1) (canR j.pieces w2 h2))) ∧ KM j.pieces mb w w' := by
  have hmb := hm.lt
  have HM0 := Lib.hid hm
  have HP0 := Lib.hid hp
  have RA := Lib.hid (fun x (hx : x < 32) W (hm : RestM.Memo W mb (F3 j.pieces)) (hp : PcsAt W op j.pieces) => hC w1 h1 x W a1 a2 a5 b1 b2 hx hm hp)
  have RB := Lib.hid (fun x (hx : x < 32) W (hm : RestM.Memo W mb (F3 j.pieces)) (hp : PcsAt W op j.pieces) => hC w2 h2 x W a3 a4 a6 b3 b4 hx hm hp)
  have hP : parts set (canR j.pieces w1 h1) (canR j.pieces w2 h2) = partsFrom set (canR j.pieces w1 h1) (canR j.pieces w2 h2) set ((set - 1) &&& set) := rfl
  obtain ⟨R, hR⟩ : ∃ R, R = parts set (canR j.pieces w1 h1) (canR j.pieces w2 h2) := ⟨_, rfl⟩
  rw [← hR] at hP ⊢
  have HPp := Lib.hid hP
  have q1 : IntKind.i64.wrap ((set : Int) - 1) = ((set - 1 : Nat) : Int) := by rw [IntWalk.i64_in _ (by omega)]; omega
  have q2 := and32 (a := set - 1) (b := set) (by omega) hs
  have q3 := and_sub (a := set) (b := set - 1) hs (by omega)
  have q4 := and_lt (a := set - 1) (b := set) (by omega) hs
  clear hC a1 a2 a3 a4 a5 a6 b1 b2 b3 b4 hm hp hP hR
  have hE0 : Ext w (((w.alloc (.cells (knL j og cg op cp mb).toArray 114)).alloc (.cells #[I w1, I h1, I 0] 139)).alloc (.cells #[I w2, I h2, I 0] 139)) := (((Ext.refl w).alloc _).alloc _).alloc _
  have hK : VB (((w.alloc (.cells (knL j og cg op cp mb).toArray 114)).alloc (.cells #[I w1, I h1, I 0] 139)).alloc (.cells #[I w2, I h2, I 0] 139)) w.heap.size (knL j og cg op cp mb) := ((VB.new w (knL j og cg op cp mb) 114).ext ((Ext.refl _).alloc _)).ext ((Ext.refl _).alloc _)
  have hA : CB (((w.alloc (.cells (knL j og cg op cp mb).toArray 114)).alloc (.cells #[I w1, I h1, I 0] 139)).alloc (.cells #[I w2, I h2, I 0] 139)) (w.heap.size + 1) [I w1, I h1, I 0] := by
    have := (CB.new (w.alloc (.cells (knL j og cg op cp mb).toArray 114)) [I w1, I h1, I 0] 139).ext ((Ext.refl _).alloc (.cells #[I w2, I h2, I 0] 139))
    simpa only [World.size_alloc] using this
  have hB : CB (((w.alloc (.cells (knL j og cg op cp mb).toArray 114)).alloc (.cells #[I w1, I h1, I 0] 139)).alloc (.cells #[I w2, I h2, I 0] 139)) (w.heap.size + 1 + 1) [I w2, I h2, I 0] := by
    have := CB.new ((w.alloc (.cells (knL j og cg op cp mb).toArray 114)).alloc (.cells #[I w1, I h1, I 0] 139)) [I w2, I h2, I 0] 139
    simpa only [World.size_alloc] using this
  have HK0 := Lib.hid hK
  have HA0 := Lib.hid hA
  have HB0 := Lib.hid hB
  have HE0 := Lib.hid hE0
  clear hK hA hB hE0
  go_enter Try.func89, Try.ntmps89
  go_wp2
  go_loopg [9] 32 (fun g v wr => ∃ x fu : Nat, ∃ u1 u2 : Value, x ≤ g ∧ x ≤ fu ∧ x ≤ set ∧ set &&& x = x ∧ v = .int .i64 x ∧ R = partsFrom set (canR j.pieces w1 h1) (canR j.pieces w2 h2) fu x ∧ Mv (fun i => i = mb ∨ w.heap.size ≤ i) w wr ∧ RestM.Memo wr mb (F3 j.pieces) ∧ VB wr w.heap.size (knL j og cg op cp mb) ∧ CB wr (w.heap.size + 1) [I w1, I h1, u1] ∧ CB wr (w.heap.size + 1 + 1) [I w2, I h2, u2])
  case atStart => exact ⟨_, set, _, _, by omega, by omega, by omega, q3, rfl, HPp.out, Mv.of_ext HE0.out, HM0.out.ext HE0.out, HK0.out, HA0.out, HB0.out⟩
  case round =>
    obtain ⟨x, fu, u1, u2, hxg, hxf, hxs, hsub, rfl, hRx, hM, hme, hK, hA, hB⟩ := hrel
    have hlt1 := CB.lt hA (by simp)
    have hlt2 := CB.lt hB (by simp)
    have HRx := Lib.hid hRx
    have HM := Lib.hid hM
    have Hme := Lib.hid hme
    have HK := Lib.hid hK
    have HA := Lib.hid hA
    have HB := Lib.hid hB
    clear hRx hM hme hK hA hB q1 q2 q3 q4 HK0 HA0 HB0 HE0 HPp
    by_cases hx0 : x = 0
    · subst hx0
      have hr : R = false := by rw [HRx.out]; exact partsFrom_zero _ _ _ _
      subst hr
      go_wp2
      go_ret
      exact ⟨rfl, ⟨HM.out.mono fun i hi h => by omega, Hme.out⟩⟩
    · obtain ⟨fu', rfl⟩ : ∃ k, fu = k + 1 := ⟨fu - 1, by omega⟩
      have hxI : (0 : Int) < (x : Int) := by omega
      have hr := HRx.out
      rw [partsFrom_succ _ _ _ _ hx0] at hr
      have Hr := Lib.hid hr
      have p1 := not32 (a := set) (b := x) hs (by omega) hsub
      have p2 : IntKind.i64.wrap ((x : Int) - 1) = ((x - 1 : Nat) : Int) := by rw [IntWalk.i64_in _ (by omega)]; omega
      have p3 := and32 (a := x - 1) (b := set) (by omega) hs
      have p4 := and_sub (a := set) (b := x - 1) hs (by omega)
      have p5 := and_lt (a := x - 1) (b := set) (by omega) hs
      have r0 := HA.out.c 2 _ rfl
      have r1 := HA.out.f 2 (by simp)
      have s0 := HB.out.c 2 _ rfl
      have s1 := HB.out.f 2 (by simp)
      have hA2 := (HA.out.set (i := 2) (by simp) (I x)).other (q := w.heap.size + 1 + 1) 2 (I (set - x)) (by omega)
      have hB2 := (HB.out.other (q := w.heap.size + 1) 2 (I x) (by omega)).set (i := 2) (by simp) (I (set - x))
      have hM2 : Mv (fun i => i = mb ∨ w.heap.size ≤ i) w ((wr.setCell ⟨w.heap.size + 1, 2, none⟩ (I x)).setCell ⟨w.heap.size + 1 + 1, 2, none⟩ (I (set - x))) := (HM.out.set (.inr (by omega)) 2 _).set (.inr (by omega)) 2 _
      have hT1 : Mv (fun i => i = w.heap.size + 1 ∨ i = w.heap.size + 1 + 1) wr ((wr.setCell ⟨w.heap.size + 1, 2, none⟩ (I x)).setCell ⟨w.heap.size + 1 + 1, 2, none⟩ (I (set - x))) := ((Mv.refl _ wr).set (.inl rfl) 2 _).set (.inr rfl) 2 _
      have hme2 : RestM.Memo ((wr.setCell ⟨w.heap.size + 1, 2, none⟩ (I x)).setCell ⟨w.heap.size + 1 + 1, 2, none⟩ (I (set - x))) mb (F3 j.pieces) := Hme.out.keep (hT1.block mb Hme.out.lt (by omega))
      have hK2 := HK.out.mv hT1 (by omega)
      have hp2 : PcsAt ((wr.setCell ⟨w.heap.size + 1, 2, none⟩ (I x)).setCell ⟨w.heap.size + 1 + 1, 2, none⟩ (I (set - x))) op j.pieces := HP0.out.mv hM2 fun p v hc hl => by
        have := HM0.out.not hc
        omega
      have HA2 := Lib.hid hA2
      have HB2 := Lib.hid hB2
      have HM2 := Lib.hid hM2
      have Hme2 := Lib.hid hme2
      have HK2 := Lib.hid hK2
      have Hp2 := Lib.hid hp2
      have e0 := HK2.out 0 _ rfl; have e1 := HK2.out 1 _ rfl; have e2 := HK2.out 2 _ rfl; have e3 := HK2.out 3 _ rfl; have e4 := HK2.out 4 _ rfl; have e5 := HK2.out 5 _ rfl; have e6 := HK2.out 6 _ rfl
      have f0 := HA2.out.c 0 _ rfl; have f1 := HA2.out.c 1 _ rfl; have f2 := HA2.out.c 2 _ rfl
      clear hA2 hB2 hM2 hT1 hme2 hK2 hp2 hr
      have RAx := Lib.hid (RA.out x (by omega))
      have RBx := Lib.hid (RB.out (set - x) (by omega))
      clear RA RB
      cases hAx : canR j.pieces w1 h1 x with
      | false =>
        rw [hAx] at RAx Hr
        clear hAx
        go_wp2_with (first | (go_at_call 73; refine (RAx.out _ Hme2.out Hp2.out).mono ?_; rintro e w6 ⟨rfl, h6⟩; have H6 := Lib.hid h6; clear h6 e0 e1 e2 e3 e4 e5 e6 f0 f1 f2 r0 r1 s0 s1))
        go_roundg ((x - 1) &&& set)
        case measure => omega
        case rel =>
          have hne1 : ¬ w.heap.size + 1 = mb := by omega
          have hne2 : ¬ w.heap.size + 1 + 1 = mb := by omega
          have hne0 : ¬ w.heap.size = mb := by omega
          exact ⟨_, fu', _, _, Nat.le_refl _, by omega, by omega, p4, rfl, by rw [Hr.out]; simp, HM2.out.trans (H6.out.mv.mono fun i _ hi => .inl hi), H6.out.memo, HK2.out.mv H6.out.mv hne0, HA2.out.mv H6.out.mv hne1, HB2.out.mv H6.out.mv hne2⟩
      | true =>
        rw [hAx] at RAx Hr
        clear hAx
        have hne1 : ¬ w.heap.size + 1 = mb := by omega
        have hne2 : ¬ w.heap.size + 1 + 1 = mb := by omega
        have hne0 : ¬ w.heap.size = mb := by omega
        cases hBx : canR j.pieces w2 h2 (set - x) with
        | false =>
          rw [hBx] at RBx Hr
          clear hBx
          have T1 := Lib.hid trivial
          go_wp2_with (first | (go_at_call 73; have t0 := T1; clear t0 T1; refine (RAx.out _ Hme2.out Hp2.out).mono ?_; rintro e w6 ⟨rfl, h6⟩; have H6 := Lib.hid h6; clear h6 e0 e1 e2 e3 e4 e5 e6 f0 f1 f2 r0 r1 s0 s1; have Hp6 := Lib.hid (H6.out.pcs Hme2.out Hp2.out); have HK6 := Lib.hid (HK2.out.mv H6.out.mv hne0); have HA6 := Lib.hid (HA2.out.mv H6.out.mv hne1); have HB6 := Lib.hid (HB2.out.mv H6.out.mv hne2); have HM6 := Lib.hid (HM2.out.trans (H6.out.mv.mono fun i _ hi => .inl hi)); have e0 := HK6.out 0 _ rfl; have e1 := HK6.out 1 _ rfl; have e2 := HK6.out 2 _ rfl; have e3 := HK6.out 3 _ rfl; have e4 := HK6.out 4 _ rfl; have e5 := HK6.out 5 _ rfl; have e6 := HK6.out 6 _ rfl; have f0 := HB6.out.c 0 _ rfl; have f1 := HB6.out.c 1 _ rfl; have f2 := HB6.out.c 2 _ rfl) | (go_at_call 73; refine (RBx.out _ H6.out.memo Hp6.out).mono ?_; rintro e w7 ⟨rfl, h7⟩; have H7 := Lib.hid h7; clear h7 e0 e1 e2 e3 e4 e5 e6 f0 f1 f2))
          go_roundg ((x - 1) &&& set)
          case measure => omega
          case rel =>
            exact ⟨_, fu', _, _, Nat.le_refl _, by omega, by omega, p4, rfl, by rw [Hr.out]; simp, HM6.out.trans (H7.out.mv.mono fun i _ hi => .inl hi), H7.out.memo, HK6.out.mv H7.out.mv hne0, HA6.out.mv H7.out.mv hne1, HB6.out.mv H7.out.mv hne2⟩
        | true =>
          rw [hBx] at RBx Hr
          clear hBx
          have hr : R = true := by rw [Hr.out]; simp
          subst hr
          have T1 := Lib.hid trivial
          go_wp2_with (first | (go_at_call 73; have t0 := T1; clear t0 T1; refine (RAx.out _ Hme2.out Hp2.out).mono ?_; rintro e w6 ⟨rfl, h6⟩; have H6 := Lib.hid h6; clear h6 e0 e1 e2 e3 e4 e5 e6 f0 f1 f2 r0 r1 s0 s1; have Hp6 := Lib.hid (H6.out.pcs Hme2.out Hp2.out); have HK6 := Lib.hid (HK2.out.mv H6.out.mv hne0); have HB6 := Lib.hid (HB2.out.mv H6.out.mv hne2); have HM6 := Lib.hid (HM2.out.trans (H6.out.mv.mono fun i _ hi => .inl hi)); have e0 := HK6.out 0 _ rfl; have e1 := HK6.out 1 _ rfl; have e2 := HK6.out 2 _ rfl; have e3 := HK6.out 3 _ rfl; have e4 := HK6.out 4 _ rfl; have e5 := HK6.out 5 _ rfl; have e6 := HK6.out 6 _ rfl; have f0 := HB6.out.c 0 _ rfl; have f1 := HB6.out.c 1 _ rfl; have f2 := HB6.out.c 2 _ rfl) | (go_at_call 73; refine (RBx.out _ H6.out.memo Hp6.out).mono ?_; rintro e w7 ⟨rfl, h7⟩; have H7 := Lib.hid h7; clear h7 e0 e1 e2 e3 e4 e5 e6 f0 f1 f2))
          go_ret
          exact ⟨rfl, ⟨(HM6.out.trans (H7.out.mv.mono fun i _ hi => .inl hi)).mono fun i hi h => by omega, H7.out.memo⟩⟩

end Go.Proofs.Ytdmegfbeibbmfaa
