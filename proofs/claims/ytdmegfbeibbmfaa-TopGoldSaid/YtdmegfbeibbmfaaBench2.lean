/- Benches in memory; contracts: isBench. No condition beyond benches as defined. -/
import Derived.Test.YtdmegfbeibbmfaaG3
import Derived.Test.YtdmegfbeibbmfaaG2
set_option linter.unusedVariables false
set_option linter.unusedSimpArgs false
namespace Go.Proofs.Ytdmegfbeibbmfaa
open Go.RowKit Go.My Go.GoldM

abbrev stL (s : St) (on : Option Addr) (cn : Nat) : List Value := [I s.b, .bool s.round, I s.lo, I s.hi, .slice on s.needs.length cn]
abbrev stV (s : St) (on : Option Addr) (cn : Nat) : Value := .agg #[I s.b, .bool s.round, I s.lo, I s.hi, .slice on s.needs.length cn]
/-- The cells of a slice of strokes. -/
def StsAt (w : World) (o : Option Addr) (sts : List St) : Prop := ∀ (i : Nat) (s : St), sts[i]? = some s → ∃ (b off : Nat) (on : Option Addr) (cn : Nat), o = some ⟨b, off, none⟩ ∧ b < w.heap.size ∧ (∀ (j : Nat) (v : Value), (stL s on cn)[j]? = some v → w.cell? ⟨b, off + i * 5 + j, none⟩ = some v) ∧ s.needs.length ≤ cn ∧ IntsAt w on (upL s.needs)
theorem StsAt.ext {w w' : World} {o : Option Addr} {sts : List St} (h : StsAt w o sts) (hE : Ext w w') : StsAt w' o sts := fun i s hs => by
  obtain ⟨b, off, on, cn, h1, h2, h3, h4, h5⟩ := h i s hs
  exact ⟨b, off, on, cn, h1, Nat.lt_of_lt_of_le h2 hE.size, fun j v hv => cell_ext hE (h3 j v hv), h4, h5.ext hE⟩
theorem StsAt.at {w : World} {o : Option Addr} {sts : List St} (h : StsAt w o sts) {k : Nat} {s : St} (hk : sts[k]? = some s) : ∃ (b off : Nat) (on : Option Addr) (cn : Nat), o = some ⟨b, off, none⟩ ∧ b < w.heap.size ∧
    w.cell? ⟨b, off + k * 5, none⟩ = some (I s.b) ∧ w.cell? ⟨b, off + k * 5 + 1, none⟩ = some (.bool s.round) ∧ w.cell? ⟨b, off + k * 5 + 2, none⟩ = some (I s.lo) ∧ w.cell? ⟨b, off + k * 5 + 3, none⟩ = some (I s.hi) ∧ w.cell? ⟨b, off + k * 5 + 4, none⟩ = some (.slice on s.needs.length cn) ∧ s.needs.length ≤ cn ∧ IntsAt w on (upL s.needs) := by
  obtain ⟨b, off, on, cn, h1, h2, h3, h4, h5⟩ := h k s hk
  exact ⟨b, off, on, cn, h1, h2, h3 0 _ rfl, h3 1 _ rfl, h3 2 _ rfl, h3 3 _ rfl, h3 4 _ rfl, h4, h5⟩
abbrev bnL (x : Bn) (ob : Option Addr) (cb : Nat) (os : Option Addr) (cs : Nat) : List Value := [I x.ap, .slice ob x.boards.length cb, .slice os x.sts.length cs]
abbrev bnV (x : Bn) (ob : Option Addr) (cb : Nat) (os : Option Addr) (cs : Nat) : Value := .agg #[I x.ap, .slice ob x.boards.length cb, .slice os x.sts.length cs]
structure BnAt (w : World) (x : Bn) (ob os : Option Addr) : Prop where
  bs : IntsAt w ob (upL x.boards)
  ss : StsAt w os x.sts
theorem BnAt.ext {w w' : World} {x : Bn} {ob os : Option Addr} (h : BnAt w x ob os) (hE : Ext w w') : BnAt w' x ob os := ⟨h.bs.ext hE, h.ss.ext hE⟩

set_option maxHeartbeats 400000 in
theorem bad44 {n : Int} (h : 0 ≤ n ∧ n ≤ 60) (w : World) : Calls Try.prog 44 #[.int .i64 n] w fun e w' => e = .returned (.bool false) ∧ w = w' := by
  have R := Lib.hid (fun W => in41_yes h W)
  clear h
  go_enter Try.func44, Try.ntmps44
  go_wp2_with (first | (go_at_call 41; refine (R.out _).mono ?_; rintro e w1 ⟨rfl, h1⟩; obtain rfl := h1.symm))
  go_ret
  exact ⟨rfl, rfl⟩
set_option maxRecDepth 100000 in
set_option maxHeartbeats 1000000 in
theorem index67 (l : List Int) (h : ∀ n ∈ l, 0 ≤ n ∧ n ≤ 60) (hl : l.length ≤ 1000) (o : Option Addr) (c : Nat) (w : World) (hg : IntsAt w o l) :
    Calls Try.prog 67 #[.slice o l.length c, .func (.func 44) #[] #[]] w fun e w' => e = .returned (.int .i64 (-1)) ∧ w = w' := by
  have H := Lib.hid hg
  have R := Lib.hid (fun k (hk : k < l.length) W => bad44 (h _ (List.getElem_mem hk)) W)
  clear hg h
  go_enter Try.func67, Try.ntmps67
  go_wp2
  go_loopg [5, 8] l.length (fun g j i wr => ∃ k : Nat, k + g = l.length ∧ wr = w ∧ i = .int .i64 k)
  case atStart => exact ⟨0, by simp, rfl, rfl⟩
  case round =>
    obtain ⟨k, hk, rfl, rfl⟩ := hrel
    by_cases hlt : k < l.length
    · obtain ⟨b, off, ho, hb, k0⟩ := H.out.at hlt
      subst ho
      have Rk := Lib.hid (R.out k hlt)
      have hltI : (k : Int) < (l.length : Int) := by omega
      generalize l[k] = x at *
      go_wp2_with (first | (go_at_call 44; refine (Rk.out _).mono ?_; rintro e w' ⟨rfl, h1⟩; obtain rfl := h1.symm))
      go_roundg (gk - 1)
      case measure => omega
      case rel => exact ⟨k + 1, by omega, rfl, by go_num⟩
    · obtain rfl : k = l.length := by omega
      go_wp2
      go_ret
      exact ⟨rfl, rfl⟩
set_option maxHeartbeats 400000 in
theorem contains43 (l : List Int) (h : ∀ n ∈ l, 0 ≤ n ∧ n ≤ 60) (hl : l.length ≤ 1000) (o : Option Addr) (c : Nat) (w : World) (hg : IntsAt w o l) :
    Calls Try.prog 43 #[.slice o l.length c, .func (.func 44) #[] #[]] w fun e w' => e = .returned (.bool false) ∧ w = w' := by
  have R := Lib.hid (index67 l h hl o c w hg)
  clear h hg
  go_enter Try.func43, Try.ntmps43
  go_wp2_with (first | (go_at_call 67; refine R.out.mono ?_; rintro e w1 ⟨rfl, h1⟩; obtain rfl := h1.symm))
  go_ret
  exact ⟨rfl, rfl⟩

set_option maxRecDepth 100000 in
set_option maxHeartbeats 4000000 in
theorem isStroke42 (x : Bn) (f : FineB x) (ob os : Option Addr) (cb cs k : Nat) (s : St) (hk : x.sts[k]? = some s) (w : World) (h : StsAt w os x.sts) :
    Calls Try.prog 42 #[bnV x ob cb os cs, I k] w fun e w' => e = .returned (.bool true) ∧ Ext w w' := by
  obtain ⟨s1, s2, s3, s4, s5, s6⟩ := f.st k s hk
  have hbl := f.bl
  have hsl := f.sl
  have hkl := (List.getElem?_eq_some_iff.1 hk).1
  obtain ⟨b, off, on, cn, rfl, hb, k0, k1, k2, k3, k4, hcn, hn⟩ := (h.ext ((Ext.refl w).alloc (.cells (bnL x ob cb os cs).toArray 57))).at hk
  have HN := Lib.hid hn
  have H6 := Lib.hid (fun i (hi : i < s.needs.length) => s6 _ (List.getElem_mem hi))
  have R2 := Lib.hid (fun W => in41_yes (x := (s.b : Int)) (a := 0) (b := (x.boards.length : Int) - 1) (by omega) W)
  have R3 := Lib.hid (fun W => in41_yes (x := (s.lo : Int)) (a := 1) (b := 6) (by omega) W)
  have R4 := Lib.hid (fun W => in41_yes (x := (s.hi : Int)) (a := (s.lo : Int)) (b := 6) (by omega) W)
  have q1 : IntKind.i64.wrap ((x.boards.length : Int) - 1) = (x.boards.length : Int) - 1 := by rw [IntWalk.i64_in _ (by omega)]
  have q2 : IntKind.i64.wrap ((k : Int) - 1) = (k : Int) - 1 := by rw [IntWalk.i64_in _ (by omega)]
  have hklI : (k : Int) < (x.sts.length : Int) := by omega
  have HE := Lib.hid (((Ext.refl w).alloc (.cells (bnL x ob cb (some ⟨b, off, none⟩) cs).toArray 57)).alloc (.cells (stL s on cn).toArray 81))
  have HB := Lib.hid ((VB.new w (bnL x ob cb (some ⟨b, off, none⟩) cs) 57).ext ((Ext.refl _).alloc (.cells (stL s on cn).toArray 81)))
  have HS := Lib.hid (show VB ((w.alloc (.cells (bnL x ob cb (some ⟨b, off, none⟩) cs).toArray 57)).alloc (.cells (stL s on cn).toArray 81)) (w.heap.size + 1) (stL s on cn) by
    have h9 := VB.new (w.alloc (.cells (bnL x ob cb (some ⟨b, off, none⟩) cs).toArray 57)) (stL s on cn) 81
    simpa only [World.size_alloc] using h9)
  clear h hn s1 s2 s3 s4 s6 f hk
  go_enter Try.func42, Try.ntmps42
  go_wp2
  have hw1 : ∃ X, X = (w.alloc (.cells #[I x.ap, .slice ob x.boards.length cb, .slice (some ⟨b, off, none⟩) x.sts.length cs] 57)).alloc (.cells #[I s.b, .bool s.round, I s.lo, I s.hi, .slice on s.needs.length cn] 81) := ⟨_, rfl⟩
  obtain ⟨w1, hw1⟩ := hw1
  rw [← hw1]
  replace HE := Lib.hid (show Ext w w1 by rw [hw1]; exact HE.out)
  replace HB := Lib.hid (show VB w1 w.heap.size (bnL x ob cb (some ⟨b, off, none⟩) cs) by rw [hw1]; exact HB.out)
  replace HS := Lib.hid (show VB w1 (w.heap.size + 1) (stL s on cn) by rw [hw1]; exact HS.out)
  replace HN := Lib.hid (show IntsAt w1 on (upL s.needs) by rw [hw1]; exact HN.out.ext ((Ext.refl _).alloc _))
  clear hw1 k0 k1 k2 k3 k4
  have p0 := HS.out 0 _ rfl
  have p2 := HS.out 2 _ rfl
  have p3 := HS.out 3 _ rfl
  have p4 := HS.out 4 _ rfl
  have b1 := HB.out 1 _ rfl
  go_loopg [16] s.needs.length (fun g i wr => ∃ m : Nat, m + g = s.needs.length ∧ wr = w1 ∧ i = .int .i64 m)
  case atStart => exact ⟨0, by simp, rfl, rfl⟩
  case round =>
    obtain ⟨m, hm, rfl, rfl⟩ := hrel
    by_cases hlt : m < s.needs.length
    · obtain rfl : m = 0 := by omega
      obtain ⟨b', off', hon, hb', hc'⟩ := HN.out.at (k := 0) (by rw [upL_length]; exact hlt)
      have h6 := H6.out 0 hlt
      have hx0 : (upL s.needs)[0]'(by rw [upL_length]; exact hlt) = ((s.needs[0] : Nat) : Int) := by simp [upL]
      rw [hx0, Nat.add_zero] at hc'
      subst hon
      have hltI : ((0 : Nat) : Int) < (s.needs.length : Int) := by omega
      have hltJ : (0 : Int) < (s.needs.length : Int) := by omega
      generalize s.needs[0] = n0 at *
      have R1 := Lib.hid (fun W => in41_yes (x := (n0 : Int)) (a := 0) (b := (k : Int) - 1) (by omega) W)
      go_wp2_with (first | (go_at_call 41; refine (R1.out _).mono ?_; rintro e w3 ⟨rfl, h3⟩; obtain rfl := h3.symm))
      go_roundg (gk - 1)
      case measure => omega
      case rel => exact ⟨1, by omega, rfl, by go_num⟩
    · obtain rfl : m = s.needs.length := by omega
      have T2 := Lib.hid trivial
      have T3 := Lib.hid trivial
      have T4 := Lib.hid trivial
      go_wp2_with (first | (go_at_call 41; have t0 := T2; clear t0 T2; refine (R2.out _).mono ?_; rintro e w3 ⟨rfl, h3⟩; obtain rfl := h3.symm) | (go_at_call 41; have t0 := T3; clear t0 T3; refine (R3.out _).mono ?_; rintro e w3 ⟨rfl, h3⟩; obtain rfl := h3.symm) | (go_at_call 41; have t0 := T4; clear t0 T4; refine (R4.out _).mono ?_; rintro e w3 ⟨rfl, h3⟩; obtain rfl := h3.symm))
      go_ret
      exact ⟨rfl, HE.out⟩

set_option maxRecDepth 100000 in
set_option maxHeartbeats 4000000 in
theorem isBench20 (x : Bn) (f : FineB x) (ob os : Option Addr) (cb cs : Nat) (w : World) (h : BnAt w x ob os) :
    Calls Try.prog 20 #[bnV x ob cb os cs] w fun e w' => e = .returned (.bool true) ∧ Ext w w' := by
  have H := Lib.hid h
  have B := Lib.hid (VB.new w (bnL x ob cb os cs) 57)
  have R1 := Lib.hid (fun W => in41_yes (x := (x.ap : Int)) (a := 0) (b := 3) (by have := f.ap; omega) W)
  have R2 := Lib.hid (fun W => in41_yes (x := (x.boards.length : Int)) (a := 1) (b := 3) (by have := f.bl; omega) W)
  have R3 := Lib.hid (fun W => in41_yes (x := (x.sts.length : Int)) (a := 1) (b := 6) (by have := f.sl; omega) W)
  have R42 := Lib.hid (fun k (hk : k < x.sts.length) W (hE : Ext w W) => isStroke42 x f ob os cb cs k x.sts[k] (by simp [hk]) W (h.ss.ext hE))
  have hbl := f.bl
  have R43 := Lib.hid (fun W (hE : Ext w W) => by
    have h9 := contains43 (upL x.boards) (fun n hn => by
      obtain ⟨y, hy, rfl⟩ := List.mem_map.1 hn
      have := f.bd y hy
      omega) (by rw [upL_length]; omega) ob cb W (h.bs.ext hE)
    rw [upL_length] at h9
    exact h9)
  have hsl := f.sl
  have hE0 := Lib.hid ((Ext.refl w).alloc (.cells (bnL x ob cb os cs).toArray 57))
  clear h f hbl
  go_enter Try.func20, Try.ntmps20
  have T1 := Lib.hid trivial
  have T2 := Lib.hid trivial
  have T3 := Lib.hid trivial
  go_wp2_with (first | (go_at_call 41; have t0 := T1; clear t0 T1; refine (R1.out _).mono ?_; rintro e w3 ⟨rfl, h3⟩; obtain rfl := h3.symm) | (go_at_call 41; have t0 := T2; clear t0 T2; refine (R2.out _).mono ?_; rintro e w3 ⟨rfl, h3⟩; obtain rfl := h3.symm) | (go_at_call 41; have t0 := T3; clear t0 T3; refine (R3.out _).mono ?_; rintro e w3 ⟨rfl, h3⟩; obtain rfl := h3.symm))
  obtain ⟨w1, hw1⟩ : ∃ X, X = w.alloc (.cells #[I x.ap, .slice ob x.boards.length cb, .slice os x.sts.length cs] 57) := ⟨_, rfl⟩
  rw [← hw1]
  replace hE0 := Lib.hid (show Ext w w1 by rw [hw1]; exact hE0.out)
  replace B := Lib.hid (show VB w1 w.heap.size (bnL x ob cb os cs) by rw [hw1]; exact B.out)
  clear hw1
  go_loopg [25] x.sts.length (fun g i wr => ∃ k : Nat, k + g = x.sts.length ∧ Ext w1 wr ∧ i = .int .i64 k)
  case atStart => exact ⟨0, by simp, Ext.refl _, rfl⟩
  case round =>
    obtain ⟨k, hk, hE, rfl⟩ := hrel
    have HE := Lib.hid hE
    have B2 := Lib.hid (B.out.ext hE)
    have b0 := B2.out 0 _ rfl
    have b1 := B2.out 1 _ rfl
    have b2 := B2.out 2 _ rfl
    clear hE
    by_cases hlt : k < x.sts.length
    · have Rk := Lib.hid (R42.out k hlt)
      have hltI : (k : Int) < (x.sts.length : Int) := by omega
      go_wp2_with (first | (go_at_call 42; refine (Rk.out _ (hE0.out.trans HE.out)).mono ?_; rintro e w' ⟨rfl, hE'⟩; have HE' := Lib.hid hE'; clear hE' b0 b1 b2))
      go_roundg (gk - 1)
      case measure => omega
      case rel => exact ⟨k + 1, by omega, HE.out.trans HE'.out, by go_num⟩
    · obtain rfl : k = x.sts.length := by omega
      go_wp2_with (first | (go_at_call 43; refine (R43.out _ (hE0.out.trans HE.out)).mono ?_; rintro e w' ⟨rfl, h3⟩; obtain rfl := h3.symm))
      go_ret
      exact ⟨rfl, hE0.out.trans HE.out⟩

end Go.Proofs.Ytdmegfbeibbmfaa
