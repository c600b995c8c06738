/- Sheets of one board in memory; contracts: isSheet. No condition beyond sheets as defined. -/
import Derived.Test.YtdmegfbeibbmfaaBench2
import Derived.Test.YtdmegfbeibbmfaaLeaf15
set_option linter.unusedVariables false
set_option linter.unusedSimpArgs false
namespace Go.Proofs.Ytdmegfbeibbmfaa
open Go.RowKit Go.My Go.GoldM

/-- A sheet: one owner, one board, two tariffs: by the letter, by the foot. -/
structure Sh where
  l : Nat
  f : Nat
  u0 : Nat
  u1 : Nat
structure FineS (s : Sh) : Prop where
  l : s.l ≤ 60
  f : s.f ≤ 40
  u0 : 1 ≤ s.u0 ∧ s.u0 ≤ 12
  u1 : 1 ≤ s.u1 ∧ s.u1 ≤ 12
abbrev bdL (s : Sh) : List Value := [I s.l, I s.f, .int .i64 0, .int .i64 0, .int .i64 0]
abbrev bdV (s : Sh) : Value := .agg #[I s.l, I s.f, .int .i64 0, .int .i64 0, .int .i64 0]
abbrev tfL (k u : Nat) : List Value := [I k, .int .i64 1, I u, .int .i64 2, .bool false]
abbrev tfV (k u : Nat) : Value := .agg #[I k, .int .i64 1, I u, .int .i64 2, .bool false]
abbrev tfs (s : Sh) : List Value := [.int .i64 1, .int .i64 1, I s.u0, .int .i64 2, .bool false, .int .i64 2, .int .i64 1, I s.u1, .int .i64 2, .bool false]
abbrev shL (bo bb bt : Nat) : List Value := [.slice (some ⟨bo, 0, none⟩) 1 1, .slice (some ⟨bb, 0, none⟩) 1 1, .slice (some ⟨bt, 0, none⟩) 2 2]
abbrev shV (bo bb bt : Nat) : Value := .agg #[.slice (some ⟨bo, 0, none⟩) 1 1, .slice (some ⟨bb, 0, none⟩) 1 1, .slice (some ⟨bt, 0, none⟩) 2 2]
structure ShAt (W : World) (s : Sh) (bo bb bt : Nat) : Prop where
  o : VB W bo [.int .i64 0]
  b : VB W bb (bdL s)
  t : VB W bt (tfs s)
theorem ShAt.ext {W W' : World} {s : Sh} {bo bb bt : Nat} (h : ShAt W s bo bb bt) (hE : Ext W W') : ShAt W' s bo bb bt := ⟨h.o.ext hE, h.b.ext hE, h.t.ext hE⟩

set_option maxHeartbeats 400000 in
theorem bad57 (w : World) : Calls Try.prog 57 #[.int .i64 0] w fun e w' => e = .returned (.bool false) ∧ w = w' := by
  have R := Lib.hid (fun W => in35_yes (x := 0) (a := 0) (b := 100) (by decide) W)
  go_enter Try.func57, Try.ntmps57
  go_wp2_with (first | (go_at_call 35; refine (R.out _).mono ?_; rintro e w1 ⟨rfl, h1⟩; obtain rfl := h1.symm))
  go_ret
  exact ⟨rfl, rfl⟩
set_option maxRecDepth 100000 in
set_option maxHeartbeats 1000000 in
theorem index67p (b : Nat) (w : World) (h : VB w b [.int .i64 0]) :
    Calls Try.prog 67 #[.slice (some ⟨b, 0, none⟩) 1 1, .func (.func 57) #[] #[]] w fun e w' => e = .returned (.int .i64 (-1)) ∧ w = w' := by
  have H := Lib.hid h
  clear h
  go_enter Try.func67, Try.ntmps67
  go_wp2
  go_loopg [5, 8] 1 (fun g j i wr => ∃ k : Nat, k + g = 1 ∧ wr = w ∧ i = .int .i64 k)
  case atStart => exact ⟨0, by simp, rfl, rfl⟩
  case round =>
    obtain ⟨k, hk, rfl, rfl⟩ := hrel
    by_cases hlt : k < 1
    · obtain rfl : k = 0 := by omega
      have k0 := H.out 0 _ rfl
      go_wp2_with (first | (go_at_call 57; refine (bad57 _).mono ?_; rintro e w' ⟨rfl, h1⟩; obtain rfl := h1.symm))
      go_roundg (gk - 1)
      case measure => omega
      case rel => exact ⟨1, by omega, rfl, by go_num⟩
    · obtain rfl : k = 1 := by omega
      go_wp2
      go_ret
      exact ⟨rfl, rfl⟩
set_option maxHeartbeats 400000 in
theorem contains43p (b : Nat) (w : World) (h : VB w b [.int .i64 0]) :
    Calls Try.prog 43 #[.slice (some ⟨b, 0, none⟩) 1 1, .func (.func 57) #[] #[]] w fun e w' => e = .returned (.bool false) ∧ w = w' := by
  have R := Lib.hid (index67p b w h)
  clear h
  go_enter Try.func43, Try.ntmps43
  go_wp2_with (first | (go_at_call 67; refine R.out.mono ?_; rintro e w1 ⟨rfl, h1⟩; obtain rfl := h1.symm))
  go_ret
  exact ⟨rfl, rfl⟩

set_option maxRecDepth 100000 in
set_option maxHeartbeats 4000000 in
theorem board60 (s : Sh) (f : FineS s) (bo bb bt : Nat) (w : World) : Calls Try.prog 60 #[shV bo bb bt, bdV s] w fun e w' => e = .returned (.bool true) ∧ Ext w w' := by
  have R1 := Lib.hid (fun W => in35_yes (x := (s.l : Int)) (a := 0) (b := 60) (by have := f.l; omega) W)
  have R2 := Lib.hid (fun W => in35_yes (x := (s.f : Int)) (a := 0) (b := 40) (by have := f.f; omega) W)
  have R3 := Lib.hid (fun W => in35_yes (x := 0) (a := 0) (b := 40) (by decide) W)
  have R4 := Lib.hid (fun W => in35_yes (x := 0) (a := 0) (b := 0) (by decide) W)
  have HE := Lib.hid (((Ext.refl w).alloc (.cells (shL bo bb bt).toArray 48)).alloc (.cells (bdL s).toArray 40))
  clear f
  have T1 := Lib.hid trivial
  have T2 := Lib.hid trivial
  have T3 := Lib.hid trivial
  have T4 := Lib.hid trivial
  have T5 := Lib.hid trivial
  go_enter Try.func60, Try.ntmps60
  go_wp2_with (first | (go_at_call 35; have t0 := T1; clear t0 T1; refine (R1.out _).mono ?_; rintro e w3 ⟨rfl, h3⟩; obtain rfl := h3.symm) | (go_at_call 35; have t0 := T2; clear t0 T2; refine (R2.out _).mono ?_; rintro e w3 ⟨rfl, h3⟩; obtain rfl := h3.symm) | (go_at_call 35; have t0 := T3; clear t0 T3; refine (R3.out _).mono ?_; rintro e w3 ⟨rfl, h3⟩; obtain rfl := h3.symm) | (go_at_call 35; have t0 := T4; clear t0 T4; refine (R3.out _).mono ?_; rintro e w3 ⟨rfl, h3⟩; obtain rfl := h3.symm) | (go_at_call 35; have t0 := T5; clear t0 T5; refine (R4.out _).mono ?_; rintro e w3 ⟨rfl, h3⟩; obtain rfl := h3.symm))
  go_ret
  exact ⟨rfl, HE.out⟩
set_option maxRecDepth 100000 in
set_option maxHeartbeats 1000000 in
theorem bad59 (s : Sh) (f : FineS s) (bo bb bt b : Nat) (w : World) (h : VB w b (shL bo bb bt)) : Calls Try.prog 59 #[bdV s, .pointer (some ⟨b, 0, none⟩)] w fun e w' => e = .returned (.bool false) ∧ Ext w w' := by
  have R := Lib.hid (fun W => board60 s f bo bb bt W)
  have hX := (Ext.refl w).alloc (.cells (bdL s).toArray 40)
  have HX := Lib.hid hX
  have k0 := (h.ext hX) 0 _ rfl
  have k1 := (h.ext hX) 1 _ rfl
  have k2 := (h.ext hX) 2 _ rfl
  clear h f hX
  go_enter Try.func59, Try.ntmps59
  go_wp2_with (first | (go_at_call 60; refine (R.out _).mono ?_; rintro e w1 ⟨rfl, h1⟩))
  go_ret
  exact ⟨rfl, HX.out.trans h1⟩
set_option maxRecDepth 100000 in
set_option maxHeartbeats 1000000 in
theorem index74 (s : Sh) (f : FineS s) (bo bb bt b : Nat) (w : World) (h : VB w b (shL bo bb bt)) (hb : VB w bb (bdL s)) :
    Calls Try.prog 74 #[.slice (some ⟨bb, 0, none⟩) 1 1, .func (.func 59) #[] #[.pointer (some ⟨b, 0, none⟩)]] w fun e w' => e = .returned (.int .i64 (-1)) ∧ Ext w w' := by
  have R := Lib.hid (fun W (hE : Ext w W) => bad59 s f bo bb bt b W (h.ext hE))
  have HB := Lib.hid hb
  clear h f hb
  go_enter Try.func74, Try.ntmps74
  go_wp2
  go_loopg [5, 8] 1 (fun g j i wr => ∃ k : Nat, k + g = 1 ∧ Ext w wr ∧ i = .int .i64 k)
  case atStart => exact ⟨0, by simp, Ext.refl _, rfl⟩
  case round =>
    obtain ⟨k, hk, hE, rfl⟩ := hrel
    have HE := Lib.hid hE
    by_cases hlt : k < 1
    · obtain rfl : k = 0 := by omega
      have k0 := (HB.out.ext hE) 0 _ rfl
      have k1 := (HB.out.ext hE) 1 _ rfl
      have k2 := (HB.out.ext hE) 2 _ rfl
      have k3 := (HB.out.ext hE) 3 _ rfl
      have k4 := (HB.out.ext hE) 4 _ rfl
      clear hE
      go_wp2_with (first | (go_at_call 59; refine (R.out _ HE.out).mono ?_; rintro e w' ⟨rfl, h1⟩; have HE1 := Lib.hid (HE.out.trans h1); clear h1 k0 k1 k2 k3 k4))
      go_roundg (gk - 1)
      case measure => omega
      case rel => exact ⟨1, by omega, HE1.out, by go_num⟩
    · obtain rfl : k = 1 := by omega
      clear hE
      go_wp2
      go_ret
      exact ⟨rfl, HE.out⟩
set_option maxHeartbeats 400000 in
theorem contains58 (s : Sh) (f : FineS s) (bo bb bt b : Nat) (w : World) (h : VB w b (shL bo bb bt)) (hb : VB w bb (bdL s)) :
    Calls Try.prog 58 #[.slice (some ⟨bb, 0, none⟩) 1 1, .func (.func 59) #[] #[.pointer (some ⟨b, 0, none⟩)]] w fun e w' => e = .returned (.bool false) ∧ Ext w w' := by
  have R := Lib.hid (index74 s f bo bb bt b w h hb)
  clear h hb f
  go_enter Try.func58, Try.ntmps58
  go_wp2_with (first | (go_at_call 74; refine R.out.mono ?_; rintro e w1 ⟨rfl, h1⟩))
  go_ret
  exact ⟨rfl, h1⟩

set_option maxRecDepth 100000 in
set_option maxHeartbeats 4000000 in
theorem tariff63 (k u : Nat) (hk : 1 ≤ k ∧ k ≤ 4) (hu : 1 ≤ u ∧ u ≤ 12) (w : World) : Calls Try.prog 63 #[tfV k u] w fun e w' => e = .returned (.bool true) ∧ Ext w w' := by
  have R1 := Lib.hid (fun W => in35_yes (x := 1) (a := 0) (b := 500) (by decide) W)
  have R2 := Lib.hid (fun W => in35_yes (x := (u : Int)) (a := 1) (b := 12) (by omega) W)
  have HE := Lib.hid ((Ext.refl w).alloc (.cells (tfL k u).toArray 45))
  have k1 : (1 : Int) ≤ (k : Int) := by omega
  have k2 : (k : Int) ≤ 4 := by omega
  clear hk hu
  have T1 := Lib.hid trivial
  have T2 := Lib.hid trivial
  go_enter Try.func63, Try.ntmps63
  go_wp2_with (first | (go_at_call 35; have t0 := T1; clear t0 T1; refine (R1.out _).mono ?_; rintro e w3 ⟨rfl, h3⟩; obtain rfl := h3.symm) | (go_at_call 35; have t0 := T2; clear t0 T2; refine (R2.out _).mono ?_; rintro e w3 ⟨rfl, h3⟩; obtain rfl := h3.symm))
  go_ret
  exact ⟨rfl, HE.out⟩
set_option maxRecDepth 100000 in
set_option maxHeartbeats 1000000 in
theorem bad62 (k u : Nat) (hk : 1 ≤ k ∧ k ≤ 4) (hu : 1 ≤ u ∧ u ≤ 12) (w : World) : Calls Try.prog 62 #[tfV k u] w fun e w' => e = .returned (.bool false) ∧ Ext w w' := by
  have R := Lib.hid (fun W => tariff63 k u hk hu W)
  have HX := Lib.hid ((Ext.refl w).alloc (.cells (tfL k u).toArray 45))
  clear hk hu
  go_enter Try.func62, Try.ntmps62
  go_wp2_with (first | (go_at_call 63; refine (R.out _).mono ?_; rintro e w1 ⟨rfl, h1⟩))
  go_ret
  exact ⟨rfl, HX.out.trans h1⟩
set_option maxRecDepth 100000 in
set_option maxHeartbeats 2000000 in
theorem index75 (s : Sh) (f : FineS s) (bt : Nat) (w : World) (ht : VB w bt (tfs s)) :
    Calls Try.prog 75 #[.slice (some ⟨bt, 0, none⟩) 2 2, .func (.func 62) #[] #[]] w fun e w' => e = .returned (.int .i64 (-1)) ∧ Ext w w' := by
  have R0 := Lib.hid (fun W => bad62 1 s.u0 (by decide) f.u0 W)
  have R1 := Lib.hid (fun W => bad62 2 s.u1 (by decide) f.u1 W)
  have HB := Lib.hid ht
  clear f ht
  go_enter Try.func75, Try.ntmps75
  go_wp2
  go_loopg [5, 8] 2 (fun g j i wr => ∃ k : Nat, k + g = 2 ∧ Ext w wr ∧ i = .int .i64 k)
  case atStart => exact ⟨0, by simp, Ext.refl _, rfl⟩
  case round =>
    obtain ⟨k, hk, hE, rfl⟩ := hrel
    have HE := Lib.hid hE
    have V := HB.out.ext hE
    have k0 := V 0 _ rfl; have k1 := V 1 _ rfl; have k2 := V 2 _ rfl; have k3 := V 3 _ rfl; have k4 := V 4 _ rfl
    have k5 := V 5 _ rfl; have k6 := V 6 _ rfl; have k7 := V 7 _ rfl; have k8 := V 8 _ rfl; have k9 := V 9 _ rfl
    clear hE V
    obtain rfl | rfl | rfl : k = 0 ∨ k = 1 ∨ k = 2 := by omega
    · go_wp2_with (first | (go_at_call 62; refine (R0.out _).mono ?_; rintro e w' ⟨rfl, h1⟩; have HE1 := Lib.hid (HE.out.trans h1); clear h1 k0 k1 k2 k3 k4 k5 k6 k7 k8 k9))
      go_roundg (gk - 1)
      case measure => omega
      case rel => exact ⟨1, by omega, HE1.out, by go_num⟩
    · go_wp2_with (first | (go_at_call 62; refine (R1.out _).mono ?_; rintro e w' ⟨rfl, h1⟩; have HE1 := Lib.hid (HE.out.trans h1); clear h1 k0 k1 k2 k3 k4 k5 k6 k7 k8 k9))
      go_roundg (gk - 1)
      case measure => omega
      case rel => exact ⟨2, by omega, HE1.out, by go_num⟩
    · go_wp2
      go_ret
      exact ⟨rfl, HE.out⟩
set_option maxHeartbeats 400000 in
theorem contains61 (s : Sh) (f : FineS s) (bt : Nat) (w : World) (ht : VB w bt (tfs s)) :
    Calls Try.prog 61 #[.slice (some ⟨bt, 0, none⟩) 2 2, .func (.func 62) #[] #[]] w fun e w' => e = .returned (.bool false) ∧ Ext w w' := by
  have R := Lib.hid (index75 s f bt w ht)
  clear ht f
  go_enter Try.func61, Try.ntmps61
  go_wp2_with (first | (go_at_call 75; refine R.out.mono ?_; rintro e w1 ⟨rfl, h1⟩))
  go_ret
  exact ⟨rfl, h1⟩

end Go.Proofs.Ytdmegfbeibbmfaa
