/- Contracts and mathematics, joined: Data, Leaf1, Leaf2, Bits, Top1, Bench1. Conditions stand with each. -/
import Derived.Test.YtdmegfbeibbmfaaG1
import Derived.Test.YtdmegfbeibbmfaaG2
set_option linter.unusedVariables false
set_option linter.unusedSimpArgs false
/- Jobs of gold leaf in memory. No condition. -/
namespace Go.Proofs.Ytdmegfbeibbmfaa
open Go.RowKit Go.My Go.GoldM

theorem mixed : Try.prog.follows .mixedOrders = true := by kernel_rfl

abbrev I (n : Nat) : Value := .int .i64 (n : Nat)
abbrev grL (g : Gr) : List Value := [I g.rl, I g.rh, I g.ll, I g.lh]
abbrev grV (g : Gr) : Value := .agg #[I g.rl, I g.rh, I g.ll, I g.lh]
abbrev pcL (p : Pc) : List Value := [I p.w, I p.h, .bool p.turn, I p.g]
abbrev pcV (p : Pc) : Value := .agg #[I p.w, I p.h, .bool p.turn, I p.g]
/-- The cells of a slice of grounds, of pieces. -/
def GrsAt (w : World) (o : Option Addr) (gs : List Gr) : Prop := ∀ (i : Nat) (g : Gr), gs[i]? = some g → ∃ b off, o = some ⟨b, off, none⟩ ∧ b < w.heap.size ∧ ∀ (j : Nat) (v : Value), (grL g)[j]? = some v → w.cell? ⟨b, off + i * 4 + j, none⟩ = some v
def PcsAt (w : World) (o : Option Addr) (ps : List Pc) : Prop := ∀ (i : Nat) (p : Pc), ps[i]? = some p → ∃ b off, o = some ⟨b, off, none⟩ ∧ b < w.heap.size ∧ ∀ (j : Nat) (v : Value), (pcL p)[j]? = some v → w.cell? ⟨b, off + i * 4 + j, none⟩ = some v
theorem GrsAt.ext {w w' : World} {o : Option Addr} {gs : List Gr} (h : GrsAt w o gs) (hE : Ext w w') : GrsAt w' o gs := fun i g hg => by
  obtain ⟨b, off, h1, h2, h3⟩ := h i g hg
  exact ⟨b, off, h1, Nat.lt_of_lt_of_le h2 hE.size, fun j v hv => cell_ext hE (h3 j v hv)⟩
theorem PcsAt.ext {w w' : World} {o : Option Addr} {ps : List Pc} (h : PcsAt w o ps) (hE : Ext w w') : PcsAt w' o ps := fun i g hg => by
  obtain ⟨b, off, h1, h2, h3⟩ := h i g hg
  exact ⟨b, off, h1, Nat.lt_of_lt_of_le h2 hE.size, fun j v hv => cell_ext hE (h3 j v hv)⟩
theorem GrsAt.at {w : World} {o : Option Addr} {gs : List Gr} (h : GrsAt w o gs) {k : Nat} (hk : k < gs.length) : ∃ b off, o = some ⟨b, off, none⟩ ∧ b < w.heap.size ∧
    w.cell? ⟨b, off + k * 4, none⟩ = some (I gs[k].rl) ∧ w.cell? ⟨b, off + k * 4 + 1, none⟩ = some (I gs[k].rh) ∧ w.cell? ⟨b, off + k * 4 + 2, none⟩ = some (I gs[k].ll) ∧ w.cell? ⟨b, off + k * 4 + 3, none⟩ = some (I gs[k].lh) := by
  obtain ⟨b, off, h1, h2, h3⟩ := h k gs[k] (by simp [hk])
  exact ⟨b, off, h1, h2, h3 0 _ rfl, h3 1 _ rfl, h3 2 _ rfl, h3 3 _ rfl⟩
theorem PcsAt.at {w : World} {o : Option Addr} {ps : List Pc} (h : PcsAt w o ps) {k : Nat} (hk : k < ps.length) : ∃ b off, o = some ⟨b, off, none⟩ ∧ b < w.heap.size ∧
    w.cell? ⟨b, off + k * 4, none⟩ = some (I ps[k].w) ∧ w.cell? ⟨b, off + k * 4 + 1, none⟩ = some (I ps[k].h) ∧ w.cell? ⟨b, off + k * 4 + 2, none⟩ = some (.bool ps[k].turn) ∧ w.cell? ⟨b, off + k * 4 + 3, none⟩ = some (I ps[k].g) := by
  obtain ⟨b, off, h1, h2, h3⟩ := h k ps[k] (by simp [hk])
  exact ⟨b, off, h1, h2, h3 0 _ rfl, h3 1 _ rfl, h3 2 _ rfl, h3 3 _ rfl⟩
/-- The cells of a job's box. -/
abbrev jobL' (j : Jb) (og : Option Addr) (cg : Nat) (op : Option Addr) (cp : Nat) : List Value := [I j.wide, I j.high, I j.book, I j.spoilt, .slice og j.grounds.length cg, .slice op j.pieces.length cp]
abbrev jobV (j : Jb) (og : Option Addr) (cg : Nat) (op : Option Addr) (cp : Nat) : Value := .agg #[I j.wide, I j.high, I j.book, I j.spoilt, .slice og j.grounds.length cg, .slice op j.pieces.length cp]

/-- A box of some values. -/
def VB (W : World) (b : Nat) (vs : List Value) : Prop := ∀ (j : Nat) (v : Value), vs[j]? = some v → W.cell? ⟨b, j, none⟩ = some v
theorem VB.new (w : World) (vs : List Value) (t : TypeId) : VB (w.alloc (.cells vs.toArray t)) w.heap.size vs := fun j v hv => by
  rw [cell_of_row _ _ j _ _ _ (heap_alloc_new w _)]; simpa using hv
theorem VB.ext {W W' : World} {b : Nat} {vs : List Value} (h : VB W b vs) (hE : Ext W W') : VB W' b vs := fun j v hv => cell_ext hE (h j v hv)

def inB (x a b : Int) : Bool := decide (a ≤ x) && decide (x ≤ b)
set_option maxHeartbeats 400000 in
theorem in25 (x a b : Int) (w : World) : Calls Try.prog 25 #[.int .i64 x, .int .i64 a, .int .i64 b] w fun e w' => e = .returned (.bool (inB x a b)) ∧ w = w' := by
  go_enter Try.func25, Try.ntmps25
  go_wp2
  all_goals go_ret
  all_goals exact ⟨ret_bool (by simp [inB, *] <;> omega), rfl⟩
set_option maxHeartbeats 400000 in
theorem in35 (x a b : Int) (w : World) : Calls Try.prog 35 #[.int .i64 x, .int .i64 a, .int .i64 b] w fun e w' => e = .returned (.bool (inB x a b)) ∧ w = w' := by
  go_enter Try.func35, Try.ntmps35
  go_wp2
  all_goals go_ret
  all_goals exact ⟨ret_bool (by simp [inB, *] <;> omega), rfl⟩
set_option maxHeartbeats 400000 in
theorem in41 (x a b : Int) (w : World) : Calls Try.prog 41 #[.int .i64 x, .int .i64 a, .int .i64 b] w fun e w' => e = .returned (.bool (inB x a b)) ∧ w = w' := by
  go_enter Try.func41, Try.ntmps41
  go_wp2
  all_goals go_ret
  all_goals exact ⟨ret_bool (by simp [inB, *] <;> omega), rfl⟩
theorem in25_yes {x a b : Int} (h : a ≤ x ∧ x ≤ b) (w : World) : Calls Try.prog 25 #[.int .i64 x, .int .i64 a, .int .i64 b] w fun e w' => e = .returned (.bool true) ∧ w = w' := by
  have := in25 x a b w
  rwa [show inB x a b = true by simp [inB, h]] at this
theorem in35_yes {x a b : Int} (h : a ≤ x ∧ x ≤ b) (w : World) : Calls Try.prog 35 #[.int .i64 x, .int .i64 a, .int .i64 b] w fun e w' => e = .returned (.bool true) ∧ w = w' := by
  have := in35 x a b w
  rwa [show inB x a b = true by simp [inB, h]] at this
theorem in41_yes {x a b : Int} (h : a ≤ x ∧ x ≤ b) (w : World) : Calls Try.prog 41 #[.int .i64 x, .int .i64 a, .int .i64 b] w fun e w' => e = .returned (.bool true) ∧ w = w' := by
  have := in41 x a b w
  rwa [show inB x a b = true by simp [inB, h]] at this
set_option maxHeartbeats 400000 in
theorem side24 {x : Int} (h : 1 ≤ x ∧ x ≤ 6) (w : World) : Calls Try.prog 24 #[.int .i64 x] w fun e w' => e = .returned (.bool true) ∧ w = w' := by
  have R := Lib.hid (fun W => in25_yes h W)
  clear h
  go_enter Try.func24, Try.ntmps24
  go_wp2_with (first | (go_at_call 25; refine (R.out _).mono ?_; rintro e w1 ⟨rfl, h1⟩; obtain rfl := h1.symm))
  go_ret
  exact ⟨rfl, rfl⟩

end Go.Proofs.Ytdmegfbeibbmfaa
/- Contracts: isJob of a job as defined. No condition beyond that. -/
namespace Go.Proofs.Ytdmegfbeibbmfaa
open Go.RowKit Go.My Go.GoldM

set_option maxRecDepth 100000 in
set_option maxHeartbeats 1000000 in
theorem ground28 {g : Gr} (h : g.rl ≤ g.rh ∧ g.rh ≤ g.ll ∧ g.ll ≤ g.lh ∧ g.lh ≤ 12) (w : World) : Calls Try.prog 28 #[grV g] w fun e w' => e = .returned (.bool true) ∧ Ext w w' := by
  obtain ⟨a, b, c, d⟩ := g
  simp only at h
  obtain ⟨h1, h2, h3, h4⟩ := h
  have k0 : (0 : Int) ≤ (a : Int) := by omega
  have k1 : (a : Int) ≤ (b : Int) := by omega
  have k2 : (b : Int) ≤ (c : Int) := by omega
  have k3 : (c : Int) ≤ (d : Int) := by omega
  have k4 : (d : Int) ≤ 12 := by omega
  go_enter Try.func28, Try.ntmps28
  go_wp2
  go_ret
  exact ⟨ret_bool (by simp [*]), (Ext.refl w).alloc _⟩
set_option maxRecDepth 100000 in
set_option maxHeartbeats 1000000 in
theorem bad27 {g : Gr} (h : g.rl ≤ g.rh ∧ g.rh ≤ g.ll ∧ g.ll ≤ g.lh ∧ g.lh ≤ 12) (w : World) : Calls Try.prog 27 #[grV g] w fun e w' => e = .returned (.bool false) ∧ Ext w w' := by
  have R := Lib.hid (fun W => ground28 h W)
  clear h
  go_enter Try.func27, Try.ntmps27
  go_wp2_with (first | (go_at_call 28; refine (R.out _).mono ?_; rintro e w1 ⟨rfl, h1⟩))
  go_ret
  exact ⟨rfl, ((Ext.refl w).alloc _).trans h1⟩

set_option maxRecDepth 100000 in
set_option maxHeartbeats 1000000 in
theorem index50 (gs : List Gr) (h : ∀ g ∈ gs, g.rl ≤ g.rh ∧ g.rh ≤ g.ll ∧ g.ll ≤ g.lh ∧ g.lh ≤ 12) (hl : gs.length ≤ 1000) (o : Option Addr) (c : Nat) (w : World) (hg : GrsAt w o gs) :
    Calls Try.prog 50 #[.slice o gs.length c, .func (.func 27) #[] #[]] w fun e w' => e = .returned (.int .i64 (-1)) ∧ Ext w w' := by
  have H := Lib.hid hg
  have R := Lib.hid (fun k (hk : k < gs.length) W => bad27 (h _ (List.getElem_mem hk)) W)
  clear hg h
  go_enter Try.func50, Try.ntmps50
  go_wp2
  go_loopg [5, 8] gs.length (fun g j i wr => ∃ k : Nat, k + g = gs.length ∧ Ext w wr ∧ i = .int .i64 k)
  case atStart => exact ⟨0, by simp, Ext.refl w, rfl⟩
  case round =>
    obtain ⟨k, hk, hE, rfl⟩ := hrel
    have HE := Lib.hid hE
    by_cases hlt : k < gs.length
    · obtain ⟨b, off, ho, hb, k0, k1, k2, k3⟩ := (H.out.ext hE).at hlt
      subst ho
      have Rk := Lib.hid (R.out k hlt)
      have hltI : (k : Int) < (gs.length : Int) := by omega
      clear hE
      generalize gs[k] = g at *
      go_wp2_with (first | (go_at_call 27; refine (Rk.out _).mono ?_; rintro e w' ⟨rfl, hE'⟩))
      go_roundg (gk - 1)
      case measure => omega
      case rel => exact ⟨k + 1, by omega, HE.out.trans hE', by go_num⟩
    · obtain rfl : k = gs.length := by omega
      go_wp2
      go_ret
      exact ⟨rfl, HE.out⟩
set_option maxHeartbeats 400000 in
theorem contains26 (gs : List Gr) (h : ∀ g ∈ gs, g.rl ≤ g.rh ∧ g.rh ≤ g.ll ∧ g.ll ≤ g.lh ∧ g.lh ≤ 12) (hl : gs.length ≤ 1000) (o : Option Addr) (c : Nat) (w : World) (hg : GrsAt w o gs) :
    Calls Try.prog 26 #[.slice o gs.length c, .func (.func 27) #[] #[]] w fun e w' => e = .returned (.bool false) ∧ Ext w w' := by
  have R := Lib.hid (index50 gs h hl o c w hg)
  clear h hg
  go_enter Try.func26, Try.ntmps26
  go_wp2_with (first | (go_at_call 50; refine R.out.mono ?_; rintro e w' ⟨rfl, hE⟩))
  go_ret
  exact ⟨rfl, hE⟩

set_option maxRecDepth 100000 in
set_option maxHeartbeats 1000000 in
theorem bad30 {p : Pc} {n : Nat} (h : (1 ≤ p.w ∧ p.w ≤ 6) ∧ (1 ≤ p.h ∧ p.h ≤ 6) ∧ p.g < n) (hn : n ≤ 3) (b : Nat) (og : Option Addr) (cg : Nat) (w : World) (hb : w.cell? ⟨b, 4, none⟩ = some (.slice og n cg)) :
    Calls Try.prog 30 #[pcV p, .pointer (some ⟨b, 0, none⟩)] w fun e w' => e = .returned (.bool false) ∧ Ext w w' := by
  obtain ⟨pw, ph, pt, pg⟩ := p
  simp only at h
  have R1 := Lib.hid (fun W => side24 (x := (pw : Int)) (by omega) W)
  have R2 := Lib.hid (fun W => side24 (x := (ph : Int)) (by omega) W)
  have R3 := Lib.hid (fun W => in25_yes (x := (pg : Int)) (a := 0) (b := (n : Int) - 1) (by omega) W)
  have q : IntKind.i64.wrap ((n : Int) - 1) = (n : Int) - 1 := by rw [IntWalk.i64_in _ (by omega)]
  have hlt := World.block_lt_of_cell? _ _ hb
  have hne := Nat.ne_of_lt hlt
  simp only at hlt hne
  clear h
  go_enter Try.func30, Try.ntmps30
  have T1 := Lib.hid trivial
  have T2 := Lib.hid trivial
  go_wp2_with (first | (go_at_call 24; have t0 := T1; clear t0 T1; refine (R1.out _).mono ?_; rintro e w1 ⟨rfl, h1⟩; obtain rfl := h1.symm) | (go_at_call 24; have t0 := T2; clear t0 T2; refine (R2.out _).mono ?_; rintro e w2 ⟨rfl, h2⟩; obtain rfl := h2.symm) | (go_at_call 25; refine (R3.out _).mono ?_; rintro e w3 ⟨rfl, h3⟩; obtain rfl := h3.symm))
  go_ret
  exact ⟨rfl, (Ext.refl w).alloc _⟩

set_option maxRecDepth 100000 in
set_option maxHeartbeats 1000000 in
theorem index51 (ps : List Pc) {n : Nat} (h : ∀ p ∈ ps, (1 ≤ p.w ∧ p.w ≤ 6) ∧ (1 ≤ p.h ∧ p.h ≤ 6) ∧ p.g < n) (hn : n ≤ 3) (hl : ps.length ≤ 1000) (o : Option Addr) (c b : Nat) (og : Option Addr) (cg : Nat) (w : World) (hg : PcsAt w o ps) (hb : w.cell? ⟨b, 4, none⟩ = some (.slice og n cg)) :
    Calls Try.prog 51 #[.slice o ps.length c, .func (.func 30) #[] #[.pointer (some ⟨b, 0, none⟩)]] w fun e w' => e = .returned (.int .i64 (-1)) ∧ Ext w w' := by
  have H := Lib.hid hg
  have R := Lib.hid (fun k (hk : k < ps.length) W (hE : Ext w W) => bad30 (h _ (List.getElem_mem hk)) hn b og cg W (cell_ext hE hb))
  clear hg h hb
  go_enter Try.func51, Try.ntmps51
  go_wp2
  go_loopg [5, 8] ps.length (fun g j i wr => ∃ k : Nat, k + g = ps.length ∧ Ext w wr ∧ i = .int .i64 k)
  case atStart => exact ⟨0, by simp, Ext.refl w, rfl⟩
  case round =>
    obtain ⟨k, hk, hE, rfl⟩ := hrel
    have HE := Lib.hid hE
    by_cases hlt : k < ps.length
    · obtain ⟨b', off, ho, hb', k0, k1, k2, k3⟩ := (H.out.ext hE).at hlt
      subst ho
      have Rk := Lib.hid (R.out k hlt)
      have hltI : (k : Int) < (ps.length : Int) := by omega
      clear hE
      generalize ps[k] = p at *
      go_wp2_with (first | (go_at_call 30; refine (Rk.out _ HE.out).mono ?_; rintro e w' ⟨rfl, hE'⟩))
      go_roundg (gk - 1)
      case measure => omega
      case rel => exact ⟨k + 1, by omega, HE.out.trans hE', by go_num⟩
    · obtain rfl : k = ps.length := by omega
      go_wp2
      go_ret
      exact ⟨rfl, HE.out⟩
set_option maxHeartbeats 400000 in
theorem contains29 (ps : List Pc) {n : Nat} (h : ∀ p ∈ ps, (1 ≤ p.w ∧ p.w ≤ 6) ∧ (1 ≤ p.h ∧ p.h ≤ 6) ∧ p.g < n) (hn : n ≤ 3) (hl : ps.length ≤ 1000) (o : Option Addr) (c b : Nat) (og : Option Addr) (cg : Nat) (w : World) (hg : PcsAt w o ps) (hb : w.cell? ⟨b, 4, none⟩ = some (.slice og n cg)) :
    Calls Try.prog 29 #[.slice o ps.length c, .func (.func 30) #[] #[.pointer (some ⟨b, 0, none⟩)]] w fun e w' => e = .returned (.bool false) ∧ Ext w w' := by
  have R := Lib.hid (index51 ps h hn hl o c b og cg w hg hb)
  clear h hg hb
  go_enter Try.func29, Try.ntmps29
  go_wp2_with (first | (go_at_call 51; refine R.out.mono ?_; rintro e w' ⟨rfl, hE⟩))
  go_ret
  exact ⟨rfl, hE⟩

/-- A job's memory. -/
structure JAt (w : World) (j : Jb) (og : Option Addr) (op : Option Addr) : Prop where
  gs : GrsAt w og j.grounds
  ps : PcsAt w op j.pieces
theorem JAt.ext {w w' : World} {j : Jb} {og op : Option Addr} (h : JAt w j og op) (hE : Ext w w') : JAt w' j og op := ⟨h.gs.ext hE, h.ps.ext hE⟩

set_option maxRecDepth 100000 in
set_option maxHeartbeats 4000000 in
theorem isJob13 (j : Jb) (f : Fine j) (og op : Option Addr) (cg cp : Nat) (w : World) (h : JAt w j og op) :
    Calls Try.prog 13 #[jobV j og cg op cp] w fun e w' => e = .returned (.bool true) ∧ Ext w w' := by
  have H := Lib.hid h
  have B := Lib.hid (VB.new w (jobL' j og cg op cp) 30)
  have R1 := Lib.hid (fun W => side24 (x := (j.wide : Int)) (by have := f.wide; omega) W)
  have R2 := Lib.hid (fun W => side24 (x := (j.high : Int)) (by have := f.high; omega) W)
  have R3 := Lib.hid (fun W => in25_yes (x := (j.book : Int)) (a := 1) (b := 25) (by have := f.book; omega) W)
  have R4 := Lib.hid (fun W => in25_yes (x := (j.spoilt : Int)) (a := 0) (b := (j.book : Int) - 1) (by have := f.spoilt; omega) W)
  have R5 := Lib.hid (fun W => in25_yes (x := (j.grounds.length : Int)) (a := 1) (b := 3) (by have := f.gl; omega) W)
  have R6 := Lib.hid (fun W => in25_yes (x := (j.pieces.length : Int)) (a := 1) (b := 5) (by have := f.pl; omega) W)
  have R7 := Lib.hid (fun W (hE : Ext w W) => contains26 j.grounds f.gr (by have := f.gl; omega) og cg W (H.out.gs.ext hE))
  have R8 := Lib.hid (fun W (hE : Ext w W) b (hb : W.cell? ⟨b, 4, none⟩ = some (.slice og j.grounds.length cg)) => contains29 j.pieces f.pc f.gl.2 (by have := f.pl; omega) op cp b og cg W (H.out.ps.ext hE) hb)
  have q : IntKind.i64.wrap ((j.book : Int) - 1) = (j.book : Int) - 1 := by have := f.book; rw [IntWalk.i64_in _ (by omega)]
  have hE0 := Lib.hid ((Ext.refl w).alloc (.cells (jobL' j og cg op cp).toArray 30))
  clear h f
  go_enter Try.func13, Try.ntmps13
  have T1 := Lib.hid trivial
  have T2 := Lib.hid trivial
  have T3 := Lib.hid trivial
  have T4 := Lib.hid trivial
  have T5 := Lib.hid trivial
  have T6 := Lib.hid trivial
  go_wp2_with (first | (go_at_call 24; have t0 := T1; clear t0 T1; refine (R1.out _).mono ?_; rintro e w1 ⟨rfl, h1⟩; obtain rfl := h1.symm) | (go_at_call 24; have t0 := T2; clear t0 T2; refine (R2.out _).mono ?_; rintro e w2 ⟨rfl, h2⟩; obtain rfl := h2.symm) | (go_at_call 25; have t0 := T3; clear t0 T3; refine (R3.out _).mono ?_; rintro e w3 ⟨rfl, h3⟩; obtain rfl := h3.symm) | (go_at_call 25; have t0 := T4; clear t0 T4; refine (R4.out _).mono ?_; rintro e w3 ⟨rfl, h3⟩; obtain rfl := h3.symm) | (go_at_call 25; have t0 := T5; clear t0 T5; refine (R5.out _).mono ?_; rintro e w3 ⟨rfl, h3⟩; obtain rfl := h3.symm) | (go_at_call 25; have t0 := T6; clear t0 T6; refine (R6.out _).mono ?_; rintro e w3 ⟨rfl, h3⟩; obtain rfl := h3.symm) | (go_at_call 26; refine (R7.out _ hE0.out).mono ?_; rintro e w4 ⟨rfl, hE4⟩; have b5 := (B.out.ext hE4) 5 _ rfl; have b4 := (B.out.ext hE4) 4 _ rfl) | (go_at_call 29; refine (R8.out _ (hE0.out.trans hE4) _ b4).mono ?_; rintro e w5 ⟨rfl, hE5⟩))
  go_ret
  exact ⟨rfl, (hE0.out.trans hE4).trans hE5⟩

end Go.Proofs.Ytdmegfbeibbmfaa
/- Contracts: alone, sum. No condition beyond small numbers. -/
namespace Go.Proofs.Ytdmegfbeibbmfaa
open Go.RowKit Go.My Go.GoldM

abbrev restV (w h set : Nat) : Value := .agg #[I w, I h, I set]
abbrev upL (l : List Nat) : List Int := l.map fun (n : Nat) => (n : Int)
theorem upL_length (l : List Nat) : (upL l).length = l.length := by simp

set_option maxRecDepth 100000 in
set_option maxHeartbeats 4000000 in
theorem alone83 (p : Pc) (rw' rh set : Nat) (w : World) : Calls Try.prog 83 #[pcV p, restV rw' rh set] w fun e w' => e = .returned (.bool (alone p rw' rh)) ∧ Ext w w' := by
  obtain ⟨pw, ph, pt, pg⟩ := p
  have hE : Ext w ((w.alloc (.cells #[I pw, I ph, .bool pt, I pg] 32)).alloc (.cells #[I rw', I rh, I set] 139)) := ((Ext.refl w).alloc _).alloc _
  have HE := Lib.hid hE
  clear hE
  by_cases a1 : pw ≤ rw'
  · have b1 : (pw : Int) ≤ (rw' : Int) := by omega
    by_cases a2 : ph ≤ rh
    · have b2 : (ph : Int) ≤ (rh : Int) := by omega
      rw [show alone ⟨pw, ph, pt, pg⟩ rw' rh = true by simp [alone, a1, a2]]
      clear a1 a2
      go_enter Try.func83, Try.ntmps83
      go_wp2
      go_ret
      exact ⟨rfl, HE.out⟩
    · have b2 : ¬ (ph : Int) ≤ (rh : Int) := by omega
      cases pt
      · rw [show alone ⟨pw, ph, false, pg⟩ rw' rh = false by simp [alone, a2]]
        clear a1 a2
        go_enter Try.func83, Try.ntmps83
        go_wp2
        go_ret
        exact ⟨rfl, HE.out⟩
      · by_cases a3 : ph ≤ rw'
        · have b3 : (ph : Int) ≤ (rw' : Int) := by omega
          by_cases a4 : pw ≤ rh
          · have b4 : (pw : Int) ≤ (rh : Int) := by omega
            rw [show alone ⟨pw, ph, true, pg⟩ rw' rh = true by simp [alone, a3, a4]]
            clear a1 a2 a3 a4
            go_enter Try.func83, Try.ntmps83
            go_wp2
            go_ret
            exact ⟨rfl, HE.out⟩
          · have b4 : ¬ (pw : Int) ≤ (rh : Int) := by omega
            rw [show alone ⟨pw, ph, true, pg⟩ rw' rh = false by simp [alone, a2, a4]]
            clear a1 a2 a3 a4
            go_enter Try.func83, Try.ntmps83
            go_wp2
            go_ret
            exact ⟨rfl, HE.out⟩
        · have b3 : ¬ (ph : Int) ≤ (rw' : Int) := by omega
          rw [show alone ⟨pw, ph, true, pg⟩ rw' rh = false by simp [alone, a2, a3]]
          clear a1 a2 a3
          go_enter Try.func83, Try.ntmps83
          go_wp2
          go_ret
          exact ⟨rfl, HE.out⟩
  · have b1 : ¬ (pw : Int) ≤ (rw' : Int) := by omega
    cases pt
    · rw [show alone ⟨pw, ph, false, pg⟩ rw' rh = false by simp [alone, a1]]
      clear a1
      go_enter Try.func83, Try.ntmps83
      go_wp2
      go_ret
      exact ⟨rfl, HE.out⟩
    · by_cases a3 : ph ≤ rw'
      · have b3 : (ph : Int) ≤ (rw' : Int) := by omega
        by_cases a4 : pw ≤ rh
        · have b4 : (pw : Int) ≤ (rh : Int) := by omega
          rw [show alone ⟨pw, ph, true, pg⟩ rw' rh = true by simp [alone, a3, a4]]
          clear a1 a3 a4
          go_enter Try.func83, Try.ntmps83
          go_wp2
          go_ret
          exact ⟨rfl, HE.out⟩
        · have b4 : ¬ (pw : Int) ≤ (rh : Int) := by omega
          rw [show alone ⟨pw, ph, true, pg⟩ rw' rh = false by simp [alone, a1, a4]]
          clear a1 a3 a4
          go_enter Try.func83, Try.ntmps83
          go_wp2
          go_ret
          exact ⟨rfl, HE.out⟩
      · have b3 : ¬ (ph : Int) ≤ (rw' : Int) := by omega
        rw [show alone ⟨pw, ph, true, pg⟩ rw' rh = false by simp [alone, a1, a3]]
        clear a1 a3
        go_enter Try.func83, Try.ntmps83
        go_wp2
        go_ret
        exact ⟨rfl, HE.out⟩

theorem sum_take_succ {l : List Int} {k : Nat} (hk : k < l.length) : (l.take (k + 1)).sum = (l.take k).sum + l[k] := by
  rw [List.take_succ_eq_append_getElem hk, List.sum_append]; simp only [List.sum_cons, List.sum_nil, Int.add_zero]
theorem sum_grow {l : List Int} (h : ∀ x ∈ l, 0 ≤ x ∧ x ≤ 10000) : ∀ k, 0 ≤ (l.take k).sum ∧ (l.take k).sum ≤ 10000 * k := by
  intro k
  induction k with
  | zero => simp
  | succ k ih =>
    by_cases hk : k < l.length
    · have := h _ (List.getElem_mem hk)
      rw [sum_take_succ hk]
      omega
    · rw [List.take_of_length_le (by omega)]
      rw [List.take_of_length_le (by omega)] at ih
      omega
theorem sum_up (l : List Nat) : (upL l).sum = (l.sum : Nat) := by
  induction l with
  | nil => rfl
  | cons x l ih => simp only [upL, List.map_cons, List.sum_cons, Int.natCast_add] at ih ⊢; rw [ih]
set_option maxHeartbeats 1000000 in
theorem sum88 (l : List Int) (oa : Option Addr) (cap : Nat) (w : World) (h : IntsAt w oa l) (hl : l.length ≤ 1000) (h8 : ∀ x ∈ l, 0 ≤ x ∧ x ≤ 10000) :
    Calls Try.prog 88 #[.slice oa l.length cap] w fun e w' => e = .returned (.int .i64 l.sum) ∧ w = w' := by
  have H := Lib.hid h
  have H8 := Lib.hid (sum_grow h8)
  clear h h8
  go_enter Try.func88, Try.ntmps88
  go_wp2
  go_loopg [3, 5, 8] l.length (fun g v x i wr => ∃ k : Nat, k + g = l.length ∧ wr = w ∧ i = .int .i64 k ∧ v = .int .i64 (l.take k).sum)
  case atStart => exact ⟨0, by simp, rfl, rfl, by simp⟩
  case round =>
    obtain ⟨k, hk, rfl, rfl, rfl⟩ := hrel
    have b1 := H8.out k
    by_cases hlt : k < l.length
    · obtain ⟨b, off, hob, hb, hc⟩ := H.out.at hlt
      subst hob
      have b2 := H8.out (k + 1)
      have hs := sum_take_succ hlt
      rw [hs] at b2
      have Hs := Lib.hid hs
      clear hs
      generalize (l.take k).sum = S at *
      generalize l[k] = x at *
      have q1 : IntKind.i64.wrap (S + x) = S + x := by rw [IntWalk.i64_in _ (by omega)]
      go_wp2
      go_roundg (gk - 1)
      case measure => omega
      case rel => exact ⟨k + 1, by omega, rfl, by go_num, by rw [Hs.out]⟩
    · have hs : (l.take k).sum = l.sum := by rw [List.take_of_length_le (by omega)]
      rw [hs]
      go_wp2
      go_ret
      exact ⟨rfl, rfl⟩

set_option maxHeartbeats 1000000 in
theorem sum36 (l : List Int) (oa : Option Addr) (cap : Nat) (w : World) (h : IntsAt w oa l) (hl : l.length ≤ 1000) (h8 : ∀ x ∈ l, 0 ≤ x ∧ x ≤ 10000) :
    Calls Try.prog 36 #[.slice oa l.length cap] w fun e w' => e = .returned (.int .i64 l.sum) ∧ w = w' := by
  have H := Lib.hid h
  have H8 := Lib.hid (sum_grow h8)
  clear h h8
  go_enter Try.func36, Try.ntmps36
  go_wp2
  go_loopg [3, 5, 8] l.length (fun g v x i wr => ∃ k : Nat, k + g = l.length ∧ wr = w ∧ i = .int .i64 k ∧ v = .int .i64 (l.take k).sum)
  case atStart => exact ⟨0, by simp, rfl, rfl, by simp⟩
  case round =>
    obtain ⟨k, hk, rfl, rfl, rfl⟩ := hrel
    have b1 := H8.out k
    by_cases hlt : k < l.length
    · obtain ⟨b, off, hob, hb, hc⟩ := H.out.at hlt
      subst hob
      have b2 := H8.out (k + 1)
      have hs := sum_take_succ hlt
      rw [hs] at b2
      have Hs := Lib.hid hs
      clear hs
      generalize (l.take k).sum = S at *
      generalize l[k] = x at *
      have q1 : IntKind.i64.wrap (S + x) = S + x := by rw [IntWalk.i64_in _ (by omega)]
      go_wp2
      go_roundg (gk - 1)
      case measure => omega
      case rel => exact ⟨k + 1, by omega, rfl, by go_num, by rw [Hs.out]⟩
    · have hs : (l.take k).sum = l.sum := by rw [List.take_of_length_le (by omega)]
      rw [hs]
      go_wp2
      go_ret
      exact ⟨rfl, rfl⟩


end Go.Proofs.Ytdmegfbeibbmfaa
/- Bits of small numbers. No condition beyond that. -/
namespace Go.Proofs.Ytdmegfbeibbmfaa
open Go.RowKit Go.My Go.GoldM

theorem and32F : ∀ a b : Fin 32, bits BinOp.and IntKind.i64 (a.val : Int) (b.val : Int) = ((a.val &&& b.val : Nat) : Int) := by decide +kernel
theorem or32F : ∀ a b : Fin 32, bits BinOp.or IntKind.i64 (a.val : Int) (b.val : Int) = ((a.val ||| b.val : Nat) : Int) := by decide +kernel
theorem not32F : ∀ a b : Fin 32, a.val &&& b.val = b.val → bits BinOp.andNot IntKind.i64 (a.val : Int) (b.val : Int) = ((a.val - b.val : Nat) : Int) := by decide +kernel
theorem and32 {a b : Nat} (ha : a < 32) (hb : b < 32) : bits BinOp.and IntKind.i64 (a : Int) (b : Int) = ((a &&& b : Nat) : Int) := and32F ⟨a, ha⟩ ⟨b, hb⟩
theorem or32 {a b : Nat} (ha : a < 32) (hb : b < 32) : bits BinOp.or IntKind.i64 (a : Int) (b : Int) = ((a ||| b : Nat) : Int) := or32F ⟨a, ha⟩ ⟨b, hb⟩
theorem not32 {a b : Nat} (ha : a < 32) (hb : b < 32) (h : a &&& b = b) : bits BinOp.andNot IntKind.i64 (a : Int) (b : Int) = ((a - b : Nat) : Int) := not32F ⟨a, ha⟩ ⟨b, hb⟩ h
theorem shlF : ∀ k : Fin 5, IntKind.i64.wrap (2 ^ min k.val 64) = ((1 <<< k.val : Nat) : Int) := by decide +kernel
theorem shl5 {k : Nat} (hk : k < 5) : IntKind.i64.wrap (2 ^ min k 64) = ((1 <<< k : Nat) : Int) := shlF ⟨k, hk⟩
theorem shlpF : ∀ k : Fin 5, IntKind.i64.wrap (2 ^ k.val) = ((1 <<< k.val : Nat) : Int) := by decide +kernel
theorem shl5p {k : Nat} (hk : k < 5) : IntKind.i64.wrap (2 ^ k) = ((1 <<< k : Nat) : Int) := shlpF ⟨k, hk⟩
theorem shl_lt : ∀ k : Fin 5, 1 <<< k.val < 32 := by decide +kernel
theorem shl_lt5 {k : Nat} (hk : k < 5) : 1 <<< k < 32 := shl_lt ⟨k, hk⟩
theorem and_ltF : ∀ a b : Fin 32, a.val &&& b.val < 32 ∧ a.val &&& b.val ≤ a.val ∧ a.val &&& b.val ≤ b.val ∧ a.val ||| b.val < 32 := by decide +kernel
theorem and_lt {a b : Nat} (ha : a < 32) (hb : b < 32) : a &&& b < 32 ∧ a &&& b ≤ a ∧ a &&& b ≤ b ∧ a ||| b < 32 := and_ltF ⟨a, ha⟩ ⟨b, hb⟩
theorem and_subF : ∀ a b : Fin 32, a.val &&& (b.val &&& a.val) = b.val &&& a.val := by decide +kernel
theorem and_sub {a b : Nat} (ha : a < 32) (hb : b < 32) : a &&& (b &&& a) = b &&& a := and_subF ⟨a, ha⟩ ⟨b, hb⟩

end Go.Proofs.Ytdmegfbeibbmfaa
/- Contracts: small functions. No condition. -/
namespace Go.Proofs.Ytdmegfbeibbmfaa
open Go.RowKit Go.My Go.GoldM

set_option maxHeartbeats 400000 in
theorem one8 (n : Int) (w : World) : Calls Try.prog 8 #[.int .i64 n] w fun e w' => e = .returned (.agg #[.int .i64 n, .int .i64 n]) ∧ Ext w w' := by
  go_enter Try.func8, Try.ntmps8
  go_wp2
  refine bodyPost_ret (v := .agg #[.int .i64 n, .int .i64 n]) (results_cells (n := 2) rfl (by kernel_rfl) (by kernel_rfl) _ w.heap.size [.int .i64 n, .int .i64 n] rfl (by simp) (fun j v hv => ?_)) (by simp) ⟨rfl, ?_⟩
  · match j, hv with
    | 0, hv => cases hv; go_simp
    | 1, hv => cases hv; go_simp
  · first | exact (Ext.refl w).alloc _ | exact ext_set (ext_set ((Ext.refl w).alloc _) (Nat.le_refl _)) (Nat.le_refl _)

end Go.Proofs.Ytdmegfbeibbmfaa
/- Contract: the last of some hours. No condition beyond small lists. -/
namespace Go.Proofs.Ytdmegfbeibbmfaa
open Go.RowKit Go.My

def mxTo (l : List Int) : Int := l.foldl max 0
theorem mx_take_succ {l : List Int} {k : Nat} (hk : k < l.length) : mxTo (l.take (k + 1)) = max (mxTo (l.take k)) l[k] := by
  rw [List.take_succ_eq_append_getElem hk]; simp only [mxTo, List.foldl_append, List.foldl_cons, List.foldl_nil]
set_option maxHeartbeats 1000000 in
theorem last71 (l : List Int) (oa : Option Addr) (cap : Nat) (w : World) (h : IntsAt w oa l) (hl : l.length ≤ 1000) :
    Calls Try.prog 71 #[.slice oa l.length cap] w fun e w' => e = .returned (.int .i64 (mxTo l)) ∧ w = w' := by
  have H := Lib.hid h
  clear h
  go_enter Try.func71, Try.ntmps71
  go_wp2
  go_loopg [3, 5, 8] l.length (fun g v x i wr => ∃ k : Nat, k + g = l.length ∧ wr = w ∧ i = .int .i64 k ∧ v = .int .i64 (mxTo (l.take k)))
  case atStart => exact ⟨0, by simp, rfl, rfl, by simp [mxTo]⟩
  case round =>
    obtain ⟨k, hk, rfl, rfl, rfl⟩ := hrel
    by_cases hlt : k < l.length
    · obtain ⟨b, off, hob, hb, hc⟩ := H.out.at hlt
      subst hob
      have Hs := Lib.hid (mx_take_succ hlt)
      generalize mxTo (l.take k) = S at *
      generalize l[k] = x at *
      go_wp2
      · skip
        go_roundg (gk - 1)
        case measure => omega
        case rel => exact ⟨k + 1, by omega, rfl, by go_num, by rw [Hs.out]; congr 1; omega⟩
      · skip
        go_roundg (gk - 1)
        case measure => omega
        case rel => exact ⟨k + 1, by omega, rfl, by go_num, by rw [Hs.out]; congr 1; omega⟩
    · have hs : mxTo (l.take k) = mxTo l := by rw [List.take_of_length_le (by omega)]
      rw [hs]
      go_wp2
      go_ret
      exact ⟨rfl, rfl⟩

end Go.Proofs.Ytdmegfbeibbmfaa
