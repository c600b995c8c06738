/- The doors: the arguments' readings opened into rows and lists; a law's contract out of its walk; the world of the witness. No condition. -/
import Derived.Test.YtiehfpkcaoeieaaGreatDoorCards
import Derived.Test.YtiehfpkcaoeieaaGreatDoorTie
import Derived.Test.YtiehfpkcaoeieaaGreatDoorM5
import Derived.ProofKit
import Derived.OpenShut
import Derived.Carry
import Derived.Clock
import Derived.Deep.Matrix
import Derived.Deep.DeepHandedRow
import Derived.Lib.LaidTab
set_option linter.unusedVariables false
set_option linter.unusedSimpArgs false
namespace Go.Proofs.YtiehfpkcaoeieaaGreatDoor
open Go.ChangeShapes Go.WideShapes Go.ChangeAt Go.RowKit Go.My Go.Deep

theorem spot_none {w : World} {a : Addr} {v : Value} (h : w.cell? (a.add 0) = some v) : a = ⟨a.block, a.off, none⟩ := by
  obtain ⟨b, off, spot⟩ := a
  have hspot : spot = none := by simpa [Addr.add] using World.cell?_spot h
  subst hspot
  rfl

theorem ints_of {w : World} {oa : Option Addr} {len cap : Nat} {zs : List Int} (hl : len ≤ cap) (hz : zs.length = cap) (h : ∀ a, oa = some a → ∀ c, c < cap → w.cell? (a.add c) = some (.int .i64 (zs.getD c 0))) (hn : oa = none → cap = 0) : IntsAt w oa (zs.take len) := by
  intro i x hx
  rw [List.getElem?_take] at hx
  split at hx
  · rename_i hi
    cases oa with
    | none => have := hn rfl; omega
    | some a =>
      have hc := h a rfl i (by omega)
      have ha := spot_none (h a rfl 0 (by omega))
      obtain ⟨b, off, sp⟩ := a
      simp only [Addr.mk.injEq, true_and] at ha
      subst ha
      rw [add_none] at hc
      refine ⟨b, off, rfl, World.block_lt_of_cell? w _ hc, ?_⟩
      rw [hc, List.getD_eq_getElem?_getD, hx]; rfl
  · cases hx

section
variable {H : Type} {enc : TypeId × Value → H} {W : World} {d : DataW H} {p : List MemPlace} {v : Value}

theorem rows_open {n : Nat} {v : Value} {x : DataW H × List MemPlace} (h : DataW.trod enc Tryz.prog W 0 (fun _ => true) true n 22 [v] = some x) : ∃ ls, IsRows W v ls := by
  rcases open_int_rows Tryz.underlying22 Tryz.underlying27 Tryz.underlying3 (by kernel_rfl) (by kernel_rfl) h with ⟨h1, _⟩ | ⟨a, len, cap, A, L, C, Z, h1, _, hl, hm, _, hr⟩
  · have : v = .slice none 0 0 := by simpa using h1
    subst this
    exact ⟨[], none, 0, rfl, Nat.le_refl _, by decide, fun _ => rfl, fun i l hl => by simp at hl⟩
  · have : v = .slice (some a) len cap := by simpa using h1
    subst this
    refine ⟨(List.range len).map fun r => (Z r).take (L r), some a, cap, by simp, by simpa using hl, hm, (fun h => by cases h), fun i l hi => ?_⟩
    have hil : i < len := by
      have := (List.getElem?_eq_some_iff.1 hi).1
      simpa using this
    have hl2 : l = (Z i).take (L i) := by simpa [hil] using hi.symm
    obtain ⟨hc, r1, r2, r3, _, r5, r6⟩ := hr i (by omega)
    have ha := spot_none (hr 0 (by omega)).1
    obtain ⟨b, off, sp⟩ := a
    simp only [Addr.mk.injEq, true_and] at ha
    subst ha
    rw [add_none] at hc
    refine ⟨b, off, _, rfl, World.block_lt_of_cell? W _ hc, hc, A i, C i, ?_, ?_, r2, r5, ?_⟩
    · rw [hl2, List.length_take, r3, Nat.min_eq_left r1]
    · rw [hl2, List.length_take, r3, Nat.min_eq_left r1]; exact r1
    · rw [hl2]; exact ints_of r1 r3 (fun a ha c hcc => (r6 a ha).2 c hcc) r5

set_option maxRecDepth 100000 in
theorem list_open (h : DataW.Trod enc Tryz.prog W 0 (fun _ => true) true 27 v d p) (hval : Value.okWide Tryz.prog W .any 0 27 v) : ∃ l oa cap, v = .slice oa l.length cap ∧ l.length ≤ cap ∧ cap ≤ maxLen ∧ (oa = none → cap = 0) ∧ IntsAt W oa l := by
  obtain ⟨a0, len0, cap0, rfl⟩ := okWide_slice Tryz.underlying27 hval
  obtain ⟨n, hn⟩ := h
  rcases open_ints Tryz.underlying27 Tryz.underlying3 (by kernel_rfl) hn with ⟨h1, _⟩ | ⟨a, len, cap, zs, h1, _, hl, hm, hz, _, hc, _⟩
  · have : a0 = none ∧ len0 = 0 ∧ cap0 = 0 := by simpa [Value.cells] using h1
    obtain ⟨rfl, rfl, rfl⟩ := this
    exact ⟨[], none, 0, rfl, Nat.le_refl _, by decide, fun _ => rfl, fun i x hx => by simp at hx⟩
  · have : a0 = some a ∧ len0 = len ∧ cap0 = cap := by simpa [Value.cells] using h1
    obtain ⟨rfl, rfl, rfl⟩ := this
    simp only [if_true] at hz
    refine ⟨zs.take len0, some a, cap0, by rw [List.length_take, hz, Nat.min_eq_left hl], by rw [List.length_take, hz, Nat.min_eq_left hl]; exact hl, hm, (fun h => by cases h), ints_of hl hz (fun a' ha' c hcc => by cases ha'; exact hc c (by omega)) (fun h => by cases h)⟩

set_option maxRecDepth 100000 in
theorem board_open (h : DataW.Trod enc Tryz.prog W 0 (fun _ => true) true 24 v d p) (hval : Value.okWide Tryz.prog W .any 0 24 v) : ∃ (m : Int) (ls : List (List Int)) (oa : Option Addr) (cap : Nat), v = .agg #[.int .i64 m, .slice oa ls.length cap] ∧ ls.length ≤ cap ∧ cap ≤ maxLen ∧ (oa = none → cap = 0) ∧ RowsAt W oa ls := by
  obtain ⟨cs, rfl, hcs⟩ := okWide_struct Tryz.underlying24 hval
  obtain ⟨n, hn⟩ := h
  have h2 : cs.size = 2 := by rw [hcs]; kernel_rfl
  obtain ⟨x, y, rfl⟩ : ∃ x y, cs = #[x, y] := by
    obtain ⟨l⟩ := cs
    match l, h2 with
    | [x, y], _ => exact ⟨x, y, rfl⟩
  obtain ⟨y0, y1, k, _, _, h0, h1⟩ := trod_struct2 Tryz.underlying24 hn
  have e0 : DataW.trod enc Tryz.prog W 0 (fun _ => true) true k 3 [x] = some y0 := h0
  have e1 : DataW.trod enc Tryz.prog W 0 (fun _ => true) true k 22 [y] = some y1 := h1
  obtain ⟨m, hm, _⟩ := DataW.trod_int Tryz.underlying3 e0
  have : x = .int .i64 m := by simpa using hm
  subst this
  obtain ⟨ls, oa, cap, rfl, q1, q2, q3, q4⟩ := rows_open e1
  exact ⟨m, ls, oa, cap, rfl, q1, q2, q3, q4⟩

set_option maxRecDepth 100000 in
theorem int_open (h : DataW.Trod enc Tryz.prog W 0 (fun _ => true) true 3 v d p) (hval : Value.okWide Tryz.prog W .any 0 3 v) : ∃ m : Int, v = .int .i64 m ∧ -9223372036854775808 ≤ m ∧ m ≤ 9223372036854775807 := by
  obtain ⟨m, rfl, _, _, hw⟩ := open_int Tryz.underlying3 hval h
  simp only [Lit.wf, Bool.and_eq_true, decide_eq_true_eq] at hw
  exact ⟨m, rfl, hw.1, hw.2⟩

theorem trodAll_below {W' : World} (hb : Ext W W') {sp : Nat → Bool} : ∀ {ts : List TypeId} {vs : List Value} {ds : List (DataW H)} {ps : List MemPlace} (_ht : ∀ t ∈ ts, Tryz.prog.readableRec t = true ∧ t < Tryz.prog.types.size)
    (_h : DataW.TrodAll enc Tryz.prog W 0 (fun _ => true) true ts vs ds ps) (_hlt : ∀ x ∈ ps, x.block < W.heap.size) (_hs : ∀ x ∈ ps, sp x.block = true), DataW.TrodAll enc Tryz.prog W' 0 sp true ts vs ds ps
  | [], _, _, _, _, h, _, _ => by
    obtain ⟨rfl, rfl, rfl⟩ := trodAll_nil h
    exact trodAll_mk0
  | t :: ts, _, _, _, ht, h, hlt, hs => by
    obtain ⟨v0, vs0, d0, ds0, p0, q0, rfl, rfl, rfl, h0, r0⟩ := trodAll_cons h
    have h1 := ht t List.mem_cons_self
    exact trodAll_cons_mk (WideElems.Trod_stays (by kernel_rfl) h1.1 h1.2 h0 (fun x hx => hb.same (hlt x (List.mem_append_left _ hx))) (fun x hx => hs x (List.mem_append_left _ hx)))
      (trodAll_below hb (fun t' ht' => ht t' (List.mem_cons_of_mem _ ht')) r0 (fun x hx => hlt x (List.mem_append_right _ hx)) (fun x hx => hs x (List.mem_append_right _ hx)))
theorem trodAll_len : ∀ {ts : List TypeId} {vs : List Value} {ds : List (DataW H)} {ps : List MemPlace} (_h : DataW.TrodAll enc Tryz.prog W 0 (fun _ => true) true ts vs ds ps), ds.length = ts.length ∧ vs.length = ts.length
  | [], _, _, _, h => by obtain ⟨rfl, rfl, rfl⟩ := trodAll_nil h; exact ⟨rfl, rfl⟩
  | t :: ts, _, _, _, h => by
    obtain ⟨v0, vs0, d0, ds0, p0, q0, rfl, rfl, rfl, h0, r0⟩ := trodAll_cons h
    have := trodAll_len r0
    simp [this.1, this.2]

set_option maxRecDepth 100000 in
/-- A law's contract out of its walk. -/
theorem law_contract {f : Func} {fi : FuncId} {s : ChangeSpec} (hv : s.vars = []) (hr : f.resultTypes = #[4]) (hp : ∀ t ∈ f.params.toList, Tryz.prog.readableRec t = true ∧ t < Tryz.prog.types.size)
    (hfn : ∀ (H : Type) (ds : List (DataW H)), ds.length = f.params.size → s.fn H ds = { results := [.lit (.bool true)], args := ds }) {args : Array Value} {ds gs : List (DataW H)} {before : List MemPlace}
    (hW : DataW.Whole enc Tryz.prog f.params.toList s.vars false W args.toList ds gs before) (hc : Calls Tryz.prog fi args W fun e W' => e = .returned (.bool true) ∧ Ext W W') :
    Calls Tryz.prog fi args W fun e W' => ∃ v, e = .returned v ∧ s.post enc Tryz.prog f false true false false W args v W' := by
  have hW' := hW
  obtain ⟨p, q, hA, hV, rfl, hfz, hnd⟩ := hW
  rw [hv] at hV
  obtain ⟨rfl, rfl⟩ := trodVars_none hV
  have hfn' := hfn H (ds ++ []) (by rw [List.append_nil, (trodAll_len hA).1]; simp)
  refine hc.mono fun e W' ⟨he, hE⟩ => ?_
  subst he
  have hpl : ∀ x ∈ p, x.block < W.heap.size := fun x hx => by simpa using hW'.lt x (by simpa using hx)
  have hargs : ∀ sp : Nat → Bool, (∀ x ∈ p, sp x.block = true) → DataW.TrodAll enc Tryz.prog W' 0 sp true f.params.toList args.toList (s.fn H (ds ++ [])).args p := fun sp hsp => by
    rw [hfn']
    simp only [List.append_nil]
    exact trodAll_below hE hp hA hpl hsp
  have hres : ∀ (b : Nat) (sp : Nat → Bool) (hd : Bool), DataW.TrodAll enc Tryz.prog W' b sp hd f.resultTypes.toList ((Value.bool true).resultList f.resultTypes.size) (s.fn H (ds ++ [])).results [] := fun b sp hd => by
    rw [hfn', hr]
    exact trodAll_cons_mk (shut_bool Tryz.underlying4 _) trodAll_mk0
  have hvars : ∀ sp : Nat → Bool, DataW.TrodVars enc Tryz.prog W' sp s.vars (s.fn H (ds ++ [])).vars [] := fun sp => by
    rw [hv, hfn']
    rfl
  refine ⟨_, rfl, ds, [], p ++ [], [], p, [], hW', hres _ _ _, hargs _ (fun x hx => by simpa using hpl x hx), hvars _, World.keptBut_mono (fun x hx => ⟨hx, Or.inr (by simpa using hx)⟩) (hE.frame _), fun _ => ?_⟩
  refine ⟨ok_one hr rfl (okWide_bool_mk Tryz.underlying4 true), _, _, ([] ++ p) ++ [], ⟨[] ++ p, [], trodAll_append (hargs _ (fun _ _ => rfl)) (hres _ _ _), hvars _, rfl, fun b off hx => ?_, fun ha => by simpa using hnd ha⟩, fun x hx _ => by simpa using hx⟩
  have hx' : MemPlace.cell b off ∈ p := by simpa using hx
  rw [hE.frozen (by exact hpl _ hx')]
  exact hfz b off (by simpa using hx')
end

set_option maxRecDepth 100000 in
/-- The cell of bytealg.MaxLen holds some number. -/
theorem maxLen_cell {W : World} (h : W.ShapedOpen Tryz.prog) : ∃ m, W.cell? ⟨1, 0, none⟩ = some (.int .i64 m) := by
  obtain ⟨cs, hh, hs, hr⟩ := h.1 1 #[.int .i64 0] 3 (of_decide_eq_true (by kernel_rfl)) (by kernel_rfl)
  obtain ⟨ts, hts, _, hall⟩ := hr (by kernel_rfl)
  have hts' : Tryz.prog.cellTypes Tryz.prog.depth 3 = some [3] := by kernel_rfl
  rw [hts'] at hts
  cases hts
  have h1 : 0 < cs.size := by rw [hs]; decide
  obtain ⟨u, hu', hok⟩ := hall 0 cs[0] (by simp [h1])
  have : u = 3 := by simpa using hu'.symm
  subst this
  have hcell : W.cell? ⟨1, 0, none⟩ = some cs[0] := by simp [World.cell?, hh, h1]
  rw [hcell]
  unfold Cell.ok at hok
  rw [Tryz.underlying3] at hok
  cases hv : cs[0] <;> rw [hv] at hok <;> first | (simp at hok; done) | skip
  obtain ⟨hk, _⟩ := hok
  rw [hk]
  exact ⟨_, rfl⟩

/-- What the initialisers lay, as cells. -/
def lit1 : DataW Unit → Value
  | .lit (.int k n) => .int k n
  | _ => undef
def lits1 : DataW Unit → List Value
  | .agg l => l.map lit1
  | _ => []
def lits2 : DataW Unit → List Value
  | .agg l => l.flatMap lits1
  | _ => []
def putCells (cs : List Value) : Obj → Obj
  | .cells _ t frozen => .cells cs.toArray t frozen
  | o => o
/-- A world for the witness: the settled one, the tables holding what their initialisers lay. -/
noncomputable def laidWorld (os : Os) : World :=
  { World.holding Tryz.prog os ⟨#[], #[], []⟩ with heap := (((((World.holding Tryz.prog os ⟨#[], #[], []⟩).heap.modify 0 (putCells (lits1 Rows.laid_internal_strconv_uint64pow10))).modify 2 (putCells (lits1 Rows.laid_unicode_utf8_first))).modify 3 (putCells (lits2 Rows.laid_unicode_utf8_acceptRanges))).modify 4 (putCells (lits1 Rows.laid_math_bits_deBruijn32tab))).modify 5 (putCells (lits1 Rows.laid_math_bits_deBruijn64tab)) }

end Go.Proofs.YtiehfpkcaoeieaaGreatDoor
