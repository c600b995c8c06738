/- StripMore answers true of every argument, and leaves all as they were. No condition but the row's own: the tables it lists hold what their initialisers lay. -/
import Derived.Test.YtiehfpkcaoeieaaGreatDoorGate
import Derived.Test.YtiehfpkcaoeieaaGreatDoorClosed
import Derived.Test.YtiehfpkcaoeieaaGreatDoorClosed2
import Derived.Test.YtiehfpkcaoeieaaGreatDoorL17
set_option linter.unusedVariables false
set_option linter.unusedSimpArgs false
namespace Go.Proofs.YtiehfpkcaoeieaaGreatDoor.C17
open Go.ChangeShapes Go.WideShapes Go.ChangeAt Go.RowKit Go.My Go.Deep

set_option maxRecDepth 100000 in
theorem contract (H : Type) (enc : TypeId × Value → H) (W : World) (base : Nat) (args : Array Value) (ds gs : List (DataW H)) (before : List MemPlace)
    (hval : ∀ (j : Nat) t v, Tryz.f17.params[j]? = some t → args[j]? = some v → Value.okWide Tryz.prog W .any base t v)
    (hW : DataW.Whole enc Tryz.prog Tryz.f17.params.toList Rows.stripMoreSpec.vars false W args.toList ds gs before) (hS : W.ShapedOpen Tryz.prog) :
    Calls Tryz.prog 17 args W fun e W' => ∃ v, e = .returned v ∧ Rows.stripMoreSpec.post enc Tryz.prog Tryz.f17 false true false false W args v W' := by
  obtain ⟨m, hm⟩ := maxLen_cell hS
  have hW' := hW
  obtain ⟨p, q, hA0, _⟩ := hW
  have hA : DataW.TrodAll enc Tryz.prog W 0 (fun _ => true) true Tryz.f17.params.toList args.toList ds p := hA0
  rw [Tryz.params17] at hA hval
  obtain ⟨v0, vs0, d0, ds0, p0, q0, ha0, rfl, rfl, h0, r0⟩ := trodAll_cons hA
  obtain ⟨v1, vs1, d1, ds1, p1, q1, rfl, rfl, rfl, h1, r1⟩ := trodAll_cons r0
  obtain ⟨v2, vs2, d2, ds2, p2, q2, rfl, rfl, rfl, h2, r2⟩ := trodAll_cons r1
  obtain ⟨rfl, rfl, rfl⟩ := trodAll_nil r2
  obtain rfl : args = #[v0, v1, v2] := by cases args; simp_all
  obtain ⟨n0, ls0, oa0, cap0, rfl, a0, b0, c0, e0⟩ := board_open h0 (Value.okWide_any_base (hval 0 24 v0 rfl rfl))
  obtain ⟨x1, rfl, a1, b1⟩ := int_open h1 (Value.okWide_any_base (hval 1 3 v1 rfl rfl))
  obtain ⟨l2, ob2, cb2, rfl, a2, b2, c2, e2⟩ := list_open h2 (Value.okWide_any_base (hval 2 27 v2 rfl rfl))
  refine law_contract rfl (by kernel_rfl) ?_ (fun H ds h => ?_) hW' (law17 ⟨e0, a0, b0, c0⟩ a1 b1 ⟨e2, a2, b2, c2⟩ m hm)
  · rw [Tryz.params17]
    intro t ht
    rcases (by simpa using ht : t = 24 ∨ t = 3 ∨ t = 27) with rfl | rfl | rfl <;> exact ⟨by kernel_rfl, of_decide_eq_true (by kernel_rfl)⟩
  · have h' : ds.length = 3 := by rw [h]; kernel_rfl
    match ds, h' with
    | [_, _, _], _ => rfl

abbrev wargs : Array Value := #[.agg #[.int .i64 0, .slice none 0 0], .int .i64 0, .slice none 0 0]
theorem laid_met (os : Os) : laidMet Tryz.prog Rows.stripMoreRow.laid ((laidWorld os).forCall (fun _ _ => 0) ⟨#[], wargs, []⟩).memory :=
  laidMet_of_run' 8 (by kernel_rfl) (by kernel_rfl)
theorem reads (os : Os) {H : Type} (enc : TypeId × Value → H) : ∃ places, DataW.whole enc Tryz.prog ((laidWorld os).forCall (fun _ _ => 0) ⟨#[], wargs, []⟩).memory Tryz.f17.params.toList Rows.stripMoreSpec.vars false wargs.toList 8 = some ([.agg [.lit (.int .i64 0), .nil], .lit (.int .i64 0), .nil], [], places) :=
  ⟨[], by kernel_rfl⟩

set_option maxRecDepth 100000 in
theorem lifted (os : Os) (started : os.Started) (H : Type) (enc : TypeId × Value → H) (F : Stop.Interp) :
    ReturnsInHanded {} Tryz.checked os 17 .any ((OpenSpec.ofChange Rows.stripMoreSpec).preRow enc Tryz.prog Tryz.f17 Rows.stripMoreRow.domain false Rows.stripMoreRow.laid) (((OpenSpec.ofChange Rows.stripMoreSpec).at F).post enc Tryz.prog Tryz.f17 false true false false) := by
  obtain ⟨places, hx⟩ := reads os enc
  refine returnsInHanded_of_row (C := Tryz.checked) (s := OpenSpec.ofChange Rows.stripMoreSpec) (show ownKnob Tryz.prog.godebug = none by kernel_rfl) started (by kernel_rfl) Tryz.func17
    (witness_row_at (enc := enc) (C := Tryz.checked) false (laidWorld os) wargs rfl (by kernel_rfl) (by kernel_rfl) (by kernel_rfl)
      (OpenSpec.preRow_of_cond 8 hx (by kernel_rfl) (fun k hk => by cases hk) (by kernel_rfl) (laid_met os))) ?_
  intro W base args ds gs before hval hW _ _ _ _ hS _
  exact contract H enc W base args ds gs before hval hW hS

theorem fIn : (Rows.stripMoreRow.inPlace == Tryz.prog.inPlace 17) = true := by kernel_rfl
theorem fUn : (Rows.stripMoreRow.unfollowed == Tryz.prog.unfollowed 17) = true := by kernel_rfl
theorem fRe : (Rows.stripMoreRow.recurses == Tryz.prog.recurses 17) = true := by kernel_rfl
theorem fNa : (Rows.stripMoreRow.named == Tryz.prog.varsNamed 17) = true := by kernel_rfl
theorem band {a b : Bool} (h : a = true) (k : b = true) : (a && b) = true := by rw [h, k]; rfl
theorem closed : joinedFacts Tryz.prog 17 Tryz.f17 (OpenSpec.ofChange Rows.stripMoreSpec).bare Rows.stripMoreRow = true := by
  unfold joinedFacts
  exact band (band (band (band (band (band (band (band (band (band (band (band (band (band (band (band (band (band (band (band (band (band (band (band (band (band (band (band (band (band (band (by kernel_rfl) cl_laid) cl_maps) (by kernel_rfl)) (by kernel_rfl)) (by kernel_rfl)) cl_stops) (by kernel_rfl)) cl_knobs) fIn) fUn) fRe) fNa) (by kernel_rfl)) (by kernel_rfl)) (by kernel_rfl)) (by kernel_rfl)) (by kernel_rfl)) (by kernel_rfl)) (by kernel_rfl)) (by kernel_rfl)) (by kernel_rfl)) (by rw [show Rows.stripMoreRow.plainKeys = Rows.stripFirstsRow.plainKeys from by kernel_rfl]; exact cl_plain)) (by kernel_rfl)) cl_heard) cl_may) (by rw [show Rows.stripMoreRow.lifted = Rows.stripFirstsRow.lifted from by kernel_rfl]; exact cl_lifts)) (by rw [show Rows.stripMoreRow.make = Rows.stripFirstsRow.make from by kernel_rfl]; exact cl_make)) (by kernel_rfl)) (by kernel_rfl)) (by kernel_rfl)) (by kernel_rfl)
theorem said : Rows.StripMoreSaid :=
  OpenClaim.holds_of_cond 17 Tryz.f17 rfl rfl rfl rfl rfl rfl rfl ⟨rfl, rfl, rfl, rfl, rfl⟩ rfl rfl rfl rfl rfl (by kernel_rfl) Tryz.func17 closed
    (of_decide_eq_true (by kernel_rfl)) (by unfold Func.isWrapper; first | (rw [if_pos (by decide +kernel)]; kernel_rfl) | (rw [if_neg (by decide +kernel)]; exact ⟨rfl, rfl⟩))
    (fun os started H enc _ F => by rw [OpenClaim.pre_eq_preRow]; exact lifted os started H enc F)

theorem plain (f : FuncId) (fn : Func) (hf : Tryz.pinned.checked.prog.funcNamed Rows.stripMoreRow.func = some f) (hfn : Tryz.pinned.checked.prog.funcs[f]? = some fn) :
    true = Tryz.pinned.checked.prog.looks [] ∧ ∀ (j : Nat) t, fn.params[j]? = some t → Tryz.pinned.checked.prog.wantsStandIn t = false := by
  obtain rfl : f = 17 := Option.some.inj ((show Tryz.prog.funcNamed Rows.stripMoreRow.func = some 17 by kernel_rfl).symm.trans hf) |>.symm
  obtain rfl : fn = Tryz.f17 := (Option.some.inj (Tryz.func17.symm.trans hfn)).symm
  refine ⟨cl_looks, fun j t ht => ?_⟩
  rw [Tryz.params17] at ht
  rcases (by simpa using Array.mem_of_getElem? ht : t = 24 ∨ t = 3 ∨ t = 27) with rfl | rfl | rfl <;> kernel_rfl

theorem wf : Rows.stripMoreRow.wfByText (OpenSpec.ofChange Rows.stripMoreSpec) = true := by kernel_rfl
theorem goes : false = Rows.stripMoreRow.goesBy Tryz.pinned.checked.prog := by kernel_rfl

end Go.Proofs.YtiehfpkcaoeieaaGreatDoor.C17
namespace Go.Proofs.YtiehfpkcaoeieaaGreatDoor
theorem card17 : Rows.StripMoreCardSaid :=
  Claim7.holds_tied_plain_at .later [] _ _ _ _ C17.said (fun _ h => by cases h) C17.wf (fun _ h => by cases h) stripMore_row_tie rfl ⟨rfl, rfl⟩ cl_main rfl C17.plain C17.goes
end Go.Proofs.YtiehfpkcaoeieaaGreatDoor
#print axioms Go.Proofs.YtiehfpkcaoeieaaGreatDoor.card17
