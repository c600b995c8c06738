/- TintReads answers true of every argument, and leaves all as they were. No condition but the row's own: the tables it lists hold what their initialisers lay. -/
import Derived.Test.YtjpekonfjihcoaaGreatDoorGate
import Derived.Test.YtjpekonfjihcoaaGreatDoorClosed
import Derived.Test.YtjpekonfjihcoaaGreatDoorClosed2
import Derived.Test.YtjpekonfjihcoaaGreatDoorL19
namespace Go.TintM
end Go.TintM
set_option linter.unusedVariables false
set_option linter.unusedSimpArgs false
namespace Go.Proofs.YtjpekonfjihcoaaGreatDoor.C19
open Go.ChangeShapes Go.WideShapes Go.ChangeAt Go.RowKit Go.My Go.Deep

set_option maxRecDepth 100000 in
theorem contract (H : Type) (enc : TypeId × Value → H) (W : World) (base : Nat) (args : Array Value) (ds gs : List (DataW H)) (before : List MemPlace)
    (hval : ∀ (j : Nat) t v, Tryz.f19.params[j]? = some t → args[j]? = some v → Value.okWide Tryz.prog W .any base t v)
    (hW : DataW.Whole enc Tryz.prog Tryz.f19.params.toList Rows.tintReadsSpec.vars false W args.toList ds gs before) (hS : W.ShapedOpen Tryz.prog) :
    Calls Tryz.prog 19 args W fun e W' => ∃ v, e = .returned v ∧ Rows.tintReadsSpec.post enc Tryz.prog Tryz.f19 false true false false W args v W' := by
  obtain ⟨m, hm⟩ := maxLen_cell hS
  have hW' := hW
  obtain ⟨p, q, hA0, _⟩ := hW
  have hA : DataW.TrodAll enc Tryz.prog W 0 (fun _ => true) true Tryz.f19.params.toList args.toList ds p := hA0
  rw [Tryz.params19] at hA hval
  obtain ⟨v0, vs0, d0, ds0, p0, q0, ha0, rfl, rfl, h0, r0⟩ := trodAll_cons hA
  obtain ⟨rfl, rfl, rfl⟩ := trodAll_nil r0
  obtain rfl : args = #[v0] := by cases args; simp_all
  obtain ⟨t0, rfl, a0⟩ := string_open h0 (Value.okWide_any_base (hval 0 9 v0 rfl rfl))
  refine law_contract rfl (by kernel_rfl) ?_ (fun H ds h => ?_) hW' (law19 a0 m hm)
  · rw [Tryz.params19]
    intro t ht
    obtain rfl : t = 9 := by simpa using ht
    exact ⟨by kernel_rfl, of_decide_eq_true (by kernel_rfl)⟩
  · have h' : ds.length = 1 := by rw [h]; kernel_rfl
    match ds, h' with
    | [_], _ => rfl

abbrev wargs : Array Value := #[.string ⟨#[]⟩]
theorem laid_met (os : Os) : laidMet Tryz.prog Rows.tintReadsRow.laid ((laidWorld os).forCall (fun _ _ => 0) ⟨#[], wargs, []⟩).memory :=
  laidMet_of_run' 8 (by kernel_rfl) (by kernel_rfl)
theorem reads (os : Os) {H : Type} (enc : TypeId × Value → H) : ∃ places, DataW.whole enc Tryz.prog ((laidWorld os).forCall (fun _ _ => 0) ⟨#[], wargs, []⟩).memory Tryz.f19.params.toList Rows.tintReadsSpec.vars false wargs.toList 8 = some ([.lit (.string [])], [], places) :=
  ⟨[], by kernel_rfl⟩

set_option maxRecDepth 100000 in
theorem lifted (os : Os) (started : os.Started) (H : Type) (enc : TypeId × Value → H) (F : Stop.Interp) :
    ReturnsInHanded {} Tryz.checked os 19 .any ((OpenSpec.ofChange Rows.tintReadsSpec).preRow enc Tryz.prog Tryz.f19 Rows.tintReadsRow.domain false Rows.tintReadsRow.laid) (((OpenSpec.ofChange Rows.tintReadsSpec).at F).post enc Tryz.prog Tryz.f19 false true false false) := by
  obtain ⟨places, hx⟩ := reads os enc
  refine returnsInHanded_of_row (C := Tryz.checked) (s := OpenSpec.ofChange Rows.tintReadsSpec) (show ownKnob Tryz.prog.godebug = none by kernel_rfl) started (by kernel_rfl) Tryz.func19
    (witness_row_at (enc := enc) (C := Tryz.checked) false (laidWorld os) wargs rfl (by kernel_rfl) (by kernel_rfl) (by kernel_rfl)
      (OpenSpec.preRow_of_cond 8 hx (by kernel_rfl) (fun k hk => by cases hk) (by kernel_rfl) (laid_met os))) ?_
  intro W base args ds gs before hval hW _ _ _ _ hS _
  exact contract H enc W base args ds gs before hval hW hS

theorem fIn : (Rows.tintReadsRow.inPlace == Tryz.prog.inPlace 19) = true := by kernel_rfl
theorem fUn : (Rows.tintReadsRow.unfollowed == Tryz.prog.unfollowed 19) = true := by kernel_rfl
theorem fRe : (Rows.tintReadsRow.recurses == Tryz.prog.recurses 19) = true := by kernel_rfl
theorem fNa : (Rows.tintReadsRow.named == Tryz.prog.varsNamed 19) = true := by kernel_rfl
theorem band {a b : Bool} (h : a = true) (k : b = true) : (a && b) = true := by rw [h, k]; rfl
theorem closed : joinedFacts Tryz.prog 19 Tryz.f19 (OpenSpec.ofChange Rows.tintReadsSpec).bare Rows.tintReadsRow = true := by
  unfold joinedFacts
  exact band (band (band (band (band (band (band (band (band (band (band (band (band (band (band (band (band (band (band (band (band (band (band (band (band (band (band (band (band (band (band (by kernel_rfl) cl_laid) cl_maps) (by kernel_rfl)) (by kernel_rfl)) (by kernel_rfl)) cl_stops) (by kernel_rfl)) cl_knobs) fIn) fUn) fRe) fNa) (by kernel_rfl)) (by kernel_rfl)) (by kernel_rfl)) (by kernel_rfl)) (by kernel_rfl)) (by kernel_rfl)) (by kernel_rfl)) (by kernel_rfl)) (by kernel_rfl)) (by rw [show Rows.tintReadsRow.plainKeys = Rows.tintFirstsRow.plainKeys from by kernel_rfl]; exact cl_plain)) (by kernel_rfl)) cl_heard) cl_may) (by rw [show Rows.tintReadsRow.lifted = Rows.tintFirstsRow.lifted from by kernel_rfl]; exact cl_lifts)) (by rw [show Rows.tintReadsRow.make = Rows.tintFirstsRow.make from by kernel_rfl]; exact cl_make)) (by kernel_rfl)) (by kernel_rfl)) (by kernel_rfl)) (by kernel_rfl)
theorem said : Rows.TintReadsSaid :=
  OpenClaim.holds_of_cond 19 Tryz.f19 rfl rfl rfl rfl rfl rfl rfl ⟨rfl, rfl, rfl, rfl, rfl⟩ rfl rfl rfl rfl rfl (by kernel_rfl) Tryz.func19 closed
    (of_decide_eq_true (by kernel_rfl)) (by unfold Func.isWrapper; first | (rw [if_pos (by decide +kernel)]; kernel_rfl) | (rw [if_neg (by decide +kernel)]; exact ⟨rfl, rfl⟩))
    (fun os started H enc _ F => by rw [OpenClaim.pre_eq_preRow]; exact lifted os started H enc F)

theorem plain (f : FuncId) (fn : Func) (hf : Tryz.pinned.checked.prog.funcNamed Rows.tintReadsRow.func = some f) (hfn : Tryz.pinned.checked.prog.funcs[f]? = some fn) :
    true = Tryz.pinned.checked.prog.looks [] ∧ ∀ (j : Nat) t, fn.params[j]? = some t → Tryz.pinned.checked.prog.wantsStandIn t = false := by
  obtain rfl : f = 19 := Option.some.inj ((show Tryz.prog.funcNamed Rows.tintReadsRow.func = some 19 by kernel_rfl).symm.trans hf) |>.symm
  obtain rfl : fn = Tryz.f19 := (Option.some.inj (Tryz.func19.symm.trans hfn)).symm
  refine ⟨cl_looks, fun j t ht => ?_⟩
  rw [Tryz.params19] at ht
  obtain rfl : t = 9 := by simpa using Array.mem_of_getElem? ht
  kernel_rfl

theorem wf : Rows.tintReadsRow.wfByText (OpenSpec.ofChange Rows.tintReadsSpec) = true := by kernel_rfl
theorem goes : false = Rows.tintReadsRow.goesBy Tryz.pinned.checked.prog := by kernel_rfl

end Go.Proofs.YtjpekonfjihcoaaGreatDoor.C19
namespace Go.Proofs.YtjpekonfjihcoaaGreatDoor
theorem card19 : Rows.TintReadsCardSaid :=
  Claim7.holds_tied_plain_at .later [] _ _ _ _ C19.said (fun _ h => by cases h) C19.wf (fun _ h => by cases h) tintReads_row_tie rfl ⟨rfl, rfl⟩ cl_main rfl C19.plain C19.goes
end Go.Proofs.YtjpekonfjihcoaaGreatDoor
#print axioms Go.Proofs.YtjpekonfjihcoaaGreatDoor.card19
