/- TintNeeds answers true of every argument, and leaves all as they were. No condition but the row's own: the tables it lists hold what their initialisers lay. -/
import Derived.Test.YtjpekonfjihcoaaGreatDoorGate
import Derived.Test.YtjpekonfjihcoaaGreatDoorClosed
import Derived.Test.YtjpekonfjihcoaaGreatDoorClosed2
import Derived.Test.YtjpekonfjihcoaaGreatDoorL11
namespace Go.TintM
end Go.TintM
set_option maxRecDepth 100000
set_option maxHeartbeats 64000000
set_option linter.unusedVariables false
set_option linter.unusedSimpArgs false
namespace Go.Proofs.YtjpekonfjihcoaaGreatDoor.C11
open Go.ChangeShapes Go.WideShapes Go.ChangeAt Go.RowKit Go.My Go.Deep

theorem contract (H : Type) (enc : TypeId × Value → H) (W : World) (base : Nat) (args : Array Value) (ds gs : List (DataW H)) (before : List MemPlace)
  (hval : ∀ (j : Nat) t v, Tryz.f11.params[j]? = some t → args[j]? = some v → Value.okWide Tryz.prog W .any base t v)
  (hW : DataW.Whole enc Tryz.prog Tryz.f11.params.toList Rows.tintNeedsSpec.vars false W args.toList ds gs before) (hS : W.ShapedOpen Tryz.prog) :
  Calls Tryz.prog 11 args W fun e W' => ∃ v, e = .returned v ∧ Rows.tintNeedsSpec.post enc Tryz.prog Tryz.f11 false true false false W args v W' := by
 obtain ⟨m, hm⟩ := maxLen_cell hS
 have hW' := hW
 obtain ⟨p, q, hA0, _⟩ := hW
 have hA : DataW.TrodAll enc Tryz.prog W 0 (fun _ => true) true Tryz.f11.params.toList args.toList ds p := hA0
 rw [Tryz.params11] at hA hval
 obtain ⟨v0, vs0, d0, ds0, p0, q0, ha0, rfl, rfl, h0, r0⟩ := trodAll_cons hA
 obtain ⟨rfl, rfl, rfl⟩ := trodAll_nil r0
 obtain rfl : args = #[v0] := by cases args; simp_all
 obtain ⟨s0, oa0, cap0, rfl, a0, b0, c0, e0⟩ := sheet_open h0 (Value.okWide_any_base (hval 0 28 v0 rfl rfl))
 refine law_contract rfl (by kernel_rfl) ?_ (fun H ds h => ?_) hW' (law11 ⟨e0, a0, b0, c0⟩ m hm)
 ·rw [Tryz.params11]
  intro t ht
  obtain rfl : t = 28 := by simpa using ht
  exact ⟨by kernel_rfl, of_decide_eq_true (by kernel_rfl)⟩
 ·have h' : ds.length = 1 := by rw [h]; kernel_rfl
  match ds, h' with
  | [_], _ => rfl

abbrev wargs : Array Value := #[.agg #[.int .i64 0, .int .i64 0, .int .i64 0, .int .i64 0, .int .i64 0, .int .i64 0, .int .i64 0, .int .i64 0, .int .i64 0, .int .i64 0, .int .i64 0, .int .i64 0, .slice none 0 0]]
theorem laid_met (os : Os) : laidMet Tryz.prog Rows.tintNeedsRow.laid ((laidWorld os).forCall (fun _ _ => 0) ⟨#[], wargs, []⟩).memory :=
 laidMet_of_run' 8 (by kernel_rfl) (by kernel_rfl)
theorem reads (os : Os) {H : Type} (enc : TypeId × Value → H) : ∃ places, DataW.whole enc Tryz.prog ((laidWorld os).forCall (fun _ _ => 0) ⟨#[], wargs, []⟩).memory Tryz.f11.params.toList Rows.tintNeedsSpec.vars false wargs.toList 8 = some ([.agg [.agg [.lit (.int .i64 0), .lit (.int .i64 0), .lit (.int .i64 0)], .agg [.agg [.lit (.int .i64 0), .lit (.int .i64 0)], .agg [.lit (.int .i64 0), .lit (.int .i64 0)], .agg [.lit (.int .i64 0), .lit (.int .i64 0)]], .agg [.lit (.int .i64 0), .lit (.int .i64 0)], .lit (.int .i64 0), .nil]], [], places) :=
 ⟨[], by kernel_rfl⟩

theorem lifted (os : Os) (started : os.Started) (H : Type) (enc : TypeId × Value → H) (F : Stop.Interp) :
  ReturnsInHanded {} Tryz.checked os 11 .any ((OpenSpec.ofChange Rows.tintNeedsSpec).preRow enc Tryz.prog Tryz.f11 Rows.tintNeedsRow.domain false Rows.tintNeedsRow.laid) (((OpenSpec.ofChange Rows.tintNeedsSpec).at F).post enc Tryz.prog Tryz.f11 false true false false) := by
 obtain ⟨places, hx⟩ := reads os enc
 refine returnsInHanded_of_row (C := Tryz.checked) (s := OpenSpec.ofChange Rows.tintNeedsSpec) (show ownKnob Tryz.prog.godebug = none by kernel_rfl) started (by kernel_rfl) Tryz.func11
  (witness_row_at (enc := enc) (C := Tryz.checked) false (laidWorld os) wargs rfl (by kernel_rfl) (by kernel_rfl) (by kernel_rfl)
   (OpenSpec.preRow_of_cond 8 hx (by kernel_rfl) (fun k hk => by cases hk) (by kernel_rfl) (laid_met os))) ?_
 intro W base args ds gs before hval hW _ _ _ _ hS _
 exact contract H enc W base args ds gs before hval hW hS

theorem fIn : (Rows.tintNeedsRow.inPlace == Tryz.prog.inPlace 11) = true := by kernel_rfl
theorem fUn : (Rows.tintNeedsRow.unfollowed == Tryz.prog.unfollowed 11) = true := by kernel_rfl
theorem fRe : (Rows.tintNeedsRow.recurses == Tryz.prog.recurses 11) = true := by kernel_rfl
theorem fNa : (Rows.tintNeedsRow.named == Tryz.prog.varsNamed 11) = true := by kernel_rfl
theorem band {a b : Bool} (h : a = true) (k : b = true) : (a && b) = true := by rw [h, k]; rfl
theorem closed : joinedFacts Tryz.prog 11 Tryz.f11 (OpenSpec.ofChange Rows.tintNeedsSpec).bare Rows.tintNeedsRow = true := by
 unfold joinedFacts
 exact band (band (band (band (band (band (band (band (band (band (band (band (band (band (band (band (band (band (band (band (band (band (band (band (band (band (band (band (band (band (band (by kernel_rfl) cl_laid) cl_maps) (by kernel_rfl)) (by kernel_rfl)) (by kernel_rfl)) cl_stops) (by kernel_rfl)) cl_knobs) fIn) fUn) fRe) fNa) (by kernel_rfl)) (by kernel_rfl)) (by kernel_rfl)) (by kernel_rfl)) (by kernel_rfl)) (by kernel_rfl)) (by kernel_rfl)) (by kernel_rfl)) (by kernel_rfl)) (by rw [show Rows.tintNeedsRow.plainKeys = Rows.tintFirstsRow.plainKeys from by kernel_rfl]; exact cl_plain)) (by kernel_rfl)) cl_heard) cl_may) (by rw [show Rows.tintNeedsRow.lifted = Rows.tintFirstsRow.lifted from by kernel_rfl]; exact cl_lifts)) (by rw [show Rows.tintNeedsRow.make = Rows.tintFirstsRow.make from by kernel_rfl]; exact cl_make)) (by kernel_rfl)) (by kernel_rfl)) (by kernel_rfl)) (by kernel_rfl)
theorem said : Rows.TintNeedsSaid :=
 OpenClaim.holds_of_cond 11 Tryz.f11 rfl rfl rfl rfl rfl rfl rfl ⟨rfl, rfl, rfl, rfl, rfl⟩ rfl rfl rfl rfl rfl (by kernel_rfl) Tryz.func11 closed
  (of_decide_eq_true (by kernel_rfl)) (by unfold Func.isWrapper; first | (rw [if_pos (by decide +kernel)]; kernel_rfl) | (rw [if_neg (by decide +kernel)]; exact ⟨rfl, rfl⟩))
  (fun os started H enc _ F => by rw [OpenClaim.pre_eq_preRow]; exact lifted os started H enc F)

theorem plain (f : FuncId) (fn : Func) (hf : Tryz.pinned.checked.prog.funcNamed Rows.tintNeedsRow.func = some f) (hfn : Tryz.pinned.checked.prog.funcs[f]? = some fn) :
  true = Tryz.pinned.checked.prog.looks [] ∧ ∀ (j : Nat) t, fn.params[j]? = some t → Tryz.pinned.checked.prog.wantsStandIn t = false := by
 obtain rfl : f = 11 := Option.some.inj ((show Tryz.prog.funcNamed Rows.tintNeedsRow.func = some 11 by kernel_rfl).symm.trans hf) |>.symm
 obtain rfl : fn = Tryz.f11 := (Option.some.inj (Tryz.func11.symm.trans hfn)).symm
 refine ⟨cl_looks, fun j t ht => ?_⟩
 rw [Tryz.params11] at ht
 obtain rfl : t = 28 := by simpa using Array.mem_of_getElem? ht
 kernel_rfl

theorem wf : Rows.tintNeedsRow.wfByText (OpenSpec.ofChange Rows.tintNeedsSpec) = true := by kernel_rfl
theorem goes : false = Rows.tintNeedsRow.goesBy Tryz.pinned.checked.prog := by kernel_rfl

end Go.Proofs.YtjpekonfjihcoaaGreatDoor.C11
namespace Go.Proofs.YtjpekonfjihcoaaGreatDoor
theorem card11 : Rows.TintNeedsCardSaid :=
 Claim7.holds_tied_plain_at .later [] _ _ _ _ C11.said (fun _ h => by cases h) C11.wf (fun _ h => by cases h) tintNeeds_row_tie rfl ⟨rfl, rfl⟩ cl_main rfl C11.plain C11.goes
end Go.Proofs.YtjpekonfjihcoaaGreatDoor
#print axioms Go.Proofs.YtjpekonfjihcoaaGreatDoor.card11
