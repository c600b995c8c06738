/- TintMade answers true of every argument, and leaves all as they were. No condition but the row's own: the tables it lists hold what their initialisers lay. -/
import Derived.Test.YtjpekonfjihcoaaGreatDoorGate
import Derived.Test.YtjpekonfjihcoaaGreatDoorClosed
import Derived.Test.YtjpekonfjihcoaaGreatDoorClosed2
import Derived.Test.YtjpekonfjihcoaaGreatDoorL15
namespace Go.TintM
end Go.TintM
set_option maxRecDepth 100000
set_option maxHeartbeats 64000000
set_option linter.unusedVariables false
set_option linter.unusedSimpArgs false
namespace Go.Proofs.YtjpekonfjihcoaaGreatDoor.C15
open Go.ChangeShapes Go.WideShapes Go.ChangeAt Go.RowKit Go.My Go.Deep

theorem contract (H : Type) (enc : TypeId × Value → H) (W : World) (base : Nat) (args : Array Value) (ds gs : List (DataW H)) (before : List MemPlace)
  (hval : ∀ (j : Nat) t v, Tryz.f15.params[j]? = some t → args[j]? = some v → Value.okWide Tryz.prog W .any base t v)
  (hW : DataW.Whole enc Tryz.prog Tryz.f15.params.toList Rows.tintMadeSpec.vars false W args.toList ds gs before) (hS : W.ShapedOpen Tryz.prog) :
  Calls Tryz.prog 15 args W fun e W' => ∃ v, e = .returned v ∧ Rows.tintMadeSpec.post enc Tryz.prog Tryz.f15 false true false false W args v W' := by
 obtain ⟨m, hm⟩ := maxLen_cell hS
 have hW' := hW
 obtain ⟨p, q, hA0, _⟩ := hW
 have hA : DataW.TrodAll enc Tryz.prog W 0 (fun _ => true) true Tryz.f15.params.toList args.toList ds p := hA0
 rw [Tryz.params15] at hA hval
 obtain ⟨v0, vs0, d0, ds0, p0, q0, ha0, rfl, rfl, h0, r0⟩ := trodAll_cons hA
 obtain ⟨v1, vs1, d1, ds1, p1, q1, rfl, rfl, rfl, h1, r1⟩ := trodAll_cons r0
 obtain ⟨v2, vs2, d2, ds2, p2, q2, rfl, rfl, rfl, h2, r2⟩ := trodAll_cons r1
 obtain ⟨v3, vs3, d3, ds3, p3, q3, rfl, rfl, rfl, h3, r3⟩ := trodAll_cons r2
 obtain ⟨rfl, rfl, rfl⟩ := trodAll_nil r3
 obtain rfl : args = #[v0, v1, v2, v3] := by cases args; simp_all
 obtain ⟨s0, oa0, cap0, rfl, a0, b0, c0, e0⟩ := sheet_open h0 (Value.okWide_any_base (hval 0 28 v0 rfl rfl))
 obtain ⟨l1, ob1, cb1, rfl, a1, b1, c1, e1⟩ := list_open h1 (Value.okWide_any_base (hval 1 29 v1 rfl rfl))
 obtain ⟨l2, ob2, cb2, rfl, a2, b2, c2, e2⟩ := list_open h2 (Value.okWide_any_base (hval 2 29 v2 rfl rfl))
 obtain ⟨u3, oa3, cap3, rfl, a3, b3, c3, e3⟩ := truth_open h3 (Value.okWide_any_base (hval 3 32 v3 rfl rfl))
 refine law_contract rfl (by kernel_rfl) ?_ (fun H ds h => ?_) hW' (law15 ⟨e0, a0, b0, c0⟩ ⟨e1, a1, b1, c1⟩ ⟨e2, a2, b2, c2⟩ ⟨e3, a3, b3, c3⟩ m hm)
 ·rw [Tryz.params15]
  intro t ht
  rcases (by simpa using ht : t = 28 ∨ t = 29 ∨ t = 32) with rfl | rfl | rfl <;> exact ⟨by kernel_rfl, of_decide_eq_true (by kernel_rfl)⟩
 ·have h' : ds.length = 4 := by rw [h]; kernel_rfl
  match ds, h' with
  | [_, _, _, _], _ => rfl

abbrev wargs : Array Value := #[.agg #[.int .i64 0, .int .i64 0, .int .i64 0, .int .i64 0, .int .i64 0, .int .i64 0, .int .i64 0, .int .i64 0, .int .i64 0, .int .i64 0, .int .i64 0, .int .i64 0, .slice none 0 0], .slice none 0 0, .slice none 0 0, .agg #[.slice none 0 0, .int .i64 0, .int .i64 0, .int .i64 0, .int .i64 0]]
theorem laid_met (os : Os) : laidMet Tryz.prog Rows.tintMadeRow.laid ((laidWorld os).forCall (fun _ _ => 0) ⟨#[], wargs, []⟩).memory :=
 laidMet_of_run' 8 (by kernel_rfl) (by kernel_rfl)
theorem reads (os : Os) {H : Type} (enc : TypeId × Value → H) : ∃ places, DataW.whole enc Tryz.prog ((laidWorld os).forCall (fun _ _ => 0) ⟨#[], wargs, []⟩).memory Tryz.f15.params.toList Rows.tintMadeSpec.vars false wargs.toList 8 = some ([.agg [.agg [.lit (.int .i64 0), .lit (.int .i64 0), .lit (.int .i64 0)], .agg [.agg [.lit (.int .i64 0), .lit (.int .i64 0)], .agg [.lit (.int .i64 0), .lit (.int .i64 0)], .agg [.lit (.int .i64 0), .lit (.int .i64 0)]], .agg [.lit (.int .i64 0), .lit (.int .i64 0)], .lit (.int .i64 0), .nil], .nil, .nil, .agg [.nil, .lit (.int .i64 0), .agg [.lit (.int .i64 0), .lit (.int .i64 0), .lit (.int .i64 0)]]], [], places) :=
 ⟨[], by kernel_rfl⟩

theorem lifted (os : Os) (started : os.Started) (H : Type) (enc : TypeId × Value → H) (F : Stop.Interp) :
  ReturnsInHanded {} Tryz.checked os 15 .any ((OpenSpec.ofChange Rows.tintMadeSpec).preRow enc Tryz.prog Tryz.f15 Rows.tintMadeRow.domain false Rows.tintMadeRow.laid) (((OpenSpec.ofChange Rows.tintMadeSpec).at F).post enc Tryz.prog Tryz.f15 false true false false) := by
 obtain ⟨places, hx⟩ := reads os enc
 refine returnsInHanded_of_row (C := Tryz.checked) (s := OpenSpec.ofChange Rows.tintMadeSpec) (show ownKnob Tryz.prog.godebug = none by kernel_rfl) started (by kernel_rfl) Tryz.func15
  (witness_row_at (enc := enc) (C := Tryz.checked) false (laidWorld os) wargs rfl (by kernel_rfl) (by kernel_rfl) (by kernel_rfl)
   (OpenSpec.preRow_of_cond 8 hx (by kernel_rfl) (fun k hk => by cases hk) (by kernel_rfl) (laid_met os))) ?_
 intro W base args ds gs before hval hW _ _ _ _ hS _
 exact contract H enc W base args ds gs before hval hW hS

theorem fIn : (Rows.tintMadeRow.inPlace == Tryz.prog.inPlace 15) = true := by kernel_rfl
theorem fUn : (Rows.tintMadeRow.unfollowed == Tryz.prog.unfollowed 15) = true := by kernel_rfl
theorem fRe : (Rows.tintMadeRow.recurses == Tryz.prog.recurses 15) = true := by kernel_rfl
theorem fNa : (Rows.tintMadeRow.named == Tryz.prog.varsNamed 15) = true := by kernel_rfl
theorem band {a b : Bool} (h : a = true) (k : b = true) : (a && b) = true := by rw [h, k]; rfl
theorem closed : joinedFacts Tryz.prog 15 Tryz.f15 (OpenSpec.ofChange Rows.tintMadeSpec).bare Rows.tintMadeRow = true := by
 unfold joinedFacts
 exact band (band (band (band (band (band (band (band (band (band (band (band (band (band (band (band (band (band (band (band (band (band (band (band (band (band (band (band (band (band (band (by kernel_rfl) cl_laid) cl_maps) (by kernel_rfl)) (by kernel_rfl)) (by kernel_rfl)) cl_stops) (by kernel_rfl)) cl_knobs) fIn) fUn) fRe) fNa) (by kernel_rfl)) (by kernel_rfl)) (by kernel_rfl)) (by kernel_rfl)) (by kernel_rfl)) (by kernel_rfl)) (by kernel_rfl)) (by kernel_rfl)) (by kernel_rfl)) (by rw [show Rows.tintMadeRow.plainKeys = Rows.tintFirstsRow.plainKeys from by kernel_rfl]; exact cl_plain)) (by kernel_rfl)) cl_heard) cl_may) (by rw [show Rows.tintMadeRow.lifted = Rows.tintFirstsRow.lifted from by kernel_rfl]; exact cl_lifts)) (by rw [show Rows.tintMadeRow.make = Rows.tintFirstsRow.make from by kernel_rfl]; exact cl_make)) (by kernel_rfl)) (by kernel_rfl)) (by kernel_rfl)) (by kernel_rfl)
theorem said : Rows.TintMadeSaid :=
 OpenClaim.holds_of_cond 15 Tryz.f15 rfl rfl rfl rfl rfl rfl rfl ⟨rfl, rfl, rfl, rfl, rfl⟩ rfl rfl rfl rfl rfl (by kernel_rfl) Tryz.func15 closed
  (of_decide_eq_true (by kernel_rfl)) (by unfold Func.isWrapper; first | (rw [if_pos (by decide +kernel)]; kernel_rfl) | (rw [if_neg (by decide +kernel)]; exact ⟨rfl, rfl⟩))
  (fun os started H enc _ F => by rw [OpenClaim.pre_eq_preRow]; exact lifted os started H enc F)

theorem plain (f : FuncId) (fn : Func) (hf : Tryz.pinned.checked.prog.funcNamed Rows.tintMadeRow.func = some f) (hfn : Tryz.pinned.checked.prog.funcs[f]? = some fn) :
  true = Tryz.pinned.checked.prog.looks [] ∧ ∀ (j : Nat) t, fn.params[j]? = some t → Tryz.pinned.checked.prog.wantsStandIn t = false := by
 obtain rfl : f = 15 := Option.some.inj ((show Tryz.prog.funcNamed Rows.tintMadeRow.func = some 15 by kernel_rfl).symm.trans hf) |>.symm
 obtain rfl : fn = Tryz.f15 := (Option.some.inj (Tryz.func15.symm.trans hfn)).symm
 refine ⟨cl_looks, fun j t ht => ?_⟩
 rw [Tryz.params15] at ht
 rcases (by simpa using Array.mem_of_getElem? ht : t = 28 ∨ t = 29 ∨ t = 32) with rfl | rfl | rfl <;> kernel_rfl

theorem wf : Rows.tintMadeRow.wfByText (OpenSpec.ofChange Rows.tintMadeSpec) = true := by kernel_rfl
theorem goes : false = Rows.tintMadeRow.goesBy Tryz.pinned.checked.prog := by kernel_rfl

end Go.Proofs.YtjpekonfjihcoaaGreatDoor.C15
namespace Go.Proofs.YtjpekonfjihcoaaGreatDoor
theorem card15 : Rows.TintMadeCardSaid :=
 Claim7.holds_tied_plain_at .later [] _ _ _ _ C15.said (fun _ h => by cases h) C15.wf (fun _ h => by cases h) tintMade_row_tie rfl ⟨rfl, rfl⟩ cl_main rfl C15.plain C15.goes
end Go.Proofs.YtjpekonfjihcoaaGreatDoor
#print axioms Go.Proofs.YtjpekonfjihcoaaGreatDoor.card15
