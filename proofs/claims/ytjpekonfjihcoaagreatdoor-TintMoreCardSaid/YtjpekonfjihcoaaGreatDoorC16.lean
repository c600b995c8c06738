/- TintMore answers true of every argument, and leaves all as they were. No condition but the row's own: the tables it lists hold what their initialisers lay. -/
import Derived.Test.YtjpekonfjihcoaaGreatDoorGate
import Derived.Test.YtjpekonfjihcoaaGreatDoorClosed
import Derived.Test.YtjpekonfjihcoaaGreatDoorClosed2
import Derived.Test.YtjpekonfjihcoaaGreatDoorL16
namespace Go.TintM
end Go.TintM
set_option maxRecDepth 100000
set_option maxHeartbeats 64000000
set_option linter.unusedVariables false
set_option linter.unusedSimpArgs false
namespace Go.Proofs.YtjpekonfjihcoaaGreatDoor.C16
open Go.ChangeShapes Go.WideShapes Go.ChangeAt Go.RowKit Go.My Go.Deep

theorem contract (H : Type) (enc : TypeId × Value → H) (W : World) (base : Nat) (args : Array Value) (ds gs : List (DataW H)) (before : List MemPlace)
  (hval : ∀ (j : Nat) t v, Tryz.f16.params[j]? = some t → args[j]? = some v → Value.okWide Tryz.prog W .any base t v)
  (hW : DataW.Whole enc Tryz.prog Tryz.f16.params.toList Rows.tintMoreSpec.vars false W args.toList ds gs before) (hS : W.ShapedOpen Tryz.prog) :
  Calls Tryz.prog 16 args W fun e W' => ∃ v, e = .returned v ∧ Rows.tintMoreSpec.post enc Tryz.prog Tryz.f16 false true false false W args v W' := by
 obtain ⟨m, hm⟩ := maxLen_cell hS
 have hW' := hW
 obtain ⟨p, q, hA0, _⟩ := hW
 have hA : DataW.TrodAll enc Tryz.prog W 0 (fun _ => true) true Tryz.f16.params.toList args.toList ds p := hA0
 rw [Tryz.params16] at hA hval
 obtain ⟨v0, vs0, d0, ds0, p0, q0, ha0, rfl, rfl, h0, r0⟩ := trodAll_cons hA
 obtain ⟨v1, vs1, d1, ds1, p1, q1, rfl, rfl, rfl, h1, r1⟩ := trodAll_cons r0
 obtain ⟨v2, vs2, d2, ds2, p2, q2, rfl, rfl, rfl, h2, r2⟩ := trodAll_cons r1
 obtain ⟨v3, vs3, d3, ds3, p3, q3, rfl, rfl, rfl, h3, r3⟩ := trodAll_cons r2
 obtain ⟨v4, vs4, d4, ds4, p4, q4, rfl, rfl, rfl, h4, r4⟩ := trodAll_cons r3
 obtain ⟨v5, vs5, d5, ds5, p5, q5, rfl, rfl, rfl, h5, r5⟩ := trodAll_cons r4
 obtain ⟨v6, vs6, d6, ds6, p6, q6, rfl, rfl, rfl, h6, r6⟩ := trodAll_cons r5
 obtain ⟨v7, vs7, d7, ds7, p7, q7, rfl, rfl, rfl, h7, r7⟩ := trodAll_cons r6
 obtain ⟨v8, vs8, d8, ds8, p8, q8, rfl, rfl, rfl, h8, r8⟩ := trodAll_cons r7
 obtain ⟨rfl, rfl, rfl⟩ := trodAll_nil r8
 obtain rfl : args = #[v0, v1, v2, v3, v4, v5, v6, v7, v8] := by cases args; simp_all
 obtain ⟨s0, oa0, cap0, rfl, a0, b0, c0, e0⟩ := sheet_open h0 (Value.okWide_any_base (hval 0 28 v0 rfl rfl))
 obtain ⟨l1, ob1, cb1, rfl, a1, b1, c1, e1⟩ := list_open h1 (Value.okWide_any_base (hval 1 29 v1 rfl rfl))
 obtain ⟨x2, rfl, a2, b2⟩ := int_open h2 (Value.okWide_any_base (hval 2 3 v2 rfl rfl))
 obtain ⟨x3, rfl, a3, b3⟩ := int_open h3 (Value.okWide_any_base (hval 3 3 v3 rfl rfl))
 obtain ⟨x4, y4, rfl⟩ := span_open h4 (Value.okWide_any_base (hval 4 24 v4 rfl rfl))
 obtain ⟨x5, y5, rfl⟩ := span_open h5 (Value.okWide_any_base (hval 5 24 v5 rfl rfl))
 obtain ⟨x6, y6, rfl⟩ := span_open h6 (Value.okWide_any_base (hval 6 24 v6 rfl rfl))
 obtain ⟨x7, rfl, a7, b7⟩ := int_open h7 (Value.okWide_any_base (hval 7 3 v7 rfl rfl))
 obtain ⟨x8, y8, z8, t8, u8, v8, rfl⟩ := tin_open h8 (Value.okWide_any_base (hval 8 82 v8 rfl rfl))
 refine law_contract rfl (by kernel_rfl) ?_ (fun H ds h => ?_) hW' (law16 ⟨e0, a0, b0, c0⟩ ⟨e1, a1, b1, c1⟩ a2 b2 a3 b3 a7 b7 m hm)
 ·rw [Tryz.params16]
  intro t ht
  rcases (by simpa using ht : t = 28 ∨ t = 29 ∨ t = 3 ∨ t = 24 ∨ t = 3 ∨ t = 82) with rfl | rfl | rfl | rfl | rfl | rfl <;> exact ⟨by kernel_rfl, of_decide_eq_true (by kernel_rfl)⟩
 ·have h' : ds.length = 9 := by rw [h]; kernel_rfl
  match ds, h' with
  | [_, _, _, _, _, _, _, _, _], _ => rfl

abbrev wargs : Array Value := #[.agg #[.int .i64 0, .int .i64 0, .int .i64 0, .int .i64 0, .int .i64 0, .int .i64 0, .int .i64 0, .int .i64 0, .int .i64 0, .int .i64 0, .int .i64 0, .int .i64 0, .slice none 0 0], .slice none 0 0, .int .i64 0, .int .i64 0, .agg #[.int .i64 0, .int .i64 0], .agg #[.int .i64 0, .int .i64 0], .agg #[.int .i64 0, .int .i64 0], .int .i64 0, .agg #[.int .i64 0, .int .i64 0, .int .i64 0, .int .i64 0, .int .i64 0, .int .i64 0]]
theorem laid_met (os : Os) : laidMet Tryz.prog Rows.tintMoreRow.laid ((laidWorld os).forCall (fun _ _ => 0) ⟨#[], wargs, []⟩).memory :=
 laidMet_of_run' 8 (by kernel_rfl) (by kernel_rfl)
theorem reads (os : Os) {H : Type} (enc : TypeId × Value → H) : ∃ places, DataW.whole enc Tryz.prog ((laidWorld os).forCall (fun _ _ => 0) ⟨#[], wargs, []⟩).memory Tryz.f16.params.toList Rows.tintMoreSpec.vars false wargs.toList 8 = some ([.agg [.agg [.lit (.int .i64 0), .lit (.int .i64 0), .lit (.int .i64 0)], .agg [.agg [.lit (.int .i64 0), .lit (.int .i64 0)], .agg [.lit (.int .i64 0), .lit (.int .i64 0)], .agg [.lit (.int .i64 0), .lit (.int .i64 0)]], .agg [.lit (.int .i64 0), .lit (.int .i64 0)], .lit (.int .i64 0), .nil], .nil, .lit (.int .i64 0), .lit (.int .i64 0), .agg [.lit (.int .i64 0), .lit (.int .i64 0)], .agg [.lit (.int .i64 0), .lit (.int .i64 0)], .agg [.lit (.int .i64 0), .lit (.int .i64 0)], .lit (.int .i64 0), .agg [.agg [.agg [.lit (.int .i64 0), .lit (.int .i64 0)], .agg [.lit (.int .i64 0), .lit (.int .i64 0)], .agg [.lit (.int .i64 0), .lit (.int .i64 0)]]]], [], places) :=
 ⟨[], by kernel_rfl⟩

theorem lifted (os : Os) (started : os.Started) (H : Type) (enc : TypeId × Value → H) (F : Stop.Interp) :
  ReturnsInHanded {} Tryz.checked os 16 .any ((OpenSpec.ofChange Rows.tintMoreSpec).preRow enc Tryz.prog Tryz.f16 Rows.tintMoreRow.domain false Rows.tintMoreRow.laid) (((OpenSpec.ofChange Rows.tintMoreSpec).at F).post enc Tryz.prog Tryz.f16 false true false false) := by
 obtain ⟨places, hx⟩ := reads os enc
 refine returnsInHanded_of_row (C := Tryz.checked) (s := OpenSpec.ofChange Rows.tintMoreSpec) (show ownKnob Tryz.prog.godebug = none by kernel_rfl) started (by kernel_rfl) Tryz.func16
  (witness_row_at (enc := enc) (C := Tryz.checked) false (laidWorld os) wargs rfl (by kernel_rfl) (by kernel_rfl) (by kernel_rfl)
   (OpenSpec.preRow_of_cond 8 hx (by kernel_rfl) (fun k hk => by cases hk) (by kernel_rfl) (laid_met os))) ?_
 intro W base args ds gs before hval hW _ _ _ _ hS _
 exact contract H enc W base args ds gs before hval hW hS

theorem fIn : (Rows.tintMoreRow.inPlace == Tryz.prog.inPlace 16) = true := by kernel_rfl
theorem fUn : (Rows.tintMoreRow.unfollowed == Tryz.prog.unfollowed 16) = true := by kernel_rfl
theorem fRe : (Rows.tintMoreRow.recurses == Tryz.prog.recurses 16) = true := by kernel_rfl
theorem fNa : (Rows.tintMoreRow.named == Tryz.prog.varsNamed 16) = true := by kernel_rfl
theorem band {a b : Bool} (h : a = true) (k : b = true) : (a && b) = true := by rw [h, k]; rfl
theorem closed : joinedFacts Tryz.prog 16 Tryz.f16 (OpenSpec.ofChange Rows.tintMoreSpec).bare Rows.tintMoreRow = true := by
 unfold joinedFacts
 exact band (band (band (band (band (band (band (band (band (band (band (band (band (band (band (band (band (band (band (band (band (band (band (band (band (band (band (band (band (band (band (by kernel_rfl) cl_laid) cl_maps) (by kernel_rfl)) (by kernel_rfl)) (by kernel_rfl)) cl_stops) (by kernel_rfl)) cl_knobs) fIn) fUn) fRe) fNa) (by kernel_rfl)) (by kernel_rfl)) (by kernel_rfl)) (by kernel_rfl)) (by kernel_rfl)) (by kernel_rfl)) (by kernel_rfl)) (by kernel_rfl)) (by kernel_rfl)) (by rw [show Rows.tintMoreRow.plainKeys = Rows.tintFirstsRow.plainKeys from by kernel_rfl]; exact cl_plain)) (by kernel_rfl)) cl_heard) cl_may) (by rw [show Rows.tintMoreRow.lifted = Rows.tintFirstsRow.lifted from by kernel_rfl]; exact cl_lifts)) (by rw [show Rows.tintMoreRow.make = Rows.tintFirstsRow.make from by kernel_rfl]; exact cl_make)) (by kernel_rfl)) (by kernel_rfl)) (by kernel_rfl)) (by kernel_rfl)
theorem said : Rows.TintMoreSaid :=
 OpenClaim.holds_of_cond 16 Tryz.f16 rfl rfl rfl rfl rfl rfl rfl ⟨rfl, rfl, rfl, rfl, rfl⟩ rfl rfl rfl rfl rfl (by kernel_rfl) Tryz.func16 closed
  (of_decide_eq_true (by kernel_rfl)) (by unfold Func.isWrapper; first | (rw [if_pos (by decide +kernel)]; kernel_rfl) | (rw [if_neg (by decide +kernel)]; exact ⟨rfl, rfl⟩))
  (fun os started H enc _ F => by rw [OpenClaim.pre_eq_preRow]; exact lifted os started H enc F)

theorem plain (f : FuncId) (fn : Func) (hf : Tryz.pinned.checked.prog.funcNamed Rows.tintMoreRow.func = some f) (hfn : Tryz.pinned.checked.prog.funcs[f]? = some fn) :
  true = Tryz.pinned.checked.prog.looks [] ∧ ∀ (j : Nat) t, fn.params[j]? = some t → Tryz.pinned.checked.prog.wantsStandIn t = false := by
 obtain rfl : f = 16 := Option.some.inj ((show Tryz.prog.funcNamed Rows.tintMoreRow.func = some 16 by kernel_rfl).symm.trans hf) |>.symm
 obtain rfl : fn = Tryz.f16 := (Option.some.inj (Tryz.func16.symm.trans hfn)).symm
 refine ⟨cl_looks, fun j t ht => ?_⟩
 rw [Tryz.params16] at ht
 rcases (by simpa using Array.mem_of_getElem? ht : t = 28 ∨ t = 29 ∨ t = 3 ∨ t = 24 ∨ t = 3 ∨ t = 82) with rfl | rfl | rfl | rfl | rfl | rfl <;> kernel_rfl

theorem wf : Rows.tintMoreRow.wfByText (OpenSpec.ofChange Rows.tintMoreSpec) = true := by kernel_rfl
theorem goes : false = Rows.tintMoreRow.goesBy Tryz.pinned.checked.prog := by kernel_rfl

end Go.Proofs.YtjpekonfjihcoaaGreatDoor.C16
namespace Go.Proofs.YtjpekonfjihcoaaGreatDoor
theorem card16 : Rows.TintMoreCardSaid :=
 Claim7.holds_tied_plain_at .later [] _ _ _ _ C16.said (fun _ h => by cases h) C16.wf (fun _ h => by cases h) tintMore_row_tie rfl ⟨rfl, rfl⟩ cl_main rfl C16.plain C16.goes
end Go.Proofs.YtjpekonfjihcoaaGreatDoor
#print axioms Go.Proofs.YtjpekonfjihcoaaGreatDoor.card16
