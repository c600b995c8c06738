/- Contracts and mathematics, joined: TextH, TextI. Conditions stand with each. -/
import Derived.ArgAppend
import Derived.Below
import Derived.BigQuiet
import Derived.Deep.DeepCutAuto
import Derived.Deep.DeepFit
import Derived.Deep.LoopGhost
import Derived.Deep.QuietTactic
import Derived.Deep.RegionHeld
import Derived.Deep.RegionHeld3
import Derived.Deep.RegionWith
import Derived.Defers
import Derived.Laws.BytesArg
import Derived.Laws.EntriesVeiled
import Derived.Laws.OwnMore
import Derived.Lib.Hide
import Derived.Lib.IndexBytes
import Derived.Lib.ItoaNum
import Derived.Lib.SplitLaws
import Derived.LoopIn
import Derived.LoopNIn
import Derived.Maps.AppendAt
import Derived.Maps.Keyed
import Derived.Maps.OwnIn
import Derived.OrdersHeld
import Derived.OwnWalkIn
import Derived.RangeFuncBound
import Derived.RangeFuncCalls
import Derived.RangeFuncLeaves
import Derived.RangeFuncNested
import Derived.Recover
import Derived.RegionIn
import Derived.Shelf.Abstract
import Derived.Shelf.Strconv.Itoa3
import Derived.Shelf.Strings.Split
import Derived.TacticsIn
import Derived.TacticsInMore
import Derived.Test.YtjpekonfjihcoaaGreatDoorProg
import Derived.WalkKit
import Derived.WalkLawsBesides
import Derived.WalkSpells
import Derived.Test.YtjpekonfjihcoaaGreatDoorM2
import Derived.Test.YtjpekonfjihcoaaGreatDoorM18
import Derived.Test.YtjpekonfjihcoaaGreatDoorM30
import Derived.Test.YtjpekonfjihcoaaGreatDoorM28
import Derived.Test.YtjpekonfjihcoaaGreatDoorM4
import Derived.Test.YtjpekonfjihcoaaGreatDoorM9
import Derived.Test.YtjpekonfjihcoaaGreatDoorM31
import Derived.Test.YtjpekonfjihcoaaGreatDoorM6
import Derived.Test.YtjpekonfjihcoaaGreatDoorM1
import Derived.Test.YtjpekonfjihcoaaGreatDoorM29
import Derived.Test.YtjpekonfjihcoaaGreatDoorM17
namespace Go.TintM
end Go.TintM
set_option maxRecDepth 100000
set_option maxHeartbeats 64000000
set_option linter.unusedVariables false
set_option linter.unusedSimpArgs false
/- Contract: tint.Read. No condition. -/
namespace Go.Proofs.YtjpekonfjihcoaaGreatDoor
open Go.RowKit Go.My Go.TintM

abbrev putW (W : World) (b : Nat) (S : SI) (ot : Option Addr) (cap : Nat) : World := (World.setCell (World.setCell (World.setCell (World.setCell (World.setCell (World.setCell (World.setCell (World.setCell (World.setCell (World.setCell (World.setCell (World.setCell (World.setCell W ⟨b, 0, none⟩ (.int .i64 S.o0)) ⟨b, 1, none⟩ (.int .i64 S.o1)) ⟨b, 2, none⟩ (.int .i64 S.o2)) ⟨b, 3, none⟩ (.int .i64 S.a0)) ⟨b, 4, none⟩ (.int .i64 S.b0)) ⟨b, 5, none⟩ (.int .i64 S.a1)) ⟨b, 6, none⟩ (.int .i64 S.b1)) ⟨b, 7, none⟩ (.int .i64 S.a2)) ⟨b, 8, none⟩ (.int .i64 S.b2)) ⟨b, 9, none⟩ (.int .i64 S.ylo)) ⟨b, 10, none⟩ (.int .i64 S.yhi)) ⟨b, 11, none⟩ (.int .i64 S.off)) ⟨b, 12, none⟩ (.slice ot S.tins.length cap))
theorem turned_put (W : World) (b : Nat) (S : SI) (ot : Option Addr) (cap : Nat) : Turned b W (putW W b S ot cap) := (((((((((((((Turned.refl b W).set 0 _).set 1 _).set 2 _).set 3 _).set 4 _).set 5 _).set 6 _).set 7 _).set 8 _).set 9 _).set 10 _).set 11 _).set 12 _
theorem SOwn.put {W : World} {b : Nat} {S0 : SI} {ot0 : Option Addr} {cap0 : Nat} (h : SOwn W b S0 ot0 cap0) (S : SI) (ot : Option Addr) (cap : Nat) : SOwn (putW W b S ot cap) b S ot cap := by
 obtain ⟨hb, hf⟩ := h
 have c0 := hb 0 _ rfl; have c1 := hb 1 _ rfl; have c2 := hb 2 _ rfl; have c3 := hb 3 _ rfl; have c4 := hb 4 _ rfl; have c5 := hb 5 _ rfl; have c6 := hb 6 _ rfl; have c7 := hb 7 _ rfl; have c8 := hb 8 _ rfl; have c9 := hb 9 _ rfl; have c10 := hb 10 _ rfl; have c11 := hb 11 _ rfl; have c12 := hb 12 _ rfl
 refine ⟨fun i v hv => ?_, fun i hi => by simp only [World.frozen?_setCell]; exact hf i hi⟩
 match i, hv with
 | 0, hv => cases hv; go_simp
 | 1, hv => cases hv; go_simp
 | 2, hv => cases hv; go_simp
 | 3, hv => cases hv; go_simp
 | 4, hv => cases hv; go_simp
 | 5, hv => cases hv; go_simp
 | 6, hv => cases hv; go_simp
 | 7, hv => cases hv; go_simp
 | 8, hv => cases hv; go_simp
 | 9, hv => cases hv; go_simp
 | 10, hv => cases hv; go_simp
 | 11, hv => cases hv; go_simp
 | 12, hv => cases hv; go_simp

theorem parse_six {l : List UInt8} {x : Tx} (h : parse l = some x) : ∀ t ∈ x.tins, t.length = 6 := fun t ht => ((parse_iff.1 h).1.tins t ht).1

theorem read1_ok (l : List UInt8) (m : Int) (k q : Nat) (w : World) (hl : l.length ≤ 900) (hm : w.cell? ⟨1, 0, none⟩ = some (.int .i64 m)) (hk : w.cell? ⟨k, 0, none⟩ = some (.string (bs l)))
  (hq : SOwn w q noSI none 0) (x : Tx) (hp : parse l = some x) :
  Calls Tryz.prog 104 #[.pointer (some ⟨k, 0, none⟩), .pointer (some ⟨q, 0, none⟩)] w fun e w' => (∃ v, e = .returned v) ∧ Turned q w w' ∧ ∃ oa cap, SOwn w' q (siOf x) oa cap ∧ w'.ownsRow w.heap.size 82 6 (.slice oa x.tins.length cap) x.tins.length (tinCells x.tins) := by
 have Hp := Lib.hid hp
 have Hq := Lib.hid hq
 have hlt := hq.lt
 clear hp hq
 go_enter Tryz.func104, Tryz.ntmps104
 go_wp2_with (first | (go_at_call 105; refine (parsed_any l m _ hl hm).mono ?_; rintro e w1 ⟨⟨hpo, _⟩, hE⟩; obtain ⟨oa, cap, rfl, ho⟩ := hpo x Hp.out; have Ho := Lib.hid ho; have HE := Lib.hid hE; have h1 := Hq.out.ext hE; have H1 := Lib.hid h1; clear ho hpo h1 hE; have r0 := H1.out.box 0 _ rfl; have r1 := H1.out.box 1 _ rfl; have r2 := H1.out.box 2 _ rfl; have r3 := H1.out.box 3 _ rfl; have r4 := H1.out.box 4 _ rfl; have r5 := H1.out.box 5 _ rfl; have r6 := H1.out.box 6 _ rfl; have r7 := H1.out.box 7 _ rfl; have r8 := H1.out.box 8 _ rfl; have r9 := H1.out.box 9 _ rfl; have r10 := H1.out.box 10 _ rfl; have r11 := H1.out.box 11 _ rfl; have r12 := H1.out.box 12 _ rfl; have q0 := H1.out.fr 0 (by omega); have q1 := H1.out.fr 1 (by omega); have q2 := H1.out.fr 2 (by omega); have q3 := H1.out.fr 3 (by omega); have q4 := H1.out.fr 4 (by omega); have q5 := H1.out.fr 5 (by omega); have q6 := H1.out.fr 6 (by omega); have q7 := H1.out.fr 7 (by omega); have q8 := H1.out.fr 8 (by omega); have q9 := H1.out.fr 9 (by omega); have q10 := H1.out.fr 10 (by omega); have q11 := H1.out.fr 11 (by omega); have q12 := H1.out.fr 12 (by omega)))
 clear q0 q1 q2 q3 q4 q5 q6 q7 q8 q9 q10 q11 q12 r0 r1 r2 r3 r4 r5 r6 r7 r8 r9 r10 r11 r12
 go_end0
 have hT : Turned q w1 (putW w1 q (siOf x) oa cap) := turned_put _ _ _ _ _
 refine ⟨⟨_, rfl⟩, (Turned.of_ext HE.out).trans hT, oa, cap, H1.out.put (siOf x) oa cap, ?_⟩
 exact row_mv (I := fun i => i = q) Ho.out (Mv.of_grown hT fun i hi => by cases hi; rfl) (row_not Ho.out hlt)

theorem read1_bad (l : List UInt8) (m : Int) (k q : Nat) (w : World) (hl : l.length ≤ 900) (hm : w.cell? ⟨1, 0, none⟩ = some (.int .i64 m)) (hk : w.cell? ⟨k, 0, none⟩ = some (.string (bs l))) (hp : parse l = none) :
  Calls Tryz.prog 104 #[.pointer (some ⟨k, 0, none⟩), .pointer (some ⟨q, 0, none⟩)] w fun e w' => NoText e ∧ Ext w w' := by
 have Hp := Lib.hid hp
 clear hp
 go_enter Tryz.func104, Tryz.ntmps104
 go_wp2_with (first | (go_at_call 105; refine (parsed_any l m _ hl hm).mono ?_; rintro e w1 ⟨⟨_, hpo⟩, hE⟩; obtain ⟨s, rfl⟩ := hpo Hp.out))
 exact ⟨rfl, ⟨s, rfl⟩, hE⟩

theorem enters104 (args : Array Value) (w : World) : (callFunc 104 args).run Tryz.prog w = .ok (.enter 104 args) w := by kernel_rfl

theorem ext2 (w : World) (A B C : Obj) : Ext w (((w.alloc A).alloc B).alloc C) := (((Ext.refl w).alloc _).alloc _).alloc _
abbrev W3 (l : List UInt8) (w : World) : World := ((w.alloc (.cells #[.string (bs l)] 9)).alloc (.cells #[.int .i64 0, .int .i64 0, .int .i64 0, .int .i64 0, .int .i64 0, .int .i64 0, .int .i64 0, .int .i64 0, .int .i64 0, .int .i64 0, .int .i64 0, .int .i64 0, .slice none 0 0] 28)).alloc (.cells #[.int .i64 0, .int .i64 0, .int .i64 0, .int .i64 0, .int .i64 0, .int .i64 0, .int .i64 0, .int .i64 0, .int .i64 0, .int .i64 0, .int .i64 0, .int .i64 0, .slice none 0 0] 28)
theorem w3_res (l : List UInt8) (w : World) : SOwn (W3 l w) (w.heap.size + 1) noSI none 0 := by
 have := sheet_new (w.alloc (.cells #[.string (bs l)] 9))
 rw [World.size_alloc] at this
 exact this.ext ((Ext.refl _).alloc _)
theorem w3_own (l : List UInt8) (w : World) : SOwn (W3 l w) (w.heap.size + 1 + 1) noSI none 0 := by
 have := sheet_new ((w.alloc (.cells #[.string (bs l)] 9)).alloc (.cells #[.int .i64 0, .int .i64 0, .int .i64 0, .int .i64 0, .int .i64 0, .int .i64 0, .int .i64 0, .int .i64 0, .int .i64 0, .int .i64 0, .int .i64 0, .int .i64 0, .slice none 0 0] 28))
 simpa only [World.size_alloc] using this

theorem read_long (l : List UInt8) (w : World) (hl : ¬ l.length ≤ 160) (hl2 : l.length ≤ 9223372036854775807) : Calls Tryz.prog 64 #[.string (bs l)] w fun e w' => e = .returned (.tuple #[sheetV noSI none 0, .int .i64 3]) ∧ Ext w w' := by
 have hb : (160 : Int) < (l.length : Int) := by omega
 go_enter Tryz.func64, Tryz.ntmps64
 go_wp2
 refine bodyPost_ret (v := .tuple #[sheetV noSI none 0, .int .i64 3]) (results_cellst (n := 13) rfl (by kernel_rfl) (by kernel_rfl) _ (w.heap.size + 1) (sheetC noSI none 0).toList _ rfl (by simp) (by simp) (fun j v hv => ?_)) (by simp) ⟨rfl, ((Ext.refl w).alloc _).alloc _⟩
 match j, hv with
 | 0, hv => cases hv; go_simp
 | 1, hv => cases hv; go_simp
 | 2, hv => cases hv; go_simp
 | 3, hv => cases hv; go_simp
 | 4, hv => cases hv; go_simp
 | 5, hv => cases hv; go_simp
 | 6, hv => cases hv; go_simp
 | 7, hv => cases hv; go_simp
 | 8, hv => cases hv; go_simp
 | 9, hv => cases hv; go_simp
 | 10, hv => cases hv; go_simp
 | 11, hv => cases hv; go_simp
 | 12, hv => cases hv; go_simp

theorem read_text (l : List UInt8) (m : Int) (w : World) (hl : l.length ≤ 160) (hm : w.cell? ⟨1, 0, none⟩ = some (.int .i64 m)) (hp : parse l = none) : Calls Tryz.prog 64 #[.string (bs l)] w fun e w' => e = .returned (.tuple #[sheetV noSI none 0, .int .i64 4]) ∧ Ext w w' := by
 have hb : ¬ ((160 : Int) < (l.length : Int)) := by omega
 have hmf := makeFunc_run
 have hA : Calls Tryz.prog 76 #[.func (.func 104) #[] #[.pointer (some ⟨w.heap.size, 0, none⟩), .pointer (some ⟨w.heap.size + 1 + 1, 0, none⟩)]] (W3 l w) fun e w' => e = .returned (.int .i64 4) ∧ Ext (W3 l w) w' :=
  attempt_text_ext 104 _ _ enters104 (read1_bad l m w.heap.size (w.heap.size + 1 + 1) _ (by omega) (cell_ext ((ext2 w _ _ _).alloc _) hm) (by go_simp) hp)
 have HA := Lib.hid hA
 have HR := Lib.hid (w3_res l w)
 clear hA hp hm
 go_enter Tryz.func64, Tryz.ntmps64
 go_wp2_with (first | (go_at_call 76; refine HA.out.mono ?_; rintro e w1 ⟨rfl, hE⟩; have H1 := Lib.hid (HR.out.ext hE); have HE := Lib.hid hE; clear hE; have r0 := H1.out.box 0 _ rfl; have r1 := H1.out.box 1 _ rfl; have r2 := H1.out.box 2 _ rfl; have r3 := H1.out.box 3 _ rfl; have r4 := H1.out.box 4 _ rfl; have r5 := H1.out.box 5 _ rfl; have r6 := H1.out.box 6 _ rfl; have r7 := H1.out.box 7 _ rfl; have r8 := H1.out.box 8 _ rfl; have r9 := H1.out.box 9 _ rfl; have r10 := H1.out.box 10 _ rfl; have r11 := H1.out.box 11 _ rfl; have r12 := H1.out.box 12 _ rfl; have q0 := H1.out.fr 0 (by omega); have q1 := H1.out.fr 1 (by omega); have q2 := H1.out.fr 2 (by omega); have q3 := H1.out.fr 3 (by omega); have q4 := H1.out.fr 4 (by omega); have q5 := H1.out.fr 5 (by omega); have q6 := H1.out.fr 6 (by omega); have q7 := H1.out.fr 7 (by omega); have q8 := H1.out.fr 8 (by omega); have q9 := H1.out.fr 9 (by omega); have q10 := H1.out.fr 10 (by omega); have q11 := H1.out.fr 11 (by omega); have q12 := H1.out.fr 12 (by omega)))
 clear q0 q1 q2 q3 q4 q5 q6 q7 q8 q9 q10 q11 q12 r0 r1 r2 r3 r4 r5 r6 r7 r8 r9 r10 r11 r12
 refine bodyPost_ret (v := .tuple #[sheetV noSI none 0, .int .i64 4]) (results_cellst (n := 13) rfl (by kernel_rfl) (by kernel_rfl) _ (w.heap.size + 1) (sheetC noSI none 0).toList _ rfl (by simp) (by simp) (fun j v hv => (H1.out.put noSI none 0).box j v (by simpa using hv))) (by simp) ⟨rfl, ?_⟩
 exact ext_own ((ext2 w _ _ _).trans HE.out) (turned_put _ (w.heap.size + 1) noSI none 0) (by omega)

theorem attempt_read (l : List UInt8) (m : Int) (w : World) (hl : l.length ≤ 160) (hm : w.cell? ⟨1, 0, none⟩ = some (.int .i64 m)) (x : Tx) (hp : parse l = some x) :
  Calls Tryz.prog 76 #[.func (.func 104) #[] #[.pointer (some ⟨w.heap.size, 0, none⟩), .pointer (some ⟨w.heap.size + 1 + 1, 0, none⟩)]] (W3 l w) fun e w' => e = .returned (.int .i64 0) ∧ Ext w w' ∧ SOwn w' (w.heap.size + 1) noSI none 0 ∧ w.heap.size + 3 ≤ w'.heap.size ∧
   ∃ oa cap, SOwn w' (w.heap.size + 1 + 1) (siOf x) oa cap ∧ w'.ownsRow (w.heap.size + 3) 82 6 (.slice oa x.tins.length cap) x.tins.length (tinCells x.tins) := by
 refine (attempt_ok 104 _ _ (fun w1 => Ext w w1 ∧ SOwn w1 (w.heap.size + 1) noSI none 0 ∧ w.heap.size + 4 ≤ w1.heap.size ∧ ∃ oa cap, SOwn w1 (w.heap.size + 1 + 1) (siOf x) oa cap ∧ w1.ownsRow (w.heap.size + 4) 82 6 (.slice oa x.tins.length cap) x.tins.length (tinCells x.tins)) enters104
  ((read1_ok l m w.heap.size (w.heap.size + 1 + 1) _ (by omega) (cell_ext ((ext2 w _ _ _).alloc _) hm) (by go_simp) ((w3_own l w).ext ((Ext.refl _).alloc _)) x hp).mono ?_)).mono ?_
 ·rintro e w1 ⟨h1, h2, oa, cap, h3, h5⟩
  have hsz := h2.size
  simp only [World.size_alloc] at hsz
  refine ⟨h1, h2.cell (by simp) (by go_simp), (h2.frozen (by simp) (by simp)).trans (by go_simp), ext_own ((ext2 w _ _ _).alloc _) h2 (by omega), ?_, by omega, oa, cap, h3, row_low h5 (by simp)⟩
  exact ((w3_res l w).ext ((Ext.refl _).alloc _)).turned h2 (by omega)
 ·rintro e w' ⟨h1, w1, ⟨h2, h3, h4, oa, cap, h5, h7⟩, h8⟩
  have hsz := h8.size
  refine ⟨h1, ext_own h2 h8 (by simp; omega), h3.turned h8 (by simp <;> omega), by omega, oa, cap, h5.turned h8 (by simp), ?_⟩
  exact row_low (row_mv (I := fun i => i = w.heap.size + 1 + 1 + 1) h7 (Mv.of_grown h8 fun i hi => by simp at hi; exact hi.symm) (fun i hi e => by have := (World.ownsRow.lt h7 i hi).1; omega)) (by omega)

theorem read_arg (l : List UInt8) (m : Int) (w : World) (hl : l.length ≤ 160) (hm : w.cell? ⟨1, 0, none⟩ = some (.int .i64 m)) (x : Tx) (hp : parse l = some x) (hbd : sheetB (siOf x) = false) :
  Calls Tryz.prog 64 #[.string (bs l)] w fun e w' => e = .returned (.tuple #[sheetV noSI none 0, .int .i64 2]) ∧ Ext w w' := by
 have hb : ¬ ((160 : Int) < (l.length : Int)) := by omega
 have hmf := makeFunc_run
 have HA := Lib.hid (attempt_read l m w hl hm x hp)
 have HS := Lib.hid (parse_six hp)
 clear hp hm
 go_enter Tryz.func64, Tryz.ntmps64
 go_wp2_with (first | (go_at_call 76; refine HA.out.mono ?_; rintro e w1 ⟨rfl, hE, hrb, hsz, oa, cap, hso, hro⟩; have Hrb := Lib.hid hrb; obtain ⟨oa0, cap0, hv0, _, t2, _, htin⟩ := tins_row hro HS.out; obtain ⟨rfl, rfl⟩ : oa = oa0 ∧ cap = cap0 := (by injection hv0 with e1 e2 e3; exact ⟨e1, e3⟩); have HE := Lib.hid hE; have Htin := Lib.hid htin; clear hrb hro hE htin hv0; have c0 := hso.box 0 _ rfl; have c1 := hso.box 1 _ rfl; have c2 := hso.box 2 _ rfl; have c3 := hso.box 3 _ rfl; have c4 := hso.box 4 _ rfl; have c5 := hso.box 5 _ rfl; have c6 := hso.box 6 _ rfl; have c7 := hso.box 7 _ rfl; have c8 := hso.box 8 _ rfl; have c9 := hso.box 9 _ rfl; have c10 := hso.box 10 _ rfl; have c11 := hso.box 11 _ rfl; have c12 : World.cell? w1 ⟨(w.heap.size + 1 + 1), 12, none⟩ = some (.slice oa (siOf x).tins.length cap) := hso.box 12 _ rfl; clear hso) | (go_at_call 72; have hib := isSheet_any (siOf x) oa cap w1 Htin.out (by rw [tinsLen]; unfold maxLen at t2; omega); rw [hbd] at hib; refine hib.mono ?_; rintro e w2 ⟨rfl, hE2⟩; have H1 := Lib.hid (Hrb.out.ext hE2); have HE2 := Lib.hid hE2; clear hE2; have r0 := H1.out.box 0 _ rfl; have r1 := H1.out.box 1 _ rfl; have r2 := H1.out.box 2 _ rfl; have r3 := H1.out.box 3 _ rfl; have r4 := H1.out.box 4 _ rfl; have r5 := H1.out.box 5 _ rfl; have r6 := H1.out.box 6 _ rfl; have r7 := H1.out.box 7 _ rfl; have r8 := H1.out.box 8 _ rfl; have r9 := H1.out.box 9 _ rfl; have r10 := H1.out.box 10 _ rfl; have r11 := H1.out.box 11 _ rfl; have r12 := H1.out.box 12 _ rfl; have q0 := H1.out.fr 0 (by omega); have q1 := H1.out.fr 1 (by omega); have q2 := H1.out.fr 2 (by omega); have q3 := H1.out.fr 3 (by omega); have q4 := H1.out.fr 4 (by omega); have q5 := H1.out.fr 5 (by omega); have q6 := H1.out.fr 6 (by omega); have q7 := H1.out.fr 7 (by omega); have q8 := H1.out.fr 8 (by omega); have q9 := H1.out.fr 9 (by omega); have q10 := H1.out.fr 10 (by omega); have q11 := H1.out.fr 11 (by omega); have q12 := H1.out.fr 12 (by omega)))
 clear q0 q1 q2 q3 q4 q5 q6 q7 q8 q9 q10 q11 q12 r0 r1 r2 r3 r4 r5 r6 r7 r8 r9 r10 r11 r12
 clear c0 c1 c2 c3 c4 c5 c6 c7 c8 c9 c10 c11 c12
 refine bodyPost_ret (v := .tuple #[sheetV noSI none 0, .int .i64 2]) (results_cellst (n := 13) rfl (by kernel_rfl) (by kernel_rfl) _ (w.heap.size + 1) (sheetC noSI none 0).toList _ rfl (by simp) (by simp) (fun j v hv => (H1.out.put noSI none 0).box j v (by simpa using hv))) (by simp) ⟨rfl, ?_⟩
 exact ext_own (HE.out.trans HE2.out) (turned_put _ (w.heap.size + 1) noSI none 0) (by omega)

end Go.Proofs.YtjpekonfjihcoaaGreatDoor
/- Contract: tint.Read: what it reads. No condition. -/
namespace Go.Proofs.YtjpekonfjihcoaaGreatDoor
open Go.RowKit Go.My Go.TintM

theorem row_tins {W : World} {B cap : Nat} {oa : Option Addr} {ts : List (List Nat)} (h : W.ownsRow B 82 6 (.slice oa ts.length cap) ts.length (tinCells ts)) (h6 : ∀ t ∈ ts, t.length = 6) : TinsAt W oa (ts.map upL) := by
 obtain ⟨oa0, cap0, hv0, _, _, _, htin⟩ := tins_row h h6
 injection hv0 with e1 e2 e3
 rw [e1]
 exact htin

theorem read_ok (l : List UInt8) (m : Int) (w : World) (hl : l.length ≤ 160) (hm : w.cell? ⟨1, 0, none⟩ = some (.int .i64 m)) (x : Tx) (hp : parse l = some x) (hbd : sheetB (siOf x) = true) :
  Calls Tryz.prog 64 #[.string (bs l)] w fun e w' => (∃ oa cap, e = .returned (.tuple #[sheetV (siOf x) oa cap, .int .i64 0]) ∧ TinsAt w' oa (siOf x).tins) ∧ Ext w w' := by
 have hb : ¬ ((160 : Int) < (l.length : Int)) := by omega
 have hmf := makeFunc_run
 have HA := Lib.hid (attempt_read l m w hl hm x hp)
 have HS := Lib.hid (parse_six hp)
 clear hp hm
 go_enter Tryz.func64, Tryz.ntmps64
 go_wp2_with (first | (go_at_call 76; refine HA.out.mono ?_; rintro e w1 ⟨rfl, hE, hrb, hsz, oa, cap, hso, hro⟩; have Hrb := Lib.hid hrb; obtain ⟨oa0, cap0, hv0, _, t2, _, htin⟩ := tins_row hro HS.out; obtain ⟨rfl, rfl⟩ : oa = oa0 ∧ cap = cap0 := (by injection hv0 with e1 e2 e3; exact ⟨e1, e3⟩); have HE := Lib.hid hE; have Htin := Lib.hid htin; have Hro := Lib.hid hro; clear hrb hro hE htin hv0; have c0 := hso.box 0 _ rfl; have c1 := hso.box 1 _ rfl; have c2 := hso.box 2 _ rfl; have c3 := hso.box 3 _ rfl; have c4 := hso.box 4 _ rfl; have c5 := hso.box 5 _ rfl; have c6 := hso.box 6 _ rfl; have c7 := hso.box 7 _ rfl; have c8 := hso.box 8 _ rfl; have c9 := hso.box 9 _ rfl; have c10 := hso.box 10 _ rfl; have c11 := hso.box 11 _ rfl; have c12 : World.cell? w1 ⟨(w.heap.size + 1 + 1), 12, none⟩ = some (.slice oa (siOf x).tins.length cap) := hso.box 12 _ rfl; have Hso := Lib.hid hso; clear hso) | (go_at_call 72; have hib := isSheet_any (siOf x) oa cap w1 Htin.out (by rw [tinsLen]; unfold maxLen at t2; omega); rw [hbd] at hib; refine hib.mono ?_; rintro e w2 ⟨rfl, hE2⟩; have H1 := Lib.hid (Hrb.out.ext hE2); clear c0 c1 c2 c3 c4 c5 c6 c7 c8 c9 c10 c11 c12; have c0 : World.cell? w2 ⟨(w.heap.size + 1 + 1), 0, none⟩ = some (.int .i64 (siOf x).o0) := (Hso.out.ext hE2).box 0 _ rfl; have c1 : World.cell? w2 ⟨(w.heap.size + 1 + 1), 1, none⟩ = some (.int .i64 (siOf x).o1) := (Hso.out.ext hE2).box 1 _ rfl; have c2 : World.cell? w2 ⟨(w.heap.size + 1 + 1), 2, none⟩ = some (.int .i64 (siOf x).o2) := (Hso.out.ext hE2).box 2 _ rfl; have c3 : World.cell? w2 ⟨(w.heap.size + 1 + 1), 3, none⟩ = some (.int .i64 (siOf x).a0) := (Hso.out.ext hE2).box 3 _ rfl; have c4 : World.cell? w2 ⟨(w.heap.size + 1 + 1), 4, none⟩ = some (.int .i64 (siOf x).b0) := (Hso.out.ext hE2).box 4 _ rfl; have c5 : World.cell? w2 ⟨(w.heap.size + 1 + 1), 5, none⟩ = some (.int .i64 (siOf x).a1) := (Hso.out.ext hE2).box 5 _ rfl; have c6 : World.cell? w2 ⟨(w.heap.size + 1 + 1), 6, none⟩ = some (.int .i64 (siOf x).b1) := (Hso.out.ext hE2).box 6 _ rfl; have c7 : World.cell? w2 ⟨(w.heap.size + 1 + 1), 7, none⟩ = some (.int .i64 (siOf x).a2) := (Hso.out.ext hE2).box 7 _ rfl; have c8 : World.cell? w2 ⟨(w.heap.size + 1 + 1), 8, none⟩ = some (.int .i64 (siOf x).b2) := (Hso.out.ext hE2).box 8 _ rfl; have c9 : World.cell? w2 ⟨(w.heap.size + 1 + 1), 9, none⟩ = some (.int .i64 (siOf x).ylo) := (Hso.out.ext hE2).box 9 _ rfl; have c10 : World.cell? w2 ⟨(w.heap.size + 1 + 1), 10, none⟩ = some (.int .i64 (siOf x).yhi) := (Hso.out.ext hE2).box 10 _ rfl; have c11 : World.cell? w2 ⟨(w.heap.size + 1 + 1), 11, none⟩ = some (.int .i64 (siOf x).off) := (Hso.out.ext hE2).box 11 _ rfl; have c12 : World.cell? w2 ⟨(w.heap.size + 1 + 1), 12, none⟩ = some (.slice oa (siOf x).tins.length cap) := (Hso.out.ext hE2).box 12 _ rfl; have HE2 := Lib.hid hE2; clear hE2; have r0 := H1.out.box 0 _ rfl; have r1 := H1.out.box 1 _ rfl; have r2 := H1.out.box 2 _ rfl; have r3 := H1.out.box 3 _ rfl; have r4 := H1.out.box 4 _ rfl; have r5 := H1.out.box 5 _ rfl; have r6 := H1.out.box 6 _ rfl; have r7 := H1.out.box 7 _ rfl; have r8 := H1.out.box 8 _ rfl; have r9 := H1.out.box 9 _ rfl; have r10 := H1.out.box 10 _ rfl; have r11 := H1.out.box 11 _ rfl; have r12 := H1.out.box 12 _ rfl; have q0 := H1.out.fr 0 (by omega); have q1 := H1.out.fr 1 (by omega); have q2 := H1.out.fr 2 (by omega); have q3 := H1.out.fr 3 (by omega); have q4 := H1.out.fr 4 (by omega); have q5 := H1.out.fr 5 (by omega); have q6 := H1.out.fr 6 (by omega); have q7 := H1.out.fr 7 (by omega); have q8 := H1.out.fr 8 (by omega); have q9 := H1.out.fr 9 (by omega); have q10 := H1.out.fr 10 (by omega); have q11 := H1.out.fr 11 (by omega); have q12 := H1.out.fr 12 (by omega)))
 clear q0 q1 q2 q3 q4 q5 q6 q7 q8 q9 q10 q11 q12 r0 r1 r2 r3 r4 r5 r6 r7 r8 r9 r10 r11 r12
 clear c0 c1 c2 c3 c4 c5 c6 c7 c8 c9 c10 c11 c12
 refine bodyPost_ret (v := .tuple #[sheetV (siOf x) oa cap, .int .i64 0]) (results_cellst (n := 13) rfl (by kernel_rfl) (by kernel_rfl) _ (w.heap.size + 1) (sheetC (siOf x) oa cap).toList _ rfl (by simp) (by simp) (fun j v hv => by have hh := (H1.out.put (siOf x) oa cap).box j v (by simpa using hv); exact hh)) (by simp) ⟨⟨oa, cap, rfl, ?_⟩, ?_⟩
 ·show TinsAt (putW w2 (w.heap.size + 1) (siOf x) oa cap) oa (x.tins.map upL)
  have hr2 := row_mv Hro.out (Mv.of_ext (I := fun _ => False) HE2.out) (fun _ _ k => k)
  have hr3 : (putW w2 (w.heap.size + 1) (siOf x) oa cap).ownsRow (w.heap.size + 3) 82 6 (.slice oa x.tins.length cap) x.tins.length (tinCells x.tins) := row_mv (I := fun i => i = w.heap.size + 1) hr2 (Mv.of_grown (turned_put w2 (w.heap.size + 1) (siOf x) oa cap) fun i hi => by cases hi; rfl) (row_not hr2 (by omega))
  generalize putW w2 (w.heap.size + 1) (siOf x) oa cap = W9 at hr3 ⊢
  exact row_tins hr3 HS.out
 ·exact ext_own (HE.out.trans HE2.out) (turned_put _ (w.heap.size + 1) (siOf x) oa cap) (by omega)

end Go.Proofs.YtjpekonfjihcoaaGreatDoor
