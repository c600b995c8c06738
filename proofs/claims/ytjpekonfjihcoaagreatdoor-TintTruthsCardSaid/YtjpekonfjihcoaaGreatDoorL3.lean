/- The walk of TintTruths: it answers true. No condition. -/
import Derived.ArgAppend
import Derived.Below
import Derived.BigQuiet
import Derived.Deep.DeepCutAuto
import Derived.Deep.DeepFit
import Derived.Deep.LoopGhost
import Derived.Deep.QuietTactic
import Derived.Deep.RegionHeld
import Derived.Deep.RegionHeld3
import Derived.Deep.RegionWith
import Derived.Deep.Upon
import Derived.Defers
import Derived.Laws.BytesArg
import Derived.Laws.EntriesVeiled
import Derived.Laws.OwnMore
import Derived.Lib.Hide
import Derived.Lib.IndexBytes
import Derived.Lib.ItoaNum
import Derived.Lib.SplitLaws
import Derived.LoopIn
import Derived.LoopNIn
import Derived.Maps.AppendAt
import Derived.Maps.Keyed
import Derived.Maps.OwnIn
import Derived.OrdersHeld
import Derived.OwnWalkIn
import Derived.RangeFuncBound
import Derived.RangeFuncCalls
import Derived.RangeFuncLeaves
import Derived.RangeFuncNested
import Derived.Recover
import Derived.RegionIn
import Derived.Shelf.Abstract
import Derived.Shelf.Strconv.Itoa3
import Derived.Shelf.Strings.Split
import Derived.TacticsIn
import Derived.TacticsInMore
import Derived.Test.YtjpekonfjihcoaaGreatDoorProg
import Derived.WalkKit
import Derived.WalkLawsBesides
import Derived.WalkSpells
import Derived.Test.YtjpekonfjihcoaaGreatDoorM2
import Derived.Test.YtjpekonfjihcoaaGreatDoorM5
import Derived.Test.YtjpekonfjihcoaaGreatDoorM28
import Derived.Test.YtjpekonfjihcoaaGreatDoorM19
import Derived.Test.YtjpekonfjihcoaaGreatDoorM4
import Derived.Test.YtjpekonfjihcoaaGreatDoorM3
import Derived.Test.YtjpekonfjihcoaaGreatDoorM16
import Derived.Test.YtjpekonfjihcoaaGreatDoorM27
import Derived.Test.YtjpekonfjihcoaaGreatDoorM1
import Derived.Test.YtjpekonfjihcoaaGreatDoorM33
namespace Go.TintM
end Go.TintM
set_option linter.unusedVariables false
set_option linter.unusedSimpArgs false
namespace Go.Proofs.YtjpekonfjihcoaaGreatDoor
open Go.RowKit Go.My Go.TintM

set_option maxRecDepth 100000 in
set_option maxHeartbeats 4000000 in
theorem law3g {s : Sh} (g : Fine s) {m : List Nat} (hm : IsMix s m) {T : Tr} (hT : GoodT s T) {ot ol ob : Option Addr} {cap cl cb : Nat} {w : World} (h : TinsAt w ot (ofSh s).tins) (hi : IntsAt w ol (upL m)) (ht : TrisAt w ob (ofTr T).tins) (k : Int) (hk : w.cell? ⟨1, 0, none⟩ = some (.int .i64 k)) :
    Calls Tryz.prog 3 #[sheetV (ofSh s) ot cap, .slice ol m.length cl, truthV (ofTr T) ob cb] w fun e w' => e = .returned (.bool true) ∧ Ext w w' := by
  have B := Lib.hid ((LB.start (cap := cap) h).alloc (.cells (truthC (ofTr T) ob cb) 32))
  have U := Lib.hid (show TruthBox ((w.alloc (.cells (sheetC (ofSh s) ot cap) 28)).alloc (.cells (truthC (ofTr T) ob cb) 32)) (w.heap.size + 1) (ofTr T) ob cb by
    have := TruthBox.new (w.alloc (.cells (sheetC (ofSh s) ot cap) 28)) (ofTr T) ob cb
    simpa only [World.size_alloc] using this)
  have R21 := Lib.hid (fun W => short_any (ofSh s) ot cap W (by rw [tins_len]; have := g.len2; omega))
  rw [decide_eq_true (show (ofSh s).tins.length ≤ 6 by rw [tins_len]; have := g.len2; omega)] at R21
  have R23 := Lib.hid (fun W (hW : LB (ofSh s) ot cap w W) => sTrue_ok s g m hm T hT ot cap ol cl ob cb W hW.tins (hi.ext hW.ext) (ht.ext hW.ext))
  have R24 := Lib.hid (fun W (hW : LB (ofSh s) ot cap w W) => rSheet_any (ofSh s) ot cap W hW.tins (by rw [tins_len]; have := g.len2; omega))
  have R25 := Lib.hid (fun W (hW : LB (ofSh s) ot cap w W) => rMix_any (ofSh s) ot cap (upL m) ol cl W (hi.ext hW.ext) (by rw [upL_length]; have := hm.len; have := g.len2; omega))
  rw [upL_length] at R25
  have R26 := Lib.hid (fun W (hW : LB (ofSh s) ot cap w W) => rTruth_any s g ot cap (ofTr T) ob cb W hW.tins (ht.ext hW.ext) (by have := hT.len; have := g.len2; simp [ofTr]; omega))
  have R27 := Lib.hid (fun W (hW : LB (ofSh s) ot cap w W) => rTrue_any s g m hm T hT ot cap ol cl ob cb W (hi.ext hW.ext) (ht.ext hW.ext))
  have Rk := Lib.hid (fun (W : World) (hW : LB (ofSh s) ot cap w W) => known_any W k (cell_ext hW.ext hk))
  simp only [sheet_of g, mix_of hm, truth_of hT] at R24 R25 R26
  have hml : ¬ (6 : Int) < (m.length : Int) := by have := hm.len; have := g.len2; omega
  have htl : ¬ (6 : Int) < ((ofTr T).tins.length : Int) := by have := hT.len; have := g.len2; simp [ofTr]; omega
  clear g hm hT h hi ht hk
  generalize trueOf s m T = q at *
  go_enter Tryz.func3, Tryz.ntmps3
  go_wp2_with (first | (go_at_call 21; refine (R21.out _).mono ?_; rintro e w9 ⟨rfl, hE9⟩; replace B := Lib.hid (B.out.next hE9); (try clear c0 c1 c2 c3 c4 c5 c6 c7 c8 c9 c10 c11 c12); have c0 := B.out.box 0 _ rfl; have c1 := B.out.box 1 _ rfl; have c2 := B.out.box 2 _ rfl; have c3 := B.out.box 3 _ rfl; have c4 := B.out.box 4 _ rfl; have c5 := B.out.box 5 _ rfl; have c6 := B.out.box 6 _ rfl; have c7 := B.out.box 7 _ rfl; have c8 := B.out.box 8 _ rfl; have c9 := B.out.box 9 _ rfl; have c10 := B.out.box 10 _ rfl; have c11 := B.out.box 11 _ rfl; have c12 := B.out.box 12 _ rfl; replace U := Lib.hid (U.out.ext hE9); (try clear v0 v1 v2 v3 v4); have v0 : World.cell? w9 ⟨(w.heap.size + 1), 0, none⟩ = some (.slice ob (ofTr T).tins.length cb) := U.out 0 _ rfl; have v1 := U.out 1 _ rfl; have v2 := U.out 2 _ rfl; have v3 := U.out 3 _ rfl; have v4 := U.out 4 _ rfl; clear hE9) | (go_at_call 23; refine (R23.out _ B.out).mono ?_; rintro e w9 ⟨rfl, hE9⟩; replace B := Lib.hid (B.out.next hE9); (try clear c0 c1 c2 c3 c4 c5 c6 c7 c8 c9 c10 c11 c12); have c0 := B.out.box 0 _ rfl; have c1 := B.out.box 1 _ rfl; have c2 := B.out.box 2 _ rfl; have c3 := B.out.box 3 _ rfl; have c4 := B.out.box 4 _ rfl; have c5 := B.out.box 5 _ rfl; have c6 := B.out.box 6 _ rfl; have c7 := B.out.box 7 _ rfl; have c8 := B.out.box 8 _ rfl; have c9 := B.out.box 9 _ rfl; have c10 := B.out.box 10 _ rfl; have c11 := B.out.box 11 _ rfl; have c12 := B.out.box 12 _ rfl; replace U := Lib.hid (U.out.ext hE9); (try clear v0 v1 v2 v3 v4); have v0 : World.cell? w9 ⟨(w.heap.size + 1), 0, none⟩ = some (.slice ob (ofTr T).tins.length cb) := U.out 0 _ rfl; have v1 := U.out 1 _ rfl; have v2 := U.out 2 _ rfl; have v3 := U.out 3 _ rfl; have v4 := U.out 4 _ rfl; clear hE9) | (go_at_call 24; refine (R24.out _ B.out).mono ?_; rintro e w9 ⟨rfl, hE9⟩; replace B := Lib.hid (B.out.next hE9); (try clear c0 c1 c2 c3 c4 c5 c6 c7 c8 c9 c10 c11 c12); have c0 := B.out.box 0 _ rfl; have c1 := B.out.box 1 _ rfl; have c2 := B.out.box 2 _ rfl; have c3 := B.out.box 3 _ rfl; have c4 := B.out.box 4 _ rfl; have c5 := B.out.box 5 _ rfl; have c6 := B.out.box 6 _ rfl; have c7 := B.out.box 7 _ rfl; have c8 := B.out.box 8 _ rfl; have c9 := B.out.box 9 _ rfl; have c10 := B.out.box 10 _ rfl; have c11 := B.out.box 11 _ rfl; have c12 := B.out.box 12 _ rfl; replace U := Lib.hid (U.out.ext hE9); (try clear v0 v1 v2 v3 v4); have v0 : World.cell? w9 ⟨(w.heap.size + 1), 0, none⟩ = some (.slice ob (ofTr T).tins.length cb) := U.out 0 _ rfl; have v1 := U.out 1 _ rfl; have v2 := U.out 2 _ rfl; have v3 := U.out 3 _ rfl; have v4 := U.out 4 _ rfl; clear hE9) | (go_at_call 25; refine (R25.out _ B.out).mono ?_; rintro e w9 ⟨rfl, hE9⟩; replace B := Lib.hid (B.out.next hE9); (try clear c0 c1 c2 c3 c4 c5 c6 c7 c8 c9 c10 c11 c12); have c0 := B.out.box 0 _ rfl; have c1 := B.out.box 1 _ rfl; have c2 := B.out.box 2 _ rfl; have c3 := B.out.box 3 _ rfl; have c4 := B.out.box 4 _ rfl; have c5 := B.out.box 5 _ rfl; have c6 := B.out.box 6 _ rfl; have c7 := B.out.box 7 _ rfl; have c8 := B.out.box 8 _ rfl; have c9 := B.out.box 9 _ rfl; have c10 := B.out.box 10 _ rfl; have c11 := B.out.box 11 _ rfl; have c12 := B.out.box 12 _ rfl; replace U := Lib.hid (U.out.ext hE9); (try clear v0 v1 v2 v3 v4); have v0 : World.cell? w9 ⟨(w.heap.size + 1), 0, none⟩ = some (.slice ob (ofTr T).tins.length cb) := U.out 0 _ rfl; have v1 := U.out 1 _ rfl; have v2 := U.out 2 _ rfl; have v3 := U.out 3 _ rfl; have v4 := U.out 4 _ rfl; clear hE9) | (go_at_call 26; refine (R26.out _ B.out).mono ?_; rintro e w9 ⟨rfl, hE9⟩; replace B := Lib.hid (B.out.next hE9); (try clear c0 c1 c2 c3 c4 c5 c6 c7 c8 c9 c10 c11 c12); have c0 := B.out.box 0 _ rfl; have c1 := B.out.box 1 _ rfl; have c2 := B.out.box 2 _ rfl; have c3 := B.out.box 3 _ rfl; have c4 := B.out.box 4 _ rfl; have c5 := B.out.box 5 _ rfl; have c6 := B.out.box 6 _ rfl; have c7 := B.out.box 7 _ rfl; have c8 := B.out.box 8 _ rfl; have c9 := B.out.box 9 _ rfl; have c10 := B.out.box 10 _ rfl; have c11 := B.out.box 11 _ rfl; have c12 := B.out.box 12 _ rfl; replace U := Lib.hid (U.out.ext hE9); (try clear v0 v1 v2 v3 v4); have v0 : World.cell? w9 ⟨(w.heap.size + 1), 0, none⟩ = some (.slice ob (ofTr T).tins.length cb) := U.out 0 _ rfl; have v1 := U.out 1 _ rfl; have v2 := U.out 2 _ rfl; have v3 := U.out 3 _ rfl; have v4 := U.out 4 _ rfl; clear hE9) | (go_at_call 27; refine (R27.out _ B.out).mono ?_; rintro e w9 ⟨rfl, hE9⟩; replace B := Lib.hid (B.out.next hE9); (try clear c0 c1 c2 c3 c4 c5 c6 c7 c8 c9 c10 c11 c12); have c0 := B.out.box 0 _ rfl; have c1 := B.out.box 1 _ rfl; have c2 := B.out.box 2 _ rfl; have c3 := B.out.box 3 _ rfl; have c4 := B.out.box 4 _ rfl; have c5 := B.out.box 5 _ rfl; have c6 := B.out.box 6 _ rfl; have c7 := B.out.box 7 _ rfl; have c8 := B.out.box 8 _ rfl; have c9 := B.out.box 9 _ rfl; have c10 := B.out.box 10 _ rfl; have c11 := B.out.box 11 _ rfl; have c12 := B.out.box 12 _ rfl; clear hE9) | (go_at_call 22; refine (Rk.out _ B.out).mono ?_; rintro e w9 ⟨rfl, hE9⟩; replace B := Lib.hid (B.out.next hE9); (try clear c0 c1 c2 c3 c4 c5 c6 c7 c8 c9 c10 c11 c12); have c0 := B.out.box 0 _ rfl; have c1 := B.out.box 1 _ rfl; have c2 := B.out.box 2 _ rfl; have c3 := B.out.box 3 _ rfl; have c4 := B.out.box 4 _ rfl; have c5 := B.out.box 5 _ rfl; have c6 := B.out.box 6 _ rfl; have c7 := B.out.box 7 _ rfl; have c8 := B.out.box 8 _ rfl; have c9 := B.out.box 9 _ rfl; have c10 := B.out.box 10 _ rfl; have c11 := B.out.box 11 _ rfl; have c12 := B.out.box 12 _ rfl; clear hE9))
  go_ret
  exact ⟨rfl, B.out.ext⟩

set_option maxRecDepth 100000 in
set_option maxHeartbeats 4000000 in
theorem law3 {S : SI} {l : List Int} {t : TI} {ot ol ob : Option Addr} {cap cl cb : Nat} {w : World} (h : SArg w S ot cap) (hl : LArg w l ol cl) (ht : UArg w t ob cb) (k : Int) (hk : w.cell? ⟨1, 0, none⟩ = some (.int .i64 k)) :
    Calls Tryz.prog 3 #[sheetV S ot cap, .slice ol l.length cl, truthV t ob cb] w fun e w' => e = .returned (.bool true) ∧ Ext w w' := by
  have B := Lib.hid ((LB.start (cap := cap) h.tins).alloc (.cells (truthC t ob cb) 32))
  have U := Lib.hid (show TruthBox ((w.alloc (.cells (sheetC S ot cap) 28)).alloc (.cells (truthC t ob cb) 32)) (w.heap.size + 1) t ob cb by
    have := TruthBox.new (w.alloc (.cells (sheetC S ot cap) 28)) t ob cb
    simpa only [World.size_alloc] using this)
  have R21 := Lib.hid (fun W => short_any S ot cap W h.small)
  have R24 := Lib.hid (fun W (hW : LB S ot cap w W) => rSheet_any S ot cap W hW.tins h.small)
  have Rk := Lib.hid (fun (W : World) (hW : LB S ot cap w W) => known_any W k (cell_ext hW.ext hk))
  by_cases h6 : S.tins.length ≤ 6
  · rw [decide_eq_true h6] at R21
    by_cases hl6 : l.length ≤ 6
    · have hl6I : ¬ (6 : Int) < (l.length : Int) := by omega
      by_cases ht6 : t.tins.length ≤ 6
      · have ht6I : ¬ (6 : Int) < (t.tins.length : Int) := by omega
        have R25 := Lib.hid (fun W (hW : LB S ot cap w W) => rMix_any S ot cap l ol cl W (hl.ints.ext hW.ext) (by omega))
        cases hb : sheetB S && mixB S l
        · have R23 := Lib.hid (fun W (hW : LB S ot cap w W) => sTrue_bad S ot cap l ol cl t ob cb W hW.tins h.small (hl.ints.ext hW.ext) (by omega) hb)
          cases hs : sheetB S
          · rw [hs] at R24
            clear h hl ht hk hb hs h6 hl6 ht6
            go_enter Tryz.func3, Tryz.ntmps3
            go_wp2_with (first | (go_at_call 21; refine (R21.out _).mono ?_; rintro e w9 ⟨rfl, hE9⟩; replace B := Lib.hid (B.out.next hE9); (try clear c0 c1 c2 c3 c4 c5 c6 c7 c8 c9 c10 c11 c12); have c0 := B.out.box 0 _ rfl; have c1 := B.out.box 1 _ rfl; have c2 := B.out.box 2 _ rfl; have c3 := B.out.box 3 _ rfl; have c4 := B.out.box 4 _ rfl; have c5 := B.out.box 5 _ rfl; have c6 := B.out.box 6 _ rfl; have c7 := B.out.box 7 _ rfl; have c8 := B.out.box 8 _ rfl; have c9 := B.out.box 9 _ rfl; have c10 := B.out.box 10 _ rfl; have c11 := B.out.box 11 _ rfl; have c12 := B.out.box 12 _ rfl; replace U := Lib.hid (U.out.ext hE9); (try clear v0 v1 v2 v3 v4); have v0 : World.cell? w9 ⟨(w.heap.size + 1), 0, none⟩ = some (.slice ob t.tins.length cb) := U.out 0 _ rfl; have v1 := U.out 1 _ rfl; have v2 := U.out 2 _ rfl; have v3 := U.out 3 _ rfl; have v4 := U.out 4 _ rfl; clear hE9) | (go_at_call 23; refine (R23.out _ B.out).mono ?_; rintro e w9 ⟨rfl, hE9⟩; replace B := Lib.hid (B.out.next hE9); (try clear c0 c1 c2 c3 c4 c5 c6 c7 c8 c9 c10 c11 c12); have c0 := B.out.box 0 _ rfl; have c1 := B.out.box 1 _ rfl; have c2 := B.out.box 2 _ rfl; have c3 := B.out.box 3 _ rfl; have c4 := B.out.box 4 _ rfl; have c5 := B.out.box 5 _ rfl; have c6 := B.out.box 6 _ rfl; have c7 := B.out.box 7 _ rfl; have c8 := B.out.box 8 _ rfl; have c9 := B.out.box 9 _ rfl; have c10 := B.out.box 10 _ rfl; have c11 := B.out.box 11 _ rfl; have c12 := B.out.box 12 _ rfl; clear hE9) | (go_at_call 24; refine (R24.out _ B.out).mono ?_; rintro e w9 ⟨rfl, hE9⟩; replace B := Lib.hid (B.out.next hE9); (try clear c0 c1 c2 c3 c4 c5 c6 c7 c8 c9 c10 c11 c12); have c0 := B.out.box 0 _ rfl; have c1 := B.out.box 1 _ rfl; have c2 := B.out.box 2 _ rfl; have c3 := B.out.box 3 _ rfl; have c4 := B.out.box 4 _ rfl; have c5 := B.out.box 5 _ rfl; have c6 := B.out.box 6 _ rfl; have c7 := B.out.box 7 _ rfl; have c8 := B.out.box 8 _ rfl; have c9 := B.out.box 9 _ rfl; have c10 := B.out.box 10 _ rfl; have c11 := B.out.box 11 _ rfl; have c12 := B.out.box 12 _ rfl; clear hE9) | (go_at_call 22; refine (Rk.out _ B.out).mono ?_; rintro e w9 ⟨rfl, hE9⟩; replace B := Lib.hid (B.out.next hE9); (try clear c0 c1 c2 c3 c4 c5 c6 c7 c8 c9 c10 c11 c12); have c0 := B.out.box 0 _ rfl; have c1 := B.out.box 1 _ rfl; have c2 := B.out.box 2 _ rfl; have c3 := B.out.box 3 _ rfl; have c4 := B.out.box 4 _ rfl; have c5 := B.out.box 5 _ rfl; have c6 := B.out.box 6 _ rfl; have c7 := B.out.box 7 _ rfl; have c8 := B.out.box 8 _ rfl; have c9 := B.out.box 9 _ rfl; have c10 := B.out.box 10 _ rfl; have c11 := B.out.box 11 _ rfl; have c12 := B.out.box 12 _ rfl; clear hE9))
            go_ret
            exact ⟨rfl, B.out.ext⟩
          · rw [hs] at R24 hb
            rw [Bool.true_and] at hb
            rw [hb] at R25
            clear h hl ht hk hb hs h6 hl6 ht6
            go_enter Tryz.func3, Tryz.ntmps3
            go_wp2_with (first | (go_at_call 21; refine (R21.out _).mono ?_; rintro e w9 ⟨rfl, hE9⟩; replace B := Lib.hid (B.out.next hE9); (try clear c0 c1 c2 c3 c4 c5 c6 c7 c8 c9 c10 c11 c12); have c0 := B.out.box 0 _ rfl; have c1 := B.out.box 1 _ rfl; have c2 := B.out.box 2 _ rfl; have c3 := B.out.box 3 _ rfl; have c4 := B.out.box 4 _ rfl; have c5 := B.out.box 5 _ rfl; have c6 := B.out.box 6 _ rfl; have c7 := B.out.box 7 _ rfl; have c8 := B.out.box 8 _ rfl; have c9 := B.out.box 9 _ rfl; have c10 := B.out.box 10 _ rfl; have c11 := B.out.box 11 _ rfl; have c12 := B.out.box 12 _ rfl; replace U := Lib.hid (U.out.ext hE9); (try clear v0 v1 v2 v3 v4); have v0 : World.cell? w9 ⟨(w.heap.size + 1), 0, none⟩ = some (.slice ob t.tins.length cb) := U.out 0 _ rfl; have v1 := U.out 1 _ rfl; have v2 := U.out 2 _ rfl; have v3 := U.out 3 _ rfl; have v4 := U.out 4 _ rfl; clear hE9) | (go_at_call 23; refine (R23.out _ B.out).mono ?_; rintro e w9 ⟨rfl, hE9⟩; replace B := Lib.hid (B.out.next hE9); (try clear c0 c1 c2 c3 c4 c5 c6 c7 c8 c9 c10 c11 c12); have c0 := B.out.box 0 _ rfl; have c1 := B.out.box 1 _ rfl; have c2 := B.out.box 2 _ rfl; have c3 := B.out.box 3 _ rfl; have c4 := B.out.box 4 _ rfl; have c5 := B.out.box 5 _ rfl; have c6 := B.out.box 6 _ rfl; have c7 := B.out.box 7 _ rfl; have c8 := B.out.box 8 _ rfl; have c9 := B.out.box 9 _ rfl; have c10 := B.out.box 10 _ rfl; have c11 := B.out.box 11 _ rfl; have c12 := B.out.box 12 _ rfl; clear hE9) | (go_at_call 24; refine (R24.out _ B.out).mono ?_; rintro e w9 ⟨rfl, hE9⟩; replace B := Lib.hid (B.out.next hE9); (try clear c0 c1 c2 c3 c4 c5 c6 c7 c8 c9 c10 c11 c12); have c0 := B.out.box 0 _ rfl; have c1 := B.out.box 1 _ rfl; have c2 := B.out.box 2 _ rfl; have c3 := B.out.box 3 _ rfl; have c4 := B.out.box 4 _ rfl; have c5 := B.out.box 5 _ rfl; have c6 := B.out.box 6 _ rfl; have c7 := B.out.box 7 _ rfl; have c8 := B.out.box 8 _ rfl; have c9 := B.out.box 9 _ rfl; have c10 := B.out.box 10 _ rfl; have c11 := B.out.box 11 _ rfl; have c12 := B.out.box 12 _ rfl; clear hE9) | (go_at_call 25; refine (R25.out _ B.out).mono ?_; rintro e w9 ⟨rfl, hE9⟩; replace B := Lib.hid (B.out.next hE9); (try clear c0 c1 c2 c3 c4 c5 c6 c7 c8 c9 c10 c11 c12); have c0 := B.out.box 0 _ rfl; have c1 := B.out.box 1 _ rfl; have c2 := B.out.box 2 _ rfl; have c3 := B.out.box 3 _ rfl; have c4 := B.out.box 4 _ rfl; have c5 := B.out.box 5 _ rfl; have c6 := B.out.box 6 _ rfl; have c7 := B.out.box 7 _ rfl; have c8 := B.out.box 8 _ rfl; have c9 := B.out.box 9 _ rfl; have c10 := B.out.box 10 _ rfl; have c11 := B.out.box 11 _ rfl; have c12 := B.out.box 12 _ rfl; clear hE9) | (go_at_call 22; refine (Rk.out _ B.out).mono ?_; rintro e w9 ⟨rfl, hE9⟩; replace B := Lib.hid (B.out.next hE9); (try clear c0 c1 c2 c3 c4 c5 c6 c7 c8 c9 c10 c11 c12); have c0 := B.out.box 0 _ rfl; have c1 := B.out.box 1 _ rfl; have c2 := B.out.box 2 _ rfl; have c3 := B.out.box 3 _ rfl; have c4 := B.out.box 4 _ rfl; have c5 := B.out.box 5 _ rfl; have c6 := B.out.box 6 _ rfl; have c7 := B.out.box 7 _ rfl; have c8 := B.out.box 8 _ rfl; have c9 := B.out.box 9 _ rfl; have c10 := B.out.box 10 _ rfl; have c11 := B.out.box 11 _ rfl; have c12 := B.out.box 12 _ rfl; clear hE9))
            go_ret
            exact ⟨rfl, B.out.ext⟩
        · obtain ⟨hs, hx⟩ := Bool.and_eq_true_iff.1 hb
          obtain ⟨s, rfl, g⟩ := h.lift hs
          obtain ⟨m, rfl, hm⟩ := mix_lift hx
          cases hu : truthB s t
          · have R23 := Lib.hid (fun W (hW : LB (ofSh s) ot cap w W) => sTrue_no s g m hm ot cap ol cl t ob cb W hW.tins (hl.ints.ext hW.ext) (ht.tris.ext hW.ext) ht.small hu)
            have R26 := Lib.hid (fun W (hW : LB (ofSh s) ot cap w W) => rTruth_any s g ot cap t ob cb W hW.tins (ht.tris.ext hW.ext) ht.small)
            rw [hs] at R24
            rw [hx, upL_length] at R25
            rw [upL_length] at hl6I ⊢
            rw [hu] at R26
            clear h hl ht hk hb hs h6 hl6 ht6 hu g hm hx
            go_enter Tryz.func3, Tryz.ntmps3
            go_wp2_with (first | (go_at_call 21; refine (R21.out _).mono ?_; rintro e w9 ⟨rfl, hE9⟩; replace B := Lib.hid (B.out.next hE9); (try clear c0 c1 c2 c3 c4 c5 c6 c7 c8 c9 c10 c11 c12); have c0 := B.out.box 0 _ rfl; have c1 := B.out.box 1 _ rfl; have c2 := B.out.box 2 _ rfl; have c3 := B.out.box 3 _ rfl; have c4 := B.out.box 4 _ rfl; have c5 := B.out.box 5 _ rfl; have c6 := B.out.box 6 _ rfl; have c7 := B.out.box 7 _ rfl; have c8 := B.out.box 8 _ rfl; have c9 := B.out.box 9 _ rfl; have c10 := B.out.box 10 _ rfl; have c11 := B.out.box 11 _ rfl; have c12 := B.out.box 12 _ rfl; replace U := Lib.hid (U.out.ext hE9); (try clear v0 v1 v2 v3 v4); have v0 : World.cell? w9 ⟨(w.heap.size + 1), 0, none⟩ = some (.slice ob t.tins.length cb) := U.out 0 _ rfl; have v1 := U.out 1 _ rfl; have v2 := U.out 2 _ rfl; have v3 := U.out 3 _ rfl; have v4 := U.out 4 _ rfl; clear hE9) | (go_at_call 23; refine (R23.out _ B.out).mono ?_; rintro e w9 ⟨rfl, hE9⟩; replace B := Lib.hid (B.out.next hE9); (try clear c0 c1 c2 c3 c4 c5 c6 c7 c8 c9 c10 c11 c12); have c0 := B.out.box 0 _ rfl; have c1 := B.out.box 1 _ rfl; have c2 := B.out.box 2 _ rfl; have c3 := B.out.box 3 _ rfl; have c4 := B.out.box 4 _ rfl; have c5 := B.out.box 5 _ rfl; have c6 := B.out.box 6 _ rfl; have c7 := B.out.box 7 _ rfl; have c8 := B.out.box 8 _ rfl; have c9 := B.out.box 9 _ rfl; have c10 := B.out.box 10 _ rfl; have c11 := B.out.box 11 _ rfl; have c12 := B.out.box 12 _ rfl; replace U := Lib.hid (U.out.ext hE9); (try clear v0 v1 v2 v3 v4); have v0 : World.cell? w9 ⟨(w.heap.size + 1), 0, none⟩ = some (.slice ob t.tins.length cb) := U.out 0 _ rfl; have v1 := U.out 1 _ rfl; have v2 := U.out 2 _ rfl; have v3 := U.out 3 _ rfl; have v4 := U.out 4 _ rfl; clear hE9) | (go_at_call 24; refine (R24.out _ B.out).mono ?_; rintro e w9 ⟨rfl, hE9⟩; replace B := Lib.hid (B.out.next hE9); (try clear c0 c1 c2 c3 c4 c5 c6 c7 c8 c9 c10 c11 c12); have c0 := B.out.box 0 _ rfl; have c1 := B.out.box 1 _ rfl; have c2 := B.out.box 2 _ rfl; have c3 := B.out.box 3 _ rfl; have c4 := B.out.box 4 _ rfl; have c5 := B.out.box 5 _ rfl; have c6 := B.out.box 6 _ rfl; have c7 := B.out.box 7 _ rfl; have c8 := B.out.box 8 _ rfl; have c9 := B.out.box 9 _ rfl; have c10 := B.out.box 10 _ rfl; have c11 := B.out.box 11 _ rfl; have c12 := B.out.box 12 _ rfl; replace U := Lib.hid (U.out.ext hE9); (try clear v0 v1 v2 v3 v4); have v0 : World.cell? w9 ⟨(w.heap.size + 1), 0, none⟩ = some (.slice ob t.tins.length cb) := U.out 0 _ rfl; have v1 := U.out 1 _ rfl; have v2 := U.out 2 _ rfl; have v3 := U.out 3 _ rfl; have v4 := U.out 4 _ rfl; clear hE9) | (go_at_call 25; refine (R25.out _ B.out).mono ?_; rintro e w9 ⟨rfl, hE9⟩; replace B := Lib.hid (B.out.next hE9); (try clear c0 c1 c2 c3 c4 c5 c6 c7 c8 c9 c10 c11 c12); have c0 := B.out.box 0 _ rfl; have c1 := B.out.box 1 _ rfl; have c2 := B.out.box 2 _ rfl; have c3 := B.out.box 3 _ rfl; have c4 := B.out.box 4 _ rfl; have c5 := B.out.box 5 _ rfl; have c6 := B.out.box 6 _ rfl; have c7 := B.out.box 7 _ rfl; have c8 := B.out.box 8 _ rfl; have c9 := B.out.box 9 _ rfl; have c10 := B.out.box 10 _ rfl; have c11 := B.out.box 11 _ rfl; have c12 := B.out.box 12 _ rfl; replace U := Lib.hid (U.out.ext hE9); (try clear v0 v1 v2 v3 v4); have v0 : World.cell? w9 ⟨(w.heap.size + 1), 0, none⟩ = some (.slice ob t.tins.length cb) := U.out 0 _ rfl; have v1 := U.out 1 _ rfl; have v2 := U.out 2 _ rfl; have v3 := U.out 3 _ rfl; have v4 := U.out 4 _ rfl; clear hE9) | (go_at_call 26; refine (R26.out _ B.out).mono ?_; rintro e w9 ⟨rfl, hE9⟩; replace B := Lib.hid (B.out.next hE9); (try clear c0 c1 c2 c3 c4 c5 c6 c7 c8 c9 c10 c11 c12); have c0 := B.out.box 0 _ rfl; have c1 := B.out.box 1 _ rfl; have c2 := B.out.box 2 _ rfl; have c3 := B.out.box 3 _ rfl; have c4 := B.out.box 4 _ rfl; have c5 := B.out.box 5 _ rfl; have c6 := B.out.box 6 _ rfl; have c7 := B.out.box 7 _ rfl; have c8 := B.out.box 8 _ rfl; have c9 := B.out.box 9 _ rfl; have c10 := B.out.box 10 _ rfl; have c11 := B.out.box 11 _ rfl; have c12 := B.out.box 12 _ rfl; clear hE9) | (go_at_call 22; refine (Rk.out _ B.out).mono ?_; rintro e w9 ⟨rfl, hE9⟩; replace B := Lib.hid (B.out.next hE9); (try clear c0 c1 c2 c3 c4 c5 c6 c7 c8 c9 c10 c11 c12); have c0 := B.out.box 0 _ rfl; have c1 := B.out.box 1 _ rfl; have c2 := B.out.box 2 _ rfl; have c3 := B.out.box 3 _ rfl; have c4 := B.out.box 4 _ rfl; have c5 := B.out.box 5 _ rfl; have c6 := B.out.box 6 _ rfl; have c7 := B.out.box 7 _ rfl; have c8 := B.out.box 8 _ rfl; have c9 := B.out.box 9 _ rfl; have c10 := B.out.box 10 _ rfl; have c11 := B.out.box 11 _ rfl; have c12 := B.out.box 12 _ rfl; clear hE9))
            go_ret
            exact ⟨rfl, B.out.ext⟩
          · obtain ⟨T, rfl, hT⟩ := truth_lift (tris_three ht.tris) hu
            rw [upL_length]
            exact law3g g hm hT h.tins hl.ints ht.tris k hk
      · have ht6I : (6 : Int) < (t.tins.length : Int) := by omega
        clear h hl ht hk h6 hl6 ht6
        go_enter Tryz.func3, Tryz.ntmps3
        go_wp2_with (first | (go_at_call 21; refine (R21.out _).mono ?_; rintro e w9 ⟨rfl, hE9⟩; replace B := Lib.hid (B.out.next hE9); (try clear c0 c1 c2 c3 c4 c5 c6 c7 c8 c9 c10 c11 c12); have c0 := B.out.box 0 _ rfl; have c1 := B.out.box 1 _ rfl; have c2 := B.out.box 2 _ rfl; have c3 := B.out.box 3 _ rfl; have c4 := B.out.box 4 _ rfl; have c5 := B.out.box 5 _ rfl; have c6 := B.out.box 6 _ rfl; have c7 := B.out.box 7 _ rfl; have c8 := B.out.box 8 _ rfl; have c9 := B.out.box 9 _ rfl; have c10 := B.out.box 10 _ rfl; have c11 := B.out.box 11 _ rfl; have c12 := B.out.box 12 _ rfl; replace U := Lib.hid (U.out.ext hE9); (try clear v0 v1 v2 v3 v4); have v0 : World.cell? w9 ⟨(w.heap.size + 1), 0, none⟩ = some (.slice ob t.tins.length cb) := U.out 0 _ rfl; have v1 := U.out 1 _ rfl; have v2 := U.out 2 _ rfl; have v3 := U.out 3 _ rfl; have v4 := U.out 4 _ rfl; clear hE9) | (go_at_call 22; refine (Rk.out _ B.out).mono ?_; rintro e w9 ⟨rfl, hE9⟩; replace B := Lib.hid (B.out.next hE9); (try clear c0 c1 c2 c3 c4 c5 c6 c7 c8 c9 c10 c11 c12); have c0 := B.out.box 0 _ rfl; have c1 := B.out.box 1 _ rfl; have c2 := B.out.box 2 _ rfl; have c3 := B.out.box 3 _ rfl; have c4 := B.out.box 4 _ rfl; have c5 := B.out.box 5 _ rfl; have c6 := B.out.box 6 _ rfl; have c7 := B.out.box 7 _ rfl; have c8 := B.out.box 8 _ rfl; have c9 := B.out.box 9 _ rfl; have c10 := B.out.box 10 _ rfl; have c11 := B.out.box 11 _ rfl; have c12 := B.out.box 12 _ rfl; clear hE9))
        go_ret
        exact ⟨rfl, B.out.ext⟩
    · have hl6I : (6 : Int) < (l.length : Int) := by omega
      clear h hl ht hk h6 hl6
      go_enter Tryz.func3, Tryz.ntmps3
      go_wp2_with (first | (go_at_call 21; refine (R21.out _).mono ?_; rintro e w9 ⟨rfl, hE9⟩; replace B := Lib.hid (B.out.next hE9); (try clear c0 c1 c2 c3 c4 c5 c6 c7 c8 c9 c10 c11 c12); have c0 := B.out.box 0 _ rfl; have c1 := B.out.box 1 _ rfl; have c2 := B.out.box 2 _ rfl; have c3 := B.out.box 3 _ rfl; have c4 := B.out.box 4 _ rfl; have c5 := B.out.box 5 _ rfl; have c6 := B.out.box 6 _ rfl; have c7 := B.out.box 7 _ rfl; have c8 := B.out.box 8 _ rfl; have c9 := B.out.box 9 _ rfl; have c10 := B.out.box 10 _ rfl; have c11 := B.out.box 11 _ rfl; have c12 := B.out.box 12 _ rfl; clear hE9) | (go_at_call 22; refine (Rk.out _ B.out).mono ?_; rintro e w9 ⟨rfl, hE9⟩; replace B := Lib.hid (B.out.next hE9); (try clear c0 c1 c2 c3 c4 c5 c6 c7 c8 c9 c10 c11 c12); have c0 := B.out.box 0 _ rfl; have c1 := B.out.box 1 _ rfl; have c2 := B.out.box 2 _ rfl; have c3 := B.out.box 3 _ rfl; have c4 := B.out.box 4 _ rfl; have c5 := B.out.box 5 _ rfl; have c6 := B.out.box 6 _ rfl; have c7 := B.out.box 7 _ rfl; have c8 := B.out.box 8 _ rfl; have c9 := B.out.box 9 _ rfl; have c10 := B.out.box 10 _ rfl; have c11 := B.out.box 11 _ rfl; have c12 := B.out.box 12 _ rfl; clear hE9))
      go_ret
      exact ⟨rfl, B.out.ext⟩
  · rw [decide_eq_false h6] at R21
    clear h hl ht hk h6
    go_enter Tryz.func3, Tryz.ntmps3
    go_wp2_with (first | (go_at_call 21; refine (R21.out _).mono ?_; rintro e w9 ⟨rfl, hE9⟩; replace B := Lib.hid (B.out.next hE9); (try clear c0 c1 c2 c3 c4 c5 c6 c7 c8 c9 c10 c11 c12); have c0 := B.out.box 0 _ rfl; have c1 := B.out.box 1 _ rfl; have c2 := B.out.box 2 _ rfl; have c3 := B.out.box 3 _ rfl; have c4 := B.out.box 4 _ rfl; have c5 := B.out.box 5 _ rfl; have c6 := B.out.box 6 _ rfl; have c7 := B.out.box 7 _ rfl; have c8 := B.out.box 8 _ rfl; have c9 := B.out.box 9 _ rfl; have c10 := B.out.box 10 _ rfl; have c11 := B.out.box 11 _ rfl; have c12 := B.out.box 12 _ rfl; clear hE9) | (go_at_call 22; refine (Rk.out _ B.out).mono ?_; rintro e w9 ⟨rfl, hE9⟩; replace B := Lib.hid (B.out.next hE9); (try clear c0 c1 c2 c3 c4 c5 c6 c7 c8 c9 c10 c11 c12); have c0 := B.out.box 0 _ rfl; have c1 := B.out.box 1 _ rfl; have c2 := B.out.box 2 _ rfl; have c3 := B.out.box 3 _ rfl; have c4 := B.out.box 4 _ rfl; have c5 := B.out.box 5 _ rfl; have c6 := B.out.box 6 _ rfl; have c7 := B.out.box 7 _ rfl; have c8 := B.out.box 8 _ rfl; have c9 := B.out.box 9 _ rfl; have c10 := B.out.box 10 _ rfl; have c11 := B.out.box 11 _ rfl; have c12 := B.out.box 12 _ rfl; clear hE9))
    go_ret
    exact ⟨rfl, B.out.ext⟩

end Go.Proofs.YtjpekonfjihcoaaGreatDoor
