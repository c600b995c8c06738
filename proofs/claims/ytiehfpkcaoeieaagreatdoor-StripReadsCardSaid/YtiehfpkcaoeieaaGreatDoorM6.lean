/- Contracts and mathematics, joined: Owners, Adds, Before, MathO. Conditions stand with each. -/
import Derived.Test.YtiehfpkcaoeieaaGreatDoorM5
import Derived.Test.YtiehfpkcaoeieaaGreatDoorM3
set_option linter.unusedVariables false
set_option linter.unusedSimpArgs false
/- Contract: strip.Owners. No condition. -/
namespace Go.Proofs.YtiehfpkcaoeieaaGreatDoor
open Go.RowKit Go.My Go.StripM

set_option maxHeartbeats 1000000 in
theorem owners_bad (n : Int) (ls : List (List Int)) (oa : Option Addr) (cap : Nat) (w : World) (h : RowsAt w oa ls) (hl : ls.length ≤ 9223372036854775807) (hbad : boardB n ls = false) :
    Calls Tryz.prog 60 #[.agg #[.int .i64 n, .slice oa ls.length cap]] w fun e w' => e = .returned (.tuple #[.int .i64 0, .int .i64 2]) ∧ Ext w w' := by
  have H := Lib.hid h; clear h
  have hE1 := (Ext.refl w).alloc (.cells #[.int .i64 n, .slice oa ls.length cap] 24)
  have c0 : (w.alloc (.cells #[.int .i64 n, .slice oa ls.length cap] 24)).cell? ⟨w.heap.size, 0, none⟩ = some (.int .i64 n) := by go_simp
  have c1 : (w.alloc (.cells #[.int .i64 n, .slice oa ls.length cap] 24)).cell? ⟨w.heap.size, 1, none⟩ = some (.slice oa ls.length cap) := by go_simp
  go_enter Tryz.func60, Tryz.ntmps60
  go_wp2_with fail
  refine wp_region_plan (.take 0 <| .take 1 <| .only 2 <| .only 3 <| .take 4 <| .take 5 <| .take 6 <| .take 7 <| .take 8 <| .done) (fun W => Ext (w.alloc (.cells #[.int .i64 n, .slice oa ls.length cap] 24)) W) mixed (by kernel_rfl) (by kernel_rfl) rfl (fun _ _ d _ _ h => by cases d <;> exact h) ((Ext.refl _).drew) ?_
  repeat (first | (refine plan_take (v := ?_) rfl rfl (fun W hW => ?_) ?_; rotate_left; (focus (have dc0 := cell_ext hW c0; have dc1 := cell_ext hW c1; go_simp; first | exact rfl | (split <;> first | exact rfl | (exfalso; omega)) | done)); simp only [Act.put, List.setIfInBounds_toArray, List.set_cons_zero, List.set_cons_succ]) | (refine plan_skip rfl rfl ?_; simp only [Act.put, List.setIfInBounds_toArray, List.set_cons_zero, List.set_cons_succ]))
  refine plan_walk rfl ?_; intro K hK
  go_wp2_with (first | (go_at_call 73; refine (isBoard_any n ls _ cap _ (H.out.ext hE1.drew) hl).mono ?_; rw [hbad]; rintro e w1 ⟨rfl, hE⟩))
  have hE2 := ((Ext.refl (w.alloc (.cells #[.int .i64 n, .slice oa ls.length cap] 24))).drew).trans hE
  refine hK _ _ hE2 ?_
  refine plan_walk rfl ?_; intro K hK
  go_wp2_with (first | (go_at_call 82; refine (orError_bad n _ _).mono ?_; rintro e w2 ⟨rfl, hE3⟩))
  refine hK _ _ (hE2.trans hE3) ?_
  repeat (first | (refine plan_take (v := ?_) rfl rfl (fun W hW => ?_) ?_; rotate_left; (focus (skip; go_simp; first | exact rfl | (split <;> first | exact rfl | (exfalso; omega)) | done)); simp only [Act.put, List.setIfInBounds_toArray, List.set_cons_zero, List.set_cons_succ]) | (refine plan_skip rfl rfl ?_; simp only [Act.put, List.setIfInBounds_toArray, List.set_cons_zero, List.set_cons_succ]))
  refine plan_done ?_
  go_wp2
  go_ret2
  exact ⟨rfl, (hE1.trans hE2).trans hE3⟩


/-- The first steps on a board as defined: its box, and orError of it. -/
structure Bx (n : Nat) (ss : List (List Nat)) (oa : Option Addr) (cap : Nat) (w W : World) : Prop where
  ext : Ext w W
  rows : RowsAt W oa (upp ss)
  c0 : W.cell? ⟨w.heap.size, 0, none⟩ = some (.int .i64 n)
  c1 : W.cell? ⟨w.heap.size, 1, none⟩ = some (.slice oa ss.length cap)
theorem Bx.start {n : Nat} {ss : List (List Nat)} {oa : Option Addr} {cap : Nat} {w : World} (h : RowsAt w oa (upp ss)) : Bx n ss oa cap w (w.alloc (.cells #[.int .i64 n, .slice oa ss.length cap] 24)) :=
  ⟨(Ext.refl w).alloc _, h.ext ((Ext.refl w).alloc _), by go_simp, by go_simp⟩
theorem Bx.next {n : Nat} {ss : List (List Nat)} {oa : Option Addr} {cap : Nat} {w W W' : World} (h : Bx n ss oa cap w W) (hE : Ext W W') : Bx n ss oa cap w W' :=
  ⟨h.ext.trans hE, h.rows.ext hE, cell_ext hE h.c0, cell_ext hE h.c1⟩
theorem Bx.drew {n : Nat} {ss : List (List Nat)} {oa : Option Addr} {cap : Nat} {w W : World} (h : Bx n ss oa cap w W) : Bx n ss oa cap w W.drew := h.next (Ext.refl W).drew
theorem Bx.board {n : Nat} {ss : List (List Nat)} {oa : Option Addr} {cap : Nat} {w W : World} (h : Bx n ss oa cap w W) (g : Good n ss) :
    Calls Tryz.prog 73 #[.agg #[.int .i64 n, .slice oa ss.length cap]] W fun e w' => e = .returned (.bool true) ∧ Bx n ss oa cap w w' := by
  have := isBoard_any n (upp ss) oa cap W h.rows (by rw [upp_length]; have := g.len; omega)
  rw [g.isB, upp_length] at this
  exact this.mono fun e w' ⟨h1, h2⟩ => ⟨h1, h.next h2⟩
theorem Bx.orErr {n : Nat} {ss : List (List Nat)} {oa : Option Addr} {cap : Nat} {w W : World} (h : Bx n ss oa cap w W) (g : Good n ss) :
    Calls Tryz.prog 82 #[.agg #[.int .i64 n, .slice oa ss.length cap], .bool true] W fun e w' => e = .returned (.tuple #[.int .i64 (cnt n ss : Nat), .int .i64 (if cnt n ss = 0 then 7 else 0)]) ∧ Bx n ss oa cap w w' :=
  (orError_any n ss oa cap W h.rows (by have := g.len; omega) g.le g.valid).mono fun e w' ⟨h1, h2⟩ => ⟨h1, h.next h2⟩
theorem Bx.count {n : Nat} {ss : List (List Nat)} {oa : Option Addr} {cap : Nat} {w W : World} (h : Bx n ss oa cap w W) (g : Good n ss) :
    Calls Tryz.prog 78 #[.agg #[.int .i64 n, .slice oa ss.length cap]] W fun e w' => e = .returned (.int .i64 (cnt n ss : Nat)) ∧ Bx n ss oa cap w w' :=
  (count_any n ss oa cap W h.rows (by have := g.len; omega) g.le g.valid).mono fun e w' ⟨h1, h2⟩ => ⟨h1, h.next h2⟩
theorem Bx.open {n : Nat} {ss : List (List Nat)} {oa : Option Addr} {cap : Nat} {w W : World} (h : Bx n ss oa cap w W) (g : Good n ss) (hc : cyc n ss = false) :
    Calls Tryz.prog 76 #[.agg #[.int .i64 n, .slice oa ss.length cap]] W fun e w' => e = .returned (.agg (tcells n (.slice oa ss.length cap) (tab n ss))) ∧ Bx n ss oa cap w w' :=
  (open_any n ss oa cap W h.rows (by have := g.len; omega) g.le g.valid).mono fun e w' ⟨h1, h2⟩ => ⟨by rw [if_neg (by rw [hc]; simp)] at h2; exact h2, h.next h1⟩

theorem cyc_of_cnt {n : Nat} {ss : List (List Nat)} (h : ¬ cnt n ss = 0) : cyc n ss = false := by
  cases hc : cyc n ss
  · rfl
  · exact absurd (by rw [cnt, if_pos hc]) h

/-- The greatest number of names that come after each other. -/
def ownersOf (n : Nat) (ss : List (List Nat)) : Nat := mx ((List.range n).map (chain (tab n ss) n 6))

set_option maxHeartbeats 1000000 in
theorem owners_none (n : Nat) (ss : List (List Nat)) (oa : Option Addr) (cap : Nat) (w : World) (h : RowsAt w oa (upp ss)) (g : Good n ss) (h0 : cnt n ss = 0) :
    Calls Tryz.prog 60 #[.agg #[.int .i64 n, .slice oa ss.length cap]] w fun e w' => e = .returned (.tuple #[.int .i64 0, .int .i64 7]) ∧ Ext w w' := by
  have bx := Lib.hid (Bx.start (n := n) (cap := cap) h)
  have G := Lib.hid g
  clear h g
  go_enter Tryz.func60, Tryz.ntmps60
  go_wp2_with fail
  refine wp_region_plan (.take 0 <| .take 1 <| .only 2 <| .only 3 <| .take 4 <| .take 5 <| .take 6 <| .take 7 <| .take 8 <| .done) (fun W => Bx n ss oa cap w W) mixed (by kernel_rfl) (by kernel_rfl) rfl (fun _ _ d _ _ h => by cases d <;> exact h) (bx.out.drew) ?_
  repeat (first | (refine plan_take (v := ?_) rfl rfl (fun W hW => ?_) ?_; rotate_left; (focus (have dc0 := hW.c0; have dc1 := hW.c1; go_simp; first | exact rfl | (split <;> first | exact rfl | (exfalso; omega)) | done)); simp only [Act.put, List.setIfInBounds_toArray, List.set_cons_zero, List.set_cons_succ]) | (refine plan_skip rfl rfl ?_; simp only [Act.put, List.setIfInBounds_toArray, List.set_cons_zero, List.set_cons_succ]))
  refine plan_walk rfl ?_; intro K hK
  go_wp2_with (first | (go_at_call 73; refine (bx.out.drew.board G.out).mono ?_; rintro e w1 ⟨rfl, b1⟩))
  refine hK _ _ b1 ?_
  refine plan_walk rfl ?_; intro K hK
  go_wp2_with (first | (go_at_call 82; refine (b1.orErr G.out).mono ?_; rw [h0]; rintro e w2 ⟨rfl, b2⟩))
  refine hK _ _ b2 ?_
  repeat (first | (refine plan_take (v := ?_) rfl rfl (fun W hW => ?_) ?_; rotate_left; (focus (skip; go_simp; first | exact rfl | (split <;> first | exact rfl | (exfalso; omega)) | done)); simp only [Act.put, List.setIfInBounds_toArray, List.set_cons_zero, List.set_cons_succ]) | (refine plan_skip rfl rfl ?_; simp only [Act.put, List.setIfInBounds_toArray, List.set_cons_zero, List.set_cons_succ]))
  refine plan_done ?_
  go_wp2
  go_ret2
  exact ⟨rfl, b2.ext⟩

set_option maxRecDepth 100000 in
set_option maxHeartbeats 600000 in
theorem owners_any (n : Nat) (ss : List (List Nat)) (oa : Option Addr) (cap : Nat) (w : World) (h : RowsAt w oa (upp ss)) (g : Good n ss) (h0 : ¬ cnt n ss = 0) :
    Calls Tryz.prog 60 #[.agg #[.int .i64 n, .slice oa ss.length cap]] w fun e w' => e = .returned (.tuple #[.int .i64 (ownersOf n ss : Nat), .int .i64 0]) ∧ Ext w w' := by
  have bx := Lib.hid (Bx.start (n := n) (cap := cap) h)
  have G := Lib.hid g
  have hch := fun x hx W => chain_any n (.slice oa ss.length cap) (tab n ss) g.le (fun x y hx hy hm => behind_lt g.valid (cyc_of_cnt h0) hy hm) 6 (Nat.le_refl _) x hx (by have := behinds_le (tab n ss) x n; have := g.le; omega) W
  have Hch := Lib.hid hch; clear hch
  have Hcy := Lib.hid (cyc_of_cnt h0)
  have hn6 := g.le
  have hn1 := g.pos
  clear h g
  go_enter Tryz.func60, Tryz.ntmps60
  go_wp2_with fail
  refine wp_region_plan (.take 0 <| .take 1 <| .only 2 <| .only 3 <| .take 4 <| .take 5 <| .take 6 <| .take 7 <| .take 8 <| .done) (fun W => Bx n ss oa cap w W) mixed (by kernel_rfl) (by kernel_rfl) rfl (fun _ _ d _ _ h => by cases d <;> exact h) (bx.out.drew) ?_
  repeat (first | (refine plan_take (v := ?_) rfl rfl (fun W hW => ?_) ?_; rotate_left; (focus (have dc0 := hW.c0; have dc1 := hW.c1; go_simp; first | exact rfl | (split <;> first | exact rfl | (exfalso; omega)) | done)); simp only [Act.put, List.setIfInBounds_toArray, List.set_cons_zero, List.set_cons_succ]) | (refine plan_skip rfl rfl ?_; simp only [Act.put, List.setIfInBounds_toArray, List.set_cons_zero, List.set_cons_succ]))
  refine plan_walk rfl ?_; intro K hK
  go_wp2_with (first | (go_at_call 73; refine (bx.out.drew.board G.out).mono ?_; rintro e w1 ⟨rfl, b1⟩))
  refine hK _ _ b1 ?_
  refine plan_walk rfl ?_; intro K hK
  go_wp2_with (first | (go_at_call 82; refine (b1.orErr G.out).mono ?_; rw [if_neg h0]; rintro e w2 ⟨rfl, b2⟩))
  refine hK _ _ b2 ?_
  repeat (first | (refine plan_take (v := ?_) rfl rfl (fun W hW => ?_) ?_; rotate_left; (focus (skip; go_simp; first | exact rfl | (split <;> first | exact rfl | (exfalso; omega)) | done)); simp only [Act.put, List.setIfInBounds_toArray, List.set_cons_zero, List.set_cons_succ]) | (refine plan_skip rfl rfl ?_; simp only [Act.put, List.setIfInBounds_toArray, List.set_cons_zero, List.set_cons_succ]))
  refine plan_done ?_
  have B2 := Lib.hid b2
  have c0 := b2.c0
  have c1 := b2.c1
  clear b1 b2
  go_wp2_with (first | (go_at_call 76; refine (B2.out.open G.out Hcy.out).mono ?_; rintro e w3 ⟨rfl, b3⟩; have B3 := Lib.hid b3; clear c0 c1; have c0 := b3.c0; have c1 := b3.c1; clear b3) | (with_reducible refine wpList_alloc93 rfl rfl ?_) | ((with_reducible refine at_store93 _ _ rfl ?_); refine wpList_store93 rfl _ _ rfl w3.heap.size ?_ n (.slice oa ss.length cap) (slice_one _ _ _) (tab n ss) ?_ T0 (heap_alloc_new _ _) T0_size ?_; (focus (go_simp; done)); (focus (go_simp; done)); intro w4 hT hg hss; clear hss; have HT := Lib.hid hT; have hE4 : Ext w3 w4 := ext_own ((Ext.refl w3).alloc _) hg (Nat.le_refl _); have hb4 := B3.out.next hE4; have B4 := Lib.hid hb4; have c0 := hb4.c0; have c1 := hb4.c1; have hs4 : w3.heap.size < w4.heap.size := (by have := hg.size; simp at this; omega); clear hb4 hT hg hE4))
  clear c0 c1
  go_loopg [7, 23] n (fun g l v wr => ∃ i : Nat, i + g = n ∧ v = .int .i64 i ∧ Ext w4 wr ∧ Own wr w4.heap.size 3 l ((up ((List.range i).map (chain (tab n ss) n 6))).map (Value.int .i64)))
  case atStart => exact ⟨0, by simp, rfl, Ext.refl _, Own.nil _ _ _⟩
  case round =>
    obtain ⟨i, hi, rfl, hE, hown⟩ := hrel
    have Hown := Lib.hid hown; clear hown
    obtain ⟨wo, rfl⟩ : ∃ wo : World, wo = wr := ⟨_, rfl⟩
    by_cases hlt : i < n
    · have htab := (hE.block w3.heap.size hs4).trans HT.out
      have hcall := Lib.hid (Hch.out i hlt wo)
      go_wp2_with (first | ((with_reducible refine at_load93 _ rfl ?_); refine wpList_load93 rfl _ rfl w3.heap.size ?_ n (.slice oa ss.length cap) (tab n ss) htab ?_; (focus (go_simp; done))) | (go_at_call 104; refine hcall.out.mono ?_; rintro e w5 ⟨rfl, hE5⟩) | (at_builtin; refine wpList_app1 _ rfl _ _ 27 rfl 3 Tryz.underlying27 (.int .i64 0) 8 i3 rfl (by decide) w4.heap.size _ _ rfl ((Hown.out.ext hE5).ext ((Ext.refl w5).alloc _)) w5.heap.size (.int .i64 (chain (tab n ss) n 6 i : Nat)) rfl (by go_simp) rfl ?_ ?_ ?_))
      · simp [up]; omega
      · have := (hE.trans hE5).size; simp; omega
      · intro v' w6 hown6 hBl _
        have Ho6 := Lib.hid hown6; clear hown6
        go_wp2
        go_roundg (gk - 1)
        case measure => omega
        case rel => exact ⟨i + 1, by omega, by go_num, ((hE.trans hE5).alloc _).below hBl (Nat.le_refl _), by rw [List.range_succ, List.map_append]; simpa [up] using Ho6.out⟩
    · have hin : i = n := by omega
      have Hi := Lib.hid hin; clear hin
      have ho2 := Hown.out.ints
      rw [Hi.out] at ho2
      obtain ⟨oa2, cap2, hv2, h1, h2, h3, h4⟩ := ho2
      subst hv2
      have H4 := Lib.hid h4; clear h4
      have hlen : (up ((List.range n).map (chain (tab n ss) n 6))).length = ((List.range n).map (chain (tab n ss) n 6)).length := up_length _
      have hln : ((List.range n).map (chain (tab n ss) n 6)).length = n := by simp
      rw [hlen] at h1
      rw [hlen, hln]
      have hbest := bestInt_any _ oa2 cap2 wo H4.out (by rw [hln]; exact hn1) h1 h2
      rw [hln] at hbest
      have Hbest := Lib.hid hbest; clear hbest h1
      go_wp2_with (first | (go_at_call 105; refine Hbest.out.mono ?_; rintro e w5 ⟨rfl, hE5⟩))
      have hfin : Ext w w5 := (B4.out.ext.trans hE).trans hE5
      have hown : ownersOf n ss = mx ((List.range n).map (chain (tab n ss) n 6)) := rfl
      go_ret2
      refine ⟨?_, hfin⟩
      rw [hown]
      exact rfl

end Go.Proofs.YtiehfpkcaoeieaaGreatDoor
/- Contract: strip.Adds. No condition. -/
namespace Go.Proofs.YtiehfpkcaoeieaaGreatDoor
open Go.RowKit Go.My Go.StripM

/-- The box of a board of any kind. -/
structure BxI (n : Int) (ls : List (List Int)) (oa : Option Addr) (cap : Nat) (w W : World) : Prop where
  ext : Ext w W
  rows : RowsAt W oa ls
  c0 : W.cell? ⟨w.heap.size, 0, none⟩ = some (.int .i64 n)
  c1 : W.cell? ⟨w.heap.size, 1, none⟩ = some (.slice oa ls.length cap)
theorem BxI.start {n : Int} {ls : List (List Int)} {oa : Option Addr} {cap : Nat} {w : World} (h : RowsAt w oa ls) : BxI n ls oa cap w (w.alloc (.cells #[.int .i64 n, .slice oa ls.length cap] 24)) :=
  ⟨(Ext.refl w).alloc _, h.ext ((Ext.refl w).alloc _), by go_simp, by go_simp⟩
theorem BxI.next {n : Int} {ls : List (List Int)} {oa : Option Addr} {cap : Nat} {w W W' : World} (h : BxI n ls oa cap w W) (hE : Ext W W') : BxI n ls oa cap w W' :=
  ⟨h.ext.trans hE, h.rows.ext hE, cell_ext hE h.c0, cell_ext hE h.c1⟩
theorem BxI.drew {n : Int} {ls : List (List Int)} {oa : Option Addr} {cap : Nat} {w W : World} (h : BxI n ls oa cap w W) : BxI n ls oa cap w W.drew := h.next (Ext.refl W).drew
theorem BxI.board {n : Int} {ls : List (List Int)} {oa : Option Addr} {cap : Nat} {w W : World} (h : BxI n ls oa cap w W) (hl : ls.length ≤ 9223372036854775807) :
    Calls Tryz.prog 73 #[.agg #[.int .i64 n, .slice oa ls.length cap]] W fun e w' => e = .returned (.bool (boardB n ls)) ∧ BxI n ls oa cap w w' :=
  (isBoard_any n ls oa cap W h.rows hl).mono fun e w' ⟨h1, h2⟩ => ⟨h1, h.next h2⟩
theorem BxI.orErr {n : Int} {ls : List (List Int)} {oa : Option Addr} {cap : Nat} {w W : World} (h : BxI n ls oa cap w W) (sv : Value) :
    Calls Tryz.prog 82 #[.agg #[.int .i64 n, sv], .bool false] W fun e w' => e = .returned (.tuple #[.int .i64 0, .int .i64 2]) ∧ BxI n ls oa cap w w' :=
  (orError_bad n sv W).mono fun e w' ⟨h1, h2⟩ => ⟨h1, h.next h2⟩
theorem BxI.spot {n : Int} {ls : List (List Int)} {oa : Option Addr} {cap : Nat} {w W : World} (h : BxI n ls oa cap w W) (hn : 0 ≤ n ∧ n ≤ 1000) (s : Value) (l : List Int) (ob : Option Addr) (cb : Nat) (hs : IntsAt W ob l) (hll : l.length ≤ 9223372036854775807) (hc : l.length ≤ cb) :
    Calls Tryz.prog 91 #[.agg #[.int .i64 n, s], .slice ob l.length cb] W fun e w' => e = .returned (.bool (spotB n l)) ∧ BxI n ls oa cap w w' :=
  (isSpot_any n s l ob cb W hn.1 hn.2 hs hll hc).mono fun e w' ⟨h1, h2⟩ => ⟨h1, h.next h2⟩
theorem BxI.name {n : Int} {ls : List (List Int)} {oa : Option Addr} {cap : Nat} {w W : World} (h : BxI n ls oa cap w W) (hn : 0 ≤ n ∧ n ≤ 1000) (s : Value) (x : Int) :
    Calls Tryz.prog 83 #[.agg #[.int .i64 n, s], .int .i64 x] W fun e w' => e = .returned (.bool (inB x 0 (n - 1))) ∧ BxI n ls oa cap w w' :=
  (isName_any n x s W hn.1 hn.2).mono fun e w' ⟨h1, h2⟩ => ⟨h1, h.next h2⟩
theorem Bx.name {n : Nat} {ss : List (List Nat)} {oa : Option Addr} {cap : Nat} {w W : World} (h : Bx n ss oa cap w W) (g : Good n ss) (s : Value) (x : Nat) (hx : x < n) :
    Calls Tryz.prog 83 #[.agg #[.int .i64 n, s], .int .i64 x] W fun e w' => e = .returned (.bool true) ∧ Bx n ss oa cap w w' :=
  (isName_any n x s W (by omega) (by have := g.le; omega)).mono fun e w' ⟨h1, h2⟩ => ⟨by rw [h1]; congr 2; simp [inB]; omega, h.next h2⟩
theorem board_small {n : Int} {ls : List (List Int)} (h : boardB n ls = true) : 0 ≤ n ∧ n ≤ 1000 := by simp [boardB, inB] at h; omega

/-- A spot of a board as defined. -/
structure GoodSpot (n : Nat) (s : List Nat) : Prop where
  isS : spotB (n : Int) (up s) = true
  ok : namesOk n s
  len : s.length ≤ 5
  pos : 1 ≤ s.length
theorem Good.valid_with {n : Nat} {ss : List (List Nat)} (g : Good n ss) {s : List Nat} (h : namesOk n s) : Valid n (ss ++ [s]) := by
  intro x hx
  rcases List.mem_append.1 hx with hx | hx
  · exact g.valid x hx
  · rw [List.mem_singleton.1 hx]; exact h

set_option maxHeartbeats 1000000 in
theorem adds_bad (n : Int) (ls : List (List Int)) (oa : Option Addr) (cap : Nat) (l : List Int) (ob : Option Addr) (cb : Nat) (w : World) (h : RowsAt w oa ls) (hl : ls.length ≤ 9223372036854775807) (hs : IntsAt w ob l) (hll : l.length ≤ 9223372036854775807) (hcb : l.length ≤ cb)
    (hbad : (boardB n ls && spotB n l) = false) :
    Calls Tryz.prog 40 #[.agg #[.int .i64 n, .slice oa ls.length cap], .slice ob l.length cb] w fun e w' => e = .returned (.tuple #[.int .i64 0, .int .i64 2]) ∧ Ext w w' := by
  have bx := Lib.hid (BxI.start (n := n) (cap := cap) h)
  have Hs := Lib.hid hs
  clear h hs
  cases hb : boardB n ls
  · clear hbad
    go_enter Tryz.func40, Tryz.ntmps40
    go_wp2_with fail
    refine wp_region_plan (.take 0 <| .take 1 <| .only 2 <| .take 3 <| .take 4 <| .take 5 <| .take 6 <| .take 7 <| .only 8 <| .take 9 <| .take 10 <| .take 11 <| .take 12 <| .take 13 <| .done) (fun W => BxI n ls oa cap w W) mixed (by kernel_rfl) (by kernel_rfl) rfl (fun _ _ d _ _ h => by cases d <;> exact h) (bx.out.drew) ?_
    repeat (first | (refine plan_take (v := ?_) rfl rfl (fun W hW => ?_) ?_; rotate_left; (focus (have dc0 := hW.c0; have dc1 := hW.c1; go_simp; first | exact rfl | (split <;> first | exact rfl | (exfalso; omega)) | done)); simp only [Act.put, List.setIfInBounds_toArray, List.set_cons_zero, List.set_cons_succ]) | (refine plan_skip rfl rfl ?_; simp only [Act.put, List.setIfInBounds_toArray, List.set_cons_zero, List.set_cons_succ]))
    refine plan_walk rfl ?_; intro K hK
    go_wp2_with (first | (go_at_call 73; refine (bx.out.drew.board hl).mono ?_; rw [hb]; rintro e w1 ⟨rfl, b1⟩))
    refine hK _ _ b1 ?_
    repeat (first | (refine plan_take (v := ?_) rfl rfl (fun W hW => ?_) ?_; rotate_left; (focus (have dc0 := hW.c0; have dc1 := hW.c1; go_simp; first | exact rfl | (split <;> first | exact rfl | (exfalso; omega)) | done)); simp only [Act.put, List.setIfInBounds_toArray, List.set_cons_zero, List.set_cons_succ]) | (refine plan_skip rfl rfl ?_; simp only [Act.put, List.setIfInBounds_toArray, List.set_cons_zero, List.set_cons_succ]))
    refine plan_walk rfl ?_; intro K hK
    go_wp2_with (first | (go_at_call 82; refine (b1.orErr _).mono ?_; rintro e w2 ⟨rfl, b2⟩))
    refine hK _ _ b2 ?_
    repeat (first | (refine plan_take (v := ?_) rfl rfl (fun W hW => ?_) ?_; rotate_left; (focus (skip; go_simp; first | exact rfl | (split <;> first | exact rfl | (exfalso; omega)) | done)); simp only [Act.put, List.setIfInBounds_toArray, List.set_cons_zero, List.set_cons_succ]) | (refine plan_skip rfl rfl ?_; simp only [Act.put, List.setIfInBounds_toArray, List.set_cons_zero, List.set_cons_succ]))
    refine plan_done ?_
    go_wp2
    go_ret2
    exact ⟨rfl, b2.ext⟩
  · have hsp : spotB n l = false := by rw [hb] at hbad; simpa using hbad
    have hn := board_small hb
    clear hbad
    go_enter Tryz.func40, Tryz.ntmps40
    go_wp2_with fail
    refine wp_region_plan (.take 0 <| .take 1 <| .only 2 <| .take 3 <| .take 4 <| .take 5 <| .only 6 <| .take 7 <| .only 8 <| .take 9 <| .take 10 <| .take 11 <| .take 12 <| .take 13 <| .done) (fun W => BxI n ls oa cap w W) mixed (by kernel_rfl) (by kernel_rfl) rfl (fun _ _ d _ _ h => by cases d <;> exact h) (bx.out.drew) ?_
    repeat (first | (refine plan_take (v := ?_) rfl rfl (fun W hW => ?_) ?_; rotate_left; (focus (have dc0 := hW.c0; have dc1 := hW.c1; go_simp; first | exact rfl | (split <;> first | exact rfl | (exfalso; omega)) | done)); simp only [Act.put, List.setIfInBounds_toArray, List.set_cons_zero, List.set_cons_succ]) | (refine plan_skip rfl rfl ?_; simp only [Act.put, List.setIfInBounds_toArray, List.set_cons_zero, List.set_cons_succ]))
    refine plan_walk rfl ?_; intro K hK
    go_wp2_with (first | (go_at_call 73; refine (bx.out.drew.board hl).mono ?_; rw [hb]; rintro e w1 ⟨rfl, b1⟩))
    refine hK _ _ b1 ?_
    repeat (first | (refine plan_take (v := ?_) rfl rfl (fun W hW => ?_) ?_; rotate_left; (focus (have dc0 := hW.c0; have dc1 := hW.c1; go_simp; first | exact rfl | (split <;> first | exact rfl | (exfalso; omega)) | done)); simp only [Act.put, List.setIfInBounds_toArray, List.set_cons_zero, List.set_cons_succ]) | (refine plan_skip rfl rfl ?_; simp only [Act.put, List.setIfInBounds_toArray, List.set_cons_zero, List.set_cons_succ]))
    refine plan_walk rfl ?_; intro K hK
    go_wp2_with (first | (go_at_call 91; refine (b1.spot hn _ l ob cb (Hs.out.ext b1.ext) hll hcb).mono ?_; rw [hsp]; rintro e w2 ⟨rfl, b2⟩))
    refine hK _ _ b2 ?_
    repeat (first | (refine plan_take (v := ?_) rfl rfl (fun W hW => ?_) ?_; rotate_left; (focus (skip; go_simp; first | exact rfl | (split <;> first | exact rfl | (exfalso; omega)) | done)); simp only [Act.put, List.setIfInBounds_toArray, List.set_cons_zero, List.set_cons_succ]) | (refine plan_skip rfl rfl ?_; simp only [Act.put, List.setIfInBounds_toArray, List.set_cons_zero, List.set_cons_succ]))
    refine plan_walk rfl ?_; intro K hK
    go_wp2_with (first | (go_at_call 82; refine (b2.orErr _).mono ?_; rintro e w3 ⟨rfl, b3⟩))
    refine hK _ _ b3 ?_
    repeat (first | (refine plan_take (v := ?_) rfl rfl (fun W hW => ?_) ?_; rotate_left; (focus (skip; go_simp; first | exact rfl | (split <;> first | exact rfl | (exfalso; omega)) | done)); simp only [Act.put, List.setIfInBounds_toArray, List.set_cons_zero, List.set_cons_succ]) | (refine plan_skip rfl rfl ?_; simp only [Act.put, List.setIfInBounds_toArray, List.set_cons_zero, List.set_cons_succ]))
    refine plan_done ?_
    go_wp2
    go_ret2
    exact ⟨rfl, b3.ext⟩

theorem Bx.spot {n : Nat} {ss : List (List Nat)} {oa : Option Addr} {cap : Nat} {w W : World} (h : Bx n ss oa cap w W) (g : Good n ss) (s : Value) (l : List Nat) (ob : Option Addr) (cb : Nat) (hs : IntsAt W ob (up l)) (gl : GoodSpot n l) (hc : l.length ≤ cb) :
    Calls Tryz.prog 91 #[.agg #[.int .i64 n, s], .slice ob l.length cb] W fun e w' => e = .returned (.bool true) ∧ Bx n ss oa cap w w' := by
  have := isSpot_any n s (up l) ob cb W (by omega) (by have := g.le; omega) hs (by rw [up_length]; have := gl.len; omega) (by rw [up_length]; exact hc)
  rw [gl.isS, up_length] at this
  exact this.mono fun e w' ⟨h1, h2⟩ => ⟨h1, h.next h2⟩
theorem Bx.with {n : Nat} {ss : List (List Nat)} {oa : Option Addr} {cap : Nat} {w W : World} (h : Bx n ss oa cap w W) (g : Good n ss) (hn : oa = none → cap = 0) (hcap : ss.length ≤ cap) {s : List Nat} {sv : Value} (hs : IsInts W sv (up s)) (hns : namesOk n s) :
    Calls Tryz.prog 85 #[.agg #[.int .i64 n, .slice oa ss.length cap], sv] W fun e w' => ∃ oa' cap', e = .returned (.agg #[.int .i64 n, .slice oa' (ss.length + 1) cap']) ∧ Bx n ss oa cap w w' ∧ RowsAt w' oa' (upp (ss ++ [s])) := by
  refine (with_any n ss oa cap s sv W h.rows (by have := g.len; omega) hn hcap hs).mono ?_
  rintro e w' ⟨v, h1, ⟨oa', cap', hv, _, _, _, h2⟩, h3⟩
  rw [upp_length] at hv
  exact ⟨oa', cap', by rw [h1, hv, List.length_append]; rfl, h.next h3, h2⟩
theorem Bx.countWith {n : Nat} {ss : List (List Nat)} {oa : Option Addr} {cap : Nat} {w W : World} (h : Bx n ss oa cap w W) (g : Good n ss) {s : List Nat} {oa' : Option Addr} {cap' : Nat} (hr : RowsAt W oa' (upp (ss ++ [s]))) (hns : namesOk n s) :
    Calls Tryz.prog 78 #[.agg #[.int .i64 n, .slice oa' (ss.length + 1) cap']] W fun e w' => e = .returned (.int .i64 (cnt n (ss ++ [s]) : Nat)) ∧ Bx n ss oa cap w w' :=
by
  have := count_any n (ss ++ [s]) oa' cap' W hr (by have := g.len; simp; omega) g.le (g.valid_with hns)
  rw [show (ss ++ [s]).length = ss.length + 1 by simp] at this
  exact this.mono fun e w' ⟨h1, h2⟩ => ⟨h1, h.next h2⟩

set_option maxHeartbeats 1000000 in
theorem adds_none (n : Nat) (ss : List (List Nat)) (oa : Option Addr) (cap : Nat) (l : List Nat) (ob : Option Addr) (cb : Nat) (w : World) (h : RowsAt w oa (upp ss)) (g : Good n ss) (hs : IntsAt w ob (up l)) (gl : GoodSpot n l) (hcb : l.length ≤ cb) (h0 : cnt n ss = 0) :
    Calls Tryz.prog 40 #[.agg #[.int .i64 n, .slice oa ss.length cap], .slice ob l.length cb] w fun e w' => e = .returned (.tuple #[.int .i64 0, .int .i64 7]) ∧ Ext w w' := by
  have bx := Lib.hid (Bx.start (n := n) (cap := cap) h)
  have Hs := Lib.hid hs
  have G := Lib.hid g
  have GL := Lib.hid gl
  clear h hs g gl
  go_enter Tryz.func40, Tryz.ntmps40
  go_wp2_with fail
  refine wp_region_plan (.take 0 <| .take 1 <| .only 2 <| .take 3 <| .take 4 <| .take 5 <| .only 6 <| .take 7 <| .only 8 <| .take 9 <| .take 10 <| .take 11 <| .take 12 <| .take 13 <| .done) (fun W => Bx n ss oa cap w W) mixed (by kernel_rfl) (by kernel_rfl) rfl (fun _ _ d _ _ h => by cases d <;> exact h) (bx.out.drew) ?_
  repeat (first | (refine plan_take (v := ?_) rfl rfl (fun W hW => ?_) ?_; rotate_left; (focus (have dc0 := hW.c0; have dc1 := hW.c1; go_simp; first | exact rfl | (split <;> first | exact rfl | (exfalso; omega)) | done)); simp only [Act.put, List.setIfInBounds_toArray, List.set_cons_zero, List.set_cons_succ]) | (refine plan_skip rfl rfl ?_; simp only [Act.put, List.setIfInBounds_toArray, List.set_cons_zero, List.set_cons_succ]))
  refine plan_walk rfl ?_; intro K hK
  go_wp2_with (first | (go_at_call 73; refine (bx.out.drew.board G.out).mono ?_; rintro e w1 ⟨rfl, b1⟩))
  refine hK _ _ b1 ?_
  repeat (first | (refine plan_take (v := ?_) rfl rfl (fun W hW => ?_) ?_; rotate_left; (focus (have dc0 := hW.c0; have dc1 := hW.c1; go_simp; first | exact rfl | (split <;> first | exact rfl | (exfalso; omega)) | done)); simp only [Act.put, List.setIfInBounds_toArray, List.set_cons_zero, List.set_cons_succ]) | (refine plan_skip rfl rfl ?_; simp only [Act.put, List.setIfInBounds_toArray, List.set_cons_zero, List.set_cons_succ]))
  refine plan_walk rfl ?_; intro K hK
  go_wp2_with (first | (go_at_call 91; refine (b1.spot G.out _ l ob cb (Hs.out.ext b1.ext) GL.out hcb).mono ?_; rintro e w2 ⟨rfl, b2⟩))
  refine hK _ _ b2 ?_
  repeat (first | (refine plan_take (v := ?_) rfl rfl (fun W hW => ?_) ?_; rotate_left; (focus (skip; go_simp; first | exact rfl | (split <;> first | exact rfl | (exfalso; omega)) | done)); simp only [Act.put, List.setIfInBounds_toArray, List.set_cons_zero, List.set_cons_succ]) | (refine plan_skip rfl rfl ?_; simp only [Act.put, List.setIfInBounds_toArray, List.set_cons_zero, List.set_cons_succ]))
  refine plan_walk rfl ?_; intro K hK
  go_wp2_with (first | (go_at_call 82; refine (b2.orErr G.out).mono ?_; rw [h0]; rintro e w3 ⟨rfl, b3⟩))
  refine hK _ _ b3 ?_
  repeat (first | (refine plan_take (v := ?_) rfl rfl (fun W hW => ?_) ?_; rotate_left; (focus (skip; go_simp; first | exact rfl | (split <;> first | exact rfl | (exfalso; omega)) | done)); simp only [Act.put, List.setIfInBounds_toArray, List.set_cons_zero, List.set_cons_succ]) | (refine plan_skip rfl rfl ?_; simp only [Act.put, List.setIfInBounds_toArray, List.set_cons_zero, List.set_cons_succ]))
  refine plan_done ?_
  go_wp2
  go_ret2
  exact ⟨rfl, b3.ext⟩

set_option maxHeartbeats 1000000 in
theorem adds_any (n : Nat) (ss : List (List Nat)) (oa : Option Addr) (cap : Nat) (l : List Nat) (ob : Option Addr) (cb : Nat) (w : World) (h : RowsAt w oa (upp ss)) (g : Good n ss) (hn : oa = none → cap = 0) (hcap : ss.length ≤ cap)
    (hs : IntsAt w ob (up l)) (gl : GoodSpot n l) (hcb : l.length ≤ cb) (hcm : cb ≤ maxLen) (hnb : ob = none → cb = 0) (h0 : ¬ cnt n ss = 0) :
    Calls Tryz.prog 40 #[.agg #[.int .i64 n, .slice oa ss.length cap], .slice ob l.length cb] w fun e w' => e = .returned (.tuple #[.int .i64 (wordI (cnt n (ss ++ [l])) (cnt n ss)), .int .i64 0]) ∧ Ext w w' := by
  have bx := Lib.hid (Bx.start (n := n) (cap := cap) h)
  have Hs := Lib.hid hs
  have Hsv : Hid (IsInts w (.slice ob l.length cb) (up l)) := ⟨ob, cb, by rw [up_length], by rw [up_length]; exact hcb, hcm, hnb, hs⟩
  have G := Lib.hid g
  have GL := Lib.hid gl
  have Hn := Lib.hid hn
  have Hnb := Lib.hid hnb
  clear h hs g gl hn hnb hcm
  go_enter Tryz.func40, Tryz.ntmps40
  go_wp2_with fail
  refine wp_region_plan (.take 0 <| .take 1 <| .only 2 <| .take 3 <| .take 4 <| .take 5 <| .only 6 <| .take 7 <| .only 8 <| .take 9 <| .take 10 <| .take 11 <| .take 12 <| .take 13 <| .done) (fun W => Bx n ss oa cap w W) mixed (by kernel_rfl) (by kernel_rfl) rfl (fun _ _ d _ _ h => by cases d <;> exact h) (bx.out.drew) ?_
  repeat (first | (refine plan_take (v := ?_) rfl rfl (fun W hW => ?_) ?_; rotate_left; (focus (have dc0 := hW.c0; have dc1 := hW.c1; go_simp; first | exact rfl | (split <;> first | exact rfl | (exfalso; omega)) | done)); simp only [Act.put, List.setIfInBounds_toArray, List.set_cons_zero, List.set_cons_succ]) | (refine plan_skip rfl rfl ?_; simp only [Act.put, List.setIfInBounds_toArray, List.set_cons_zero, List.set_cons_succ]))
  refine plan_walk rfl ?_; intro K hK
  go_wp2_with (first | (go_at_call 73; refine (bx.out.drew.board G.out).mono ?_; rintro e w1 ⟨rfl, b1⟩))
  refine hK _ _ b1 ?_
  repeat (first | (refine plan_take (v := ?_) rfl rfl (fun W hW => ?_) ?_; rotate_left; (focus (have dc0 := hW.c0; have dc1 := hW.c1; go_simp; first | exact rfl | (split <;> first | exact rfl | (exfalso; omega)) | done)); simp only [Act.put, List.setIfInBounds_toArray, List.set_cons_zero, List.set_cons_succ]) | (refine plan_skip rfl rfl ?_; simp only [Act.put, List.setIfInBounds_toArray, List.set_cons_zero, List.set_cons_succ]))
  refine plan_walk rfl ?_; intro K hK
  go_wp2_with (first | (go_at_call 91; refine (b1.spot G.out _ l ob cb (Hs.out.ext b1.ext) GL.out hcb).mono ?_; rintro e w2 ⟨rfl, b2⟩))
  refine hK _ _ b2 ?_
  repeat (first | (refine plan_take (v := ?_) rfl rfl (fun W hW => ?_) ?_; rotate_left; (focus (skip; go_simp; first | exact rfl | (split <;> first | exact rfl | (exfalso; omega)) | done)); simp only [Act.put, List.setIfInBounds_toArray, List.set_cons_zero, List.set_cons_succ]) | (refine plan_skip rfl rfl ?_; simp only [Act.put, List.setIfInBounds_toArray, List.set_cons_zero, List.set_cons_succ]))
  refine plan_walk rfl ?_; intro K hK
  go_wp2_with (first | (go_at_call 82; refine (b2.orErr G.out).mono ?_; rw [if_neg h0]; rintro e w3 ⟨rfl, b3⟩))
  refine hK _ _ b3 ?_
  repeat (first | (refine plan_take (v := ?_) rfl rfl (fun W hW => ?_) ?_; rotate_left; (focus (skip; go_simp; first | exact rfl | (split <;> first | exact rfl | (exfalso; omega)) | done)); simp only [Act.put, List.setIfInBounds_toArray, List.set_cons_zero, List.set_cons_succ]) | (refine plan_skip rfl rfl ?_; simp only [Act.put, List.setIfInBounds_toArray, List.set_cons_zero, List.set_cons_succ]))
  refine plan_done ?_
  have c0 := b3.c0
  have c1 := b3.c1
  have B3 := Lib.hid b3
  clear b1 b2 b3
  go_wp2_with (first | (go_at_call 85; refine (B3.out.with G.out Hn.out hcap (Hsv.out.ext B3.out.ext) GL.out.ok).mono ?_; rintro e w4 ⟨oa', cap', rfl, b4, hr⟩; have B4 := Lib.hid b4; have Hr := Lib.hid hr; clear b4 hr) | (go_at_call 78; refine (B4.out.countWith G.out Hr.out GL.out.ok).mono ?_; rintro e w5 ⟨rfl, b5⟩; have B5 := Lib.hid b5; clear b5) | (go_at_call 84; refine (word_any _ _ _).mono ?_; rintro e w6 ⟨rfl, hE6⟩))
  go_ret2
  exact ⟨rfl, B5.out.ext.trans hE6⟩

end Go.Proofs.YtiehfpkcaoeieaaGreatDoor
/- Contract: strip.Before. No condition. -/
namespace Go.Proofs.YtiehfpkcaoeieaaGreatDoor
open Go.RowKit Go.My Go.StripM

set_option maxRecDepth 100000 in
set_option maxHeartbeats 1000000 in
theorem before_bad (n : Int) (ls : List (List Int)) (oa : Option Addr) (cap : Nat) (one other : Int) (w : World) (h : RowsAt w oa ls) (hl : ls.length ≤ 9223372036854775807)
    (hbad : (boardB n ls && (inB one 0 (n - 1) && (inB other 0 (n - 1) && !(one == other)))) = false) :
    Calls Tryz.prog 33 #[.agg #[.int .i64 n, .slice oa ls.length cap], .int .i64 one, .int .i64 other] w fun e w' => e = .returned (.tuple #[.int .i64 0, .int .i64 2]) ∧ Ext w w' := by
  have bx := Lib.hid (BxI.start (n := n) (cap := cap) h)
  clear h
  cases hb : boardB n ls
  · clear hbad
    go_enter Tryz.func33, Tryz.ntmps33
    go_wp2_with fail
    refine wp_region_plan (.take 0 <| .take 1 <| .only 2 <| .take 3 <| .take 4 <| .take 5 <| .take 6 <| .take 7 <| .take 8 <| .take 9 <| .take 10 <| .take 11 <| .take 12 <| .take 13 <| .take 14 <| .take 15 <| .take 16 <| .take 17 <| .only 18 <| .take 19 <| .take 20 <| .take 21 <| .take 22 <| .take 23 <| .done) (fun W => BxI n ls oa cap w W) mixed (by kernel_rfl) (by kernel_rfl) rfl (fun _ _ d _ _ h => by cases d <;> exact h) (bx.out.drew) ?_
    repeat (first | (refine plan_take (v := ?_) rfl rfl (fun W hW => ?_) ?_; rotate_left; (focus (have dc0 := hW.c0; have dc1 := hW.c1; go_simp; first | exact rfl | (split <;> first | exact rfl | (exfalso; omega)) | done)); simp only [Act.put, List.setIfInBounds_toArray, List.set_cons_zero, List.set_cons_succ]) | (refine plan_skip rfl rfl ?_; simp only [Act.put, List.setIfInBounds_toArray, List.set_cons_zero, List.set_cons_succ]))
    refine plan_walk rfl ?_; intro K hK
    go_wp2_with (first | (go_at_call 73; refine (bx.out.drew.board hl).mono ?_; rw [hb]; rintro e w1 ⟨rfl, b1⟩))
    refine hK _ _ b1 ?_
    repeat (first | (refine plan_take (v := ?_) rfl rfl (fun W hW => ?_) ?_; rotate_left; (focus (have dc0 := hW.c0; have dc1 := hW.c1; go_simp; first | exact rfl | (split <;> first | exact rfl | (exfalso; omega)) | done)); simp only [Act.put, List.setIfInBounds_toArray, List.set_cons_zero, List.set_cons_succ]) | (refine plan_skip rfl rfl ?_; simp only [Act.put, List.setIfInBounds_toArray, List.set_cons_zero, List.set_cons_succ]))
    refine plan_walk rfl ?_; intro K hK
    go_wp2_with (first | (go_at_call 82; refine (b1.orErr _).mono ?_; rintro e w9 ⟨rfl, b9⟩))
    refine hK _ _ b9 ?_
    repeat (first | (refine plan_take (v := ?_) rfl rfl (fun W hW => ?_) ?_; rotate_left; (focus (skip; go_simp; first | exact rfl | (split <;> first | exact rfl | (exfalso; omega)) | done)); simp only [Act.put, List.setIfInBounds_toArray, List.set_cons_zero, List.set_cons_succ]) | (refine plan_skip rfl rfl ?_; simp only [Act.put, List.setIfInBounds_toArray, List.set_cons_zero, List.set_cons_succ]))
    refine plan_done ?_
    go_wp2
    go_ret2
    exact ⟨rfl, b9.ext⟩
  · rw [hb] at hbad
    have hn := board_small hb
    cases h1 : inB one 0 (n - 1)
    · clear hbad
      go_enter Tryz.func33, Tryz.ntmps33
      go_wp2_with fail
      refine wp_region_plan (.take 0 <| .take 1 <| .only 2 <| .take 3 <| .take 4 <| .take 5 <| .only 6 <| .take 7 <| .take 8 <| .take 9 <| .take 10 <| .take 11 <| .take 12 <| .take 13 <| .take 14 <| .take 15 <| .take 16 <| .take 17 <| .only 18 <| .take 19 <| .take 20 <| .take 21 <| .take 22 <| .take 23 <| .done) (fun W => BxI n ls oa cap w W) mixed (by kernel_rfl) (by kernel_rfl) rfl (fun _ _ d _ _ h => by cases d <;> exact h) (bx.out.drew) ?_
      repeat (first | (refine plan_take (v := ?_) rfl rfl (fun W hW => ?_) ?_; rotate_left; (focus (have dc0 := hW.c0; have dc1 := hW.c1; go_simp; first | exact rfl | (split <;> first | exact rfl | (exfalso; omega)) | done)); simp only [Act.put, List.setIfInBounds_toArray, List.set_cons_zero, List.set_cons_succ]) | (refine plan_skip rfl rfl ?_; simp only [Act.put, List.setIfInBounds_toArray, List.set_cons_zero, List.set_cons_succ]))
      refine plan_walk rfl ?_; intro K hK
      go_wp2_with (first | (go_at_call 73; refine (bx.out.drew.board hl).mono ?_; rw [hb]; rintro e w1 ⟨rfl, b1⟩))
      refine hK _ _ b1 ?_
      repeat (first | (refine plan_take (v := ?_) rfl rfl (fun W hW => ?_) ?_; rotate_left; (focus (have dc0 := hW.c0; have dc1 := hW.c1; go_simp; first | exact rfl | (split <;> first | exact rfl | (exfalso; omega)) | done)); simp only [Act.put, List.setIfInBounds_toArray, List.set_cons_zero, List.set_cons_succ]) | (refine plan_skip rfl rfl ?_; simp only [Act.put, List.setIfInBounds_toArray, List.set_cons_zero, List.set_cons_succ]))
      refine plan_walk rfl ?_; intro K hK
      go_wp2_with (first | (go_at_call 83; refine (b1.name hn _ one).mono ?_; rw [h1]; rintro e w2 ⟨rfl, b2⟩))
      refine hK _ _ b2 ?_
      repeat (first | (refine plan_take (v := ?_) rfl rfl (fun W hW => ?_) ?_; rotate_left; (focus (have dc0 := hW.c0; have dc1 := hW.c1; go_simp; first | exact rfl | (split <;> first | exact rfl | (exfalso; omega)) | done)); simp only [Act.put, List.setIfInBounds_toArray, List.set_cons_zero, List.set_cons_succ]) | (refine plan_skip rfl rfl ?_; simp only [Act.put, List.setIfInBounds_toArray, List.set_cons_zero, List.set_cons_succ]))
      refine plan_walk rfl ?_; intro K hK
      go_wp2_with (first | (go_at_call 82; refine (b2.orErr _).mono ?_; rintro e w9 ⟨rfl, b9⟩))
      refine hK _ _ b9 ?_
      repeat (first | (refine plan_take (v := ?_) rfl rfl (fun W hW => ?_) ?_; rotate_left; (focus (skip; go_simp; first | exact rfl | (split <;> first | exact rfl | (exfalso; omega)) | done)); simp only [Act.put, List.setIfInBounds_toArray, List.set_cons_zero, List.set_cons_succ]) | (refine plan_skip rfl rfl ?_; simp only [Act.put, List.setIfInBounds_toArray, List.set_cons_zero, List.set_cons_succ]))
      refine plan_done ?_
      go_wp2
      go_ret2
      exact ⟨rfl, b9.ext⟩
    · rw [h1] at hbad
      cases h2 : inB other 0 (n - 1)
      · clear hbad
        go_enter Tryz.func33, Tryz.ntmps33
        go_wp2_with fail
        refine wp_region_plan (.take 0 <| .take 1 <| .only 2 <| .take 3 <| .take 4 <| .take 5 <| .only 6 <| .take 7 <| .take 8 <| .take 9 <| .take 10 <| .only 11 <| .take 12 <| .take 13 <| .take 14 <| .take 15 <| .take 16 <| .take 17 <| .only 18 <| .take 19 <| .take 20 <| .take 21 <| .take 22 <| .take 23 <| .done) (fun W => BxI n ls oa cap w W) mixed (by kernel_rfl) (by kernel_rfl) rfl (fun _ _ d _ _ h => by cases d <;> exact h) (bx.out.drew) ?_
        repeat (first | (refine plan_take (v := ?_) rfl rfl (fun W hW => ?_) ?_; rotate_left; (focus (have dc0 := hW.c0; have dc1 := hW.c1; go_simp; first | exact rfl | (split <;> first | exact rfl | (exfalso; omega)) | done)); simp only [Act.put, List.setIfInBounds_toArray, List.set_cons_zero, List.set_cons_succ]) | (refine plan_skip rfl rfl ?_; simp only [Act.put, List.setIfInBounds_toArray, List.set_cons_zero, List.set_cons_succ]))
        refine plan_walk rfl ?_; intro K hK
        go_wp2_with (first | (go_at_call 73; refine (bx.out.drew.board hl).mono ?_; rw [hb]; rintro e w1 ⟨rfl, b1⟩))
        refine hK _ _ b1 ?_
        repeat (first | (refine plan_take (v := ?_) rfl rfl (fun W hW => ?_) ?_; rotate_left; (focus (have dc0 := hW.c0; have dc1 := hW.c1; go_simp; first | exact rfl | (split <;> first | exact rfl | (exfalso; omega)) | done)); simp only [Act.put, List.setIfInBounds_toArray, List.set_cons_zero, List.set_cons_succ]) | (refine plan_skip rfl rfl ?_; simp only [Act.put, List.setIfInBounds_toArray, List.set_cons_zero, List.set_cons_succ]))
        refine plan_walk rfl ?_; intro K hK
        go_wp2_with (first | (go_at_call 83; refine (b1.name hn _ one).mono ?_; rw [h1]; rintro e w2 ⟨rfl, b2⟩))
        refine hK _ _ b2 ?_
        repeat (first | (refine plan_take (v := ?_) rfl rfl (fun W hW => ?_) ?_; rotate_left; (focus (have dc0 := hW.c0; have dc1 := hW.c1; go_simp; first | exact rfl | (split <;> first | exact rfl | (exfalso; omega)) | done)); simp only [Act.put, List.setIfInBounds_toArray, List.set_cons_zero, List.set_cons_succ]) | (refine plan_skip rfl rfl ?_; simp only [Act.put, List.setIfInBounds_toArray, List.set_cons_zero, List.set_cons_succ]))
        refine plan_walk rfl ?_; intro K hK
        go_wp2_with (first | (go_at_call 83; refine (b2.name hn _ other).mono ?_; rw [h2]; rintro e w3 ⟨rfl, b3⟩))
        refine hK _ _ b3 ?_
        repeat (first | (refine plan_take (v := ?_) rfl rfl (fun W hW => ?_) ?_; rotate_left; (focus (skip; go_simp; first | exact rfl | (split <;> first | exact rfl | (exfalso; omega)) | done)); simp only [Act.put, List.setIfInBounds_toArray, List.set_cons_zero, List.set_cons_succ]) | (refine plan_skip rfl rfl ?_; simp only [Act.put, List.setIfInBounds_toArray, List.set_cons_zero, List.set_cons_succ]))
        refine plan_walk rfl ?_; intro K hK
        go_wp2_with (first | (go_at_call 82; refine (b3.orErr _).mono ?_; rintro e w9 ⟨rfl, b9⟩))
        refine hK _ _ b9 ?_
        repeat (first | (refine plan_take (v := ?_) rfl rfl (fun W hW => ?_) ?_; rotate_left; (focus (skip; go_simp; first | exact rfl | (split <;> first | exact rfl | (exfalso; omega)) | done)); simp only [Act.put, List.setIfInBounds_toArray, List.set_cons_zero, List.set_cons_succ]) | (refine plan_skip rfl rfl ?_; simp only [Act.put, List.setIfInBounds_toArray, List.set_cons_zero, List.set_cons_succ]))
        refine plan_done ?_
        go_wp2
        go_ret2
        exact ⟨rfl, b9.ext⟩
      · rw [h2] at hbad
        have h3 : (one != other) = false := by simpa using hbad
        clear hbad
        go_enter Tryz.func33, Tryz.ntmps33
        go_wp2_with fail
        refine wp_region_plan (.take 0 <| .take 1 <| .only 2 <| .take 3 <| .take 4 <| .take 5 <| .only 6 <| .take 7 <| .take 8 <| .take 9 <| .take 10 <| .only 11 <| .take 12 <| .take 13 <| .take 14 <| .take 15 <| .take 16 <| .take 17 <| .only 18 <| .take 19 <| .take 20 <| .take 21 <| .take 22 <| .take 23 <| .done) (fun W => BxI n ls oa cap w W) mixed (by kernel_rfl) (by kernel_rfl) rfl (fun _ _ d _ _ h => by cases d <;> exact h) (bx.out.drew) ?_
        repeat (first | (refine plan_take (v := ?_) rfl rfl (fun W hW => ?_) ?_; rotate_left; (focus (have dc0 := hW.c0; have dc1 := hW.c1; go_simp; first | exact rfl | (split <;> first | exact rfl | (exfalso; omega)) | done)); simp only [Act.put, List.setIfInBounds_toArray, List.set_cons_zero, List.set_cons_succ]) | (refine plan_skip rfl rfl ?_; simp only [Act.put, List.setIfInBounds_toArray, List.set_cons_zero, List.set_cons_succ]))
        refine plan_walk rfl ?_; intro K hK
        go_wp2_with (first | (go_at_call 73; refine (bx.out.drew.board hl).mono ?_; rw [hb]; rintro e w1 ⟨rfl, b1⟩))
        refine hK _ _ b1 ?_
        repeat (first | (refine plan_take (v := ?_) rfl rfl (fun W hW => ?_) ?_; rotate_left; (focus (have dc0 := hW.c0; have dc1 := hW.c1; go_simp; first | exact rfl | (split <;> first | exact rfl | (exfalso; omega)) | done)); simp only [Act.put, List.setIfInBounds_toArray, List.set_cons_zero, List.set_cons_succ]) | (refine plan_skip rfl rfl ?_; simp only [Act.put, List.setIfInBounds_toArray, List.set_cons_zero, List.set_cons_succ]))
        refine plan_walk rfl ?_; intro K hK
        go_wp2_with (first | (go_at_call 83; refine (b1.name hn _ one).mono ?_; rw [h1]; rintro e w2 ⟨rfl, b2⟩))
        refine hK _ _ b2 ?_
        repeat (first | (refine plan_take (v := ?_) rfl rfl (fun W hW => ?_) ?_; rotate_left; (focus (have dc0 := hW.c0; have dc1 := hW.c1; go_simp; first | exact rfl | (split <;> first | exact rfl | (exfalso; omega)) | done)); simp only [Act.put, List.setIfInBounds_toArray, List.set_cons_zero, List.set_cons_succ]) | (refine plan_skip rfl rfl ?_; simp only [Act.put, List.setIfInBounds_toArray, List.set_cons_zero, List.set_cons_succ]))
        refine plan_walk rfl ?_; intro K hK
        go_wp2_with (first | (go_at_call 83; refine (b2.name hn _ other).mono ?_; rw [h2]; rintro e w3 ⟨rfl, b3⟩))
        refine hK _ _ b3 ?_
        repeat (first | (refine plan_take (v := ?_) rfl rfl (fun W hW => ?_) ?_; rotate_left; (focus (skip; go_simp; first | exact rfl | (split <;> first | exact rfl | (exfalso; omega)) | done)); simp only [Act.put, List.setIfInBounds_toArray, List.set_cons_zero, List.set_cons_succ]) | (refine plan_skip rfl rfl ?_; simp only [Act.put, List.setIfInBounds_toArray, List.set_cons_zero, List.set_cons_succ]))
        refine plan_walk rfl ?_; intro K hK
        go_wp2_with (first | (go_at_call 82; refine (b3.orErr _).mono ?_; rintro e w9 ⟨rfl, b9⟩))
        refine hK _ _ b9 ?_
        repeat (first | (refine plan_take (v := ?_) rfl rfl (fun W hW => ?_) ?_; rotate_left; (focus (skip; go_simp; first | exact rfl | (split <;> first | exact rfl | (exfalso; omega)) | done)); simp only [Act.put, List.setIfInBounds_toArray, List.set_cons_zero, List.set_cons_succ]) | (refine plan_skip rfl rfl ?_; simp only [Act.put, List.setIfInBounds_toArray, List.set_cons_zero, List.set_cons_succ]))
        refine plan_done ?_
        go_wp2
        go_ret2
        exact ⟨rfl, b9.ext⟩

set_option maxRecDepth 100000 in
set_option maxHeartbeats 1000000 in
theorem before_none (n : Nat) (ss : List (List Nat)) (oa : Option Addr) (cap : Nat) (one other : Nat) (w : World) (h : RowsAt w oa (upp ss)) (g : Good n ss) (hn : oa = none → cap = 0) (h1 : one < n) (h2 : other < n) (hne : one ≠ other) (h0 : cnt n ss = 0) :
    Calls Tryz.prog 33 #[.agg #[.int .i64 n, .slice oa ss.length cap], .int .i64 one, .int .i64 other] w fun e w' => e = .returned (.tuple #[.int .i64 0, .int .i64 7]) ∧ Ext w w' := by
  have bx := Lib.hid (Bx.start (n := n) (cap := cap) h)
  have G := Lib.hid g
  have Hn := Lib.hid hn
  clear h g hn
  have hne2 : ((one : Int) != (other : Int)) = true := by simpa using (by omega : ¬ (one : Int) = other)
  go_enter Tryz.func33, Tryz.ntmps33
  go_wp2_with fail
  refine wp_region_plan (.take 0 <| .take 1 <| .only 2 <| .take 3 <| .take 4 <| .take 5 <| .only 6 <| .take 7 <| .take 8 <| .take 9 <| .take 10 <| .only 11 <| .take 12 <| .take 13 <| .take 14 <| .take 15 <| .take 16 <| .take 17 <| .only 18 <| .take 19 <| .take 20 <| .take 21 <| .take 22 <| .take 23 <| .done) (fun W => Bx n ss oa cap w W) mixed (by kernel_rfl) (by kernel_rfl) rfl (fun _ _ d _ _ h => by cases d <;> exact h) (bx.out.drew) ?_
  repeat (first | (refine plan_take (v := ?_) rfl rfl (fun W hW => ?_) ?_; rotate_left; (focus (have dc0 := hW.c0; have dc1 := hW.c1; go_simp; first | exact rfl | (split <;> first | exact rfl | (exfalso; omega)) | done)); simp only [Act.put, List.setIfInBounds_toArray, List.set_cons_zero, List.set_cons_succ]) | (refine plan_skip rfl rfl ?_; simp only [Act.put, List.setIfInBounds_toArray, List.set_cons_zero, List.set_cons_succ]))
  refine plan_walk rfl ?_; intro K hK
  go_wp2_with (first | (go_at_call 73; refine (bx.out.drew.board G.out).mono ?_; rintro e w1 ⟨rfl, b1⟩))
  refine hK _ _ b1 ?_
  repeat (first | (refine plan_take (v := ?_) rfl rfl (fun W hW => ?_) ?_; rotate_left; (focus (have dc0 := hW.c0; have dc1 := hW.c1; go_simp; first | exact rfl | (split <;> first | exact rfl | (exfalso; omega)) | done)); simp only [Act.put, List.setIfInBounds_toArray, List.set_cons_zero, List.set_cons_succ]) | (refine plan_skip rfl rfl ?_; simp only [Act.put, List.setIfInBounds_toArray, List.set_cons_zero, List.set_cons_succ]))
  refine plan_walk rfl ?_; intro K hK
  go_wp2_with (first | (go_at_call 83; refine (b1.name G.out _ one h1).mono ?_; rintro e w2 ⟨rfl, b2⟩))
  refine hK _ _ b2 ?_
  repeat (first | (refine plan_take (v := ?_) rfl rfl (fun W hW => ?_) ?_; rotate_left; (focus (have dc0 := hW.c0; have dc1 := hW.c1; go_simp; first | exact rfl | (split <;> first | exact rfl | (exfalso; omega)) | done)); simp only [Act.put, List.setIfInBounds_toArray, List.set_cons_zero, List.set_cons_succ]) | (refine plan_skip rfl rfl ?_; simp only [Act.put, List.setIfInBounds_toArray, List.set_cons_zero, List.set_cons_succ]))
  refine plan_walk rfl ?_; intro K hK
  go_wp2_with (first | (go_at_call 83; refine (b2.name G.out _ other h2).mono ?_; rintro e w3 ⟨rfl, b3⟩))
  refine hK _ _ b3 ?_
  repeat (first | (refine plan_take (v := ?_) rfl rfl (fun W hW => ?_) ?_; rotate_left; (focus (skip; go_simp; first | exact rfl | (split <;> first | exact rfl | (exfalso; omega)) | done)); simp only [Act.put, List.setIfInBounds_toArray, List.set_cons_zero, List.set_cons_succ]) | (refine plan_skip rfl rfl ?_; simp only [Act.put, List.setIfInBounds_toArray, List.set_cons_zero, List.set_cons_succ]))
  refine plan_walk rfl ?_; intro K hK
  go_wp2_with (first | (go_at_call 82; refine (b3.orErr G.out).mono ?_; rw [h0]; rintro e w4 ⟨rfl, b4⟩))
  refine hK _ _ b4 ?_
  repeat (first | (refine plan_take (v := ?_) rfl rfl (fun W hW => ?_) ?_; rotate_left; (focus (skip; go_simp; first | exact rfl | (split <;> first | exact rfl | (exfalso; omega)) | done)); simp only [Act.put, List.setIfInBounds_toArray, List.set_cons_zero, List.set_cons_succ]) | (refine plan_skip rfl rfl ?_; simp only [Act.put, List.setIfInBounds_toArray, List.set_cons_zero, List.set_cons_succ]))
  refine plan_done ?_
  go_wp2
  go_ret2
  exact ⟨rfl, b4.ext⟩

theorem pair_names {n one other : Nat} (h1 : one < n) (h2 : other < n) (hne : one ≠ other) : namesOk n [one, other] := by
  refine ⟨by simp [hne], fun x hx => ?_⟩
  simp at hx
  omega

set_option maxRecDepth 100000 in
set_option maxHeartbeats 1000000 in
theorem before_any (n : Nat) (ss : List (List Nat)) (oa : Option Addr) (cap : Nat) (one other : Nat) (w : World) (h : RowsAt w oa (upp ss)) (g : Good n ss) (hn : oa = none → cap = 0) (hcap : ss.length ≤ cap) (h1 : one < n) (h2 : other < n) (hne : one ≠ other) (h0 : ¬ cnt n ss = 0) :
    Calls Tryz.prog 33 #[.agg #[.int .i64 n, .slice oa ss.length cap], .int .i64 one, .int .i64 other] w fun e w' => e = .returned (.tuple #[.int .i64 (wordI (cnt n (ss ++ [[one, other]])) (cnt n ss)), .int .i64 0]) ∧ Ext w w' := by
  have bx := Lib.hid (Bx.start (n := n) (cap := cap) h)
  have G := Lib.hid g
  have Hn := Lib.hid hn
  clear h g hn
  have hne2 : ((one : Int) != (other : Int)) = true := by simpa using (by omega : ¬ (one : Int) = other)
  go_enter Tryz.func33, Tryz.ntmps33
  go_wp2_with fail
  refine wp_region_plan (.take 0 <| .take 1 <| .only 2 <| .take 3 <| .take 4 <| .take 5 <| .only 6 <| .take 7 <| .take 8 <| .take 9 <| .take 10 <| .only 11 <| .take 12 <| .take 13 <| .take 14 <| .take 15 <| .take 16 <| .take 17 <| .only 18 <| .take 19 <| .take 20 <| .take 21 <| .take 22 <| .take 23 <| .done) (fun W => Bx n ss oa cap w W) mixed (by kernel_rfl) (by kernel_rfl) rfl (fun _ _ d _ _ h => by cases d <;> exact h) (bx.out.drew) ?_
  repeat (first | (refine plan_take (v := ?_) rfl rfl (fun W hW => ?_) ?_; rotate_left; (focus (have dc0 := hW.c0; have dc1 := hW.c1; go_simp; first | exact rfl | (split <;> first | exact rfl | (exfalso; omega)) | done)); simp only [Act.put, List.setIfInBounds_toArray, List.set_cons_zero, List.set_cons_succ]) | (refine plan_skip rfl rfl ?_; simp only [Act.put, List.setIfInBounds_toArray, List.set_cons_zero, List.set_cons_succ]))
  refine plan_walk rfl ?_; intro K hK
  go_wp2_with (first | (go_at_call 73; refine (bx.out.drew.board G.out).mono ?_; rintro e w1 ⟨rfl, b1⟩))
  refine hK _ _ b1 ?_
  repeat (first | (refine plan_take (v := ?_) rfl rfl (fun W hW => ?_) ?_; rotate_left; (focus (have dc0 := hW.c0; have dc1 := hW.c1; go_simp; first | exact rfl | (split <;> first | exact rfl | (exfalso; omega)) | done)); simp only [Act.put, List.setIfInBounds_toArray, List.set_cons_zero, List.set_cons_succ]) | (refine plan_skip rfl rfl ?_; simp only [Act.put, List.setIfInBounds_toArray, List.set_cons_zero, List.set_cons_succ]))
  refine plan_walk rfl ?_; intro K hK
  go_wp2_with (first | (go_at_call 83; refine (b1.name G.out _ one h1).mono ?_; rintro e w2 ⟨rfl, b2⟩))
  refine hK _ _ b2 ?_
  repeat (first | (refine plan_take (v := ?_) rfl rfl (fun W hW => ?_) ?_; rotate_left; (focus (have dc0 := hW.c0; have dc1 := hW.c1; go_simp; first | exact rfl | (split <;> first | exact rfl | (exfalso; omega)) | done)); simp only [Act.put, List.setIfInBounds_toArray, List.set_cons_zero, List.set_cons_succ]) | (refine plan_skip rfl rfl ?_; simp only [Act.put, List.setIfInBounds_toArray, List.set_cons_zero, List.set_cons_succ]))
  refine plan_walk rfl ?_; intro K hK
  go_wp2_with (first | (go_at_call 83; refine (b2.name G.out _ other h2).mono ?_; rintro e w3 ⟨rfl, b3⟩))
  refine hK _ _ b3 ?_
  repeat (first | (refine plan_take (v := ?_) rfl rfl (fun W hW => ?_) ?_; rotate_left; (focus (skip; go_simp; first | exact rfl | (split <;> first | exact rfl | (exfalso; omega)) | done)); simp only [Act.put, List.setIfInBounds_toArray, List.set_cons_zero, List.set_cons_succ]) | (refine plan_skip rfl rfl ?_; simp only [Act.put, List.setIfInBounds_toArray, List.set_cons_zero, List.set_cons_succ]))
  refine plan_walk rfl ?_; intro K hK
  go_wp2_with (first | (go_at_call 82; refine (b3.orErr G.out).mono ?_; rw [if_neg h0]; rintro e w4 ⟨rfl, b4⟩))
  refine hK _ _ b4 ?_
  repeat (first | (refine plan_take (v := ?_) rfl rfl (fun W hW => ?_) ?_; rotate_left; (focus (skip; go_simp; first | exact rfl | (split <;> first | exact rfl | (exfalso; omega)) | done)); simp only [Act.put, List.setIfInBounds_toArray, List.set_cons_zero, List.set_cons_succ]) | (refine plan_skip rfl rfl ?_; simp only [Act.put, List.setIfInBounds_toArray, List.set_cons_zero, List.set_cons_succ]))
  refine plan_done ?_
  have c0 := b4.c0
  have c1 := b4.c1
  have B4 := Lib.hid b4
  clear b1 b2 b3 b4
  have hpair : ∀ (b : Nat) (W : World), W.cell? ⟨b, 0, none⟩ = some (.int .i64 one) → W.cell? ⟨b, 1, none⟩ = some (.int .i64 other) → b < W.heap.size → IsInts W (.slice (some ⟨b, 0, none⟩) 2 2) (up [one, other]) := by
    intro b W e0 e1 hb
    refine ⟨_, 2, rfl, Nat.le_refl _, by decide, (fun e => by cases e), fun i x hx => ⟨b, 0, rfl, hb, ?_⟩⟩
    match i, hx with
    | 0, hx => simp [up] at hx; subst hx; simpa using e0
    | 1, hx => simp [up] at hx; subst hx; simpa using e1
  have Hp := Lib.hid hpair; clear hpair
  go_wp2_with (first | (go_at_call 85; refine (Bx.with (B4.out.next ((Ext.refl w4).alloc (.cells #[.int .i64 one, .int .i64 other] 3))) G.out Hn.out hcap (Hp.out w4.heap.size _ (by go_simp) (by go_simp) (by simp)) (pair_names h1 h2 hne)).mono ?_; rintro e w5 ⟨oa', cap', rfl, b5, hr⟩; have B5 := Lib.hid b5; have Hr := Lib.hid hr; clear b5 hr) | (go_at_call 78; refine (B5.out.countWith G.out Hr.out (pair_names h1 h2 hne)).mono ?_; rintro e w6 ⟨rfl, b6⟩; have B6 := Lib.hid b6; clear b6) | (go_at_call 84; refine (word_any _ _ _).mono ?_; rintro e w7 ⟨rfl, hE7⟩))
  go_ret2
  exact ⟨rfl, B6.out.ext.trans hE7⟩

end Go.Proofs.YtiehfpkcaoeieaaGreatDoor

/- Plain mathematics: how many orders are counted, and owners: the greatest level is the longest chain. No condition; nothing of the program but what it was shown to compute. -/
namespace Go.Proofs.YtiehfpkcaoeieaaGreatDoor
open Go.StripM

theorem cnt_all {n : Nat} {ss : List (List Nat)} (hv : Valid n ss) : cnt n ss = (all n ss).length := by
  unfold cnt
  split
  · rename_i h; rw [all_cyc hv h]; rfl
  · exact ways_all hv

theorem cnt_zero {n : Nat} {ss : List (List Nat)} (hv : Valid n ss) : cnt n ss = 0 ↔ cyc n ss = true := by
  rw [cnt_all hv, List.length_eq_zero_iff, all_nil hv]

theorem chMax_ge {f : Nat → Nat} {M : Nat → Nat → Bool} {x i : Nat} : ∀ {k : Nat}, i < k → M x i = true → f i ≤ chMax f M x k := by
  intro k
  induction k with
  | zero => intro h; omega
  | succ k ih =>
    intro h hm
    simp only [chMax]
    by_cases e : i = k
    · subst e; rw [if_pos hm]; omega
    · have := ih (by omega) hm
      split <;> omega

theorem chMax_bound {f : Nat → Nat} {M : Nat → Nat → Bool} {x c : Nat} : ∀ {k : Nat}, (∀ i, i < k → M x i = true → f i ≤ c) → chMax f M x k ≤ c := by
  intro k
  induction k with
  | zero => intro _; exact Nat.zero_le _
  | succ k ih =>
    intro h
    have := ih fun i hi => h i (by omega)
    simp only [chMax]
    split
    · rename_i hm; have := h k (by omega) hm; omega
    · exact this

theorem chain_bound {n : Nat} {M : Nat → Nat → Bool} {f : Nat → Nat} {c : Nat} (hf : ∀ x y, M x y = true → f x < f y) (hc : ∀ x, x < n → f x ≤ c) : ∀ (k x : Nat), x < n → chain M n k x + f x ≤ c + 1 := by
  intro k
  induction k with
  | zero => intro x hx; have := hc x hx; simp only [chain]; omega
  | succ k ih =>
    intro x hx
    have : chMax (chain M n k) M x n ≤ c - f x := chMax_bound fun i hi hm => by
      have h1 := ih i hi
      have h2 := hf x i hm
      have h3 := hc i hi
      omega
    have h3 := hc x hx
    simp only [chain]; omega

/-- There are so many names after each other, the first of which is this one. -/
inductive PF (M : Nat → Nat → Bool) (n : Nat) : Nat → Nat → Prop
  | one {x : Nat} : x < n → PF M n x 1
  | step {a b q : Nat} : a < n → M a b = true → PF M n b q → PF M n a (q + 1)

theorem PF.lt {M : Nat → Nat → Bool} {n x q : Nat} (h : PF M n x q) : x < n := by cases h <;> assumption

theorem pf_chain {M : Nat → Nat → Bool} {n x q : Nat} (h : PF M n x q) : ∀ k, q ≤ k + 1 → q ≤ chain M n k x := by
  induction h with
  | one => intro k _; cases k <;> simp [chain]
  | step h1 h2 h3 ih =>
    intro k hk
    cases k with
    | zero => cases h3 <;> omega
    | succ k =>
      have := ih k (by omega)
      have := chMax_ge (f := chain M n k) h3.lt h2
      simp only [chain]; omega

theorem chTo_pf {n : Nat} {ss : List (List Nat)} (hv : Valid n ss) {x m : Nat} (h : ChTo (pairs ss) x m) : ∀ q, PF (tab n ss) n x q → ∃ s, PF (tab n ss) n s (m + q - 1) := by
  induction h with
  | one x => intro q hq; exact ⟨x, by simpa using hq⟩
  | step h1 h2 ih =>
    intro q hq
    have hE := pairs_edge h2
    obtain ⟨s, hs⟩ := ih (q + 1) (.step (edge_lt hv hE).1 (edge_tab hE) hq)
    exact ⟨s, by have e : ∀ m : Nat, m + (q + 1) - 1 = m + 1 + q - 1 := by omega
                 rw [← e]; exact hs⟩

theorem mx_ge {l : List Nat} {x : Nat} (h : x ∈ l) : x ≤ mx l := by
  induction l with
  | nil => cases h
  | cons y l ih =>
    simp only [mx, List.foldr_cons] at *
    rcases List.mem_cons.1 h with rfl | h
    · omega
    · have := ih h; omega
theorem mx_le {l : List Nat} {c : Nat} (h : ∀ x ∈ l, x ≤ c) : mx l ≤ c := by
  induction l with
  | nil => exact Nat.zero_le _
  | cons y l ih =>
    have := ih fun x hx => h x (by simp [hx])
    have := h y (by simp)
    simp only [mx, List.foldr_cons] at *; omega

theorem getD_mem {l : List Nat} {x : Nat} (h : x < l.length) : l.getD x 0 ∈ l := by
  simp only [List.getD, List.getElem?_eq_getElem h, Option.getD_some]; exact List.getElem_mem h
theorem mem_getD {l : List Nat} {y : Nat} (h : y ∈ l) : ∃ x, x < l.length ∧ l.getD x 0 = y := by
  obtain ⟨i, hi, e⟩ := List.mem_iff_getElem.1 h
  exact ⟨i, hi, by simp [List.getD, hi, e]⟩

/-- Any numbers that grow along the spots, with the greatest of the names. -/
theorem owners_bound {n : Nat} {ss : List (List Nat)} {f : Nat → Nat} {c : Nat} (hf : ∀ p ∈ pairs ss, f p.1 < f p.2) (hc : ∀ x, x < n → f x ≤ c) (h1 : ∀ x, x < n → 1 ≤ f x) : ownersOf n ss ≤ c := by
  refine mx_le fun y hy => ?_
  obtain ⟨x, hx, rfl⟩ := List.mem_map.1 hy
  have hx := List.mem_range.1 hx
  have := chain_bound (M := tab n ss) (fun _ _ h => tab_strict hf h) hc 6 x hx
  have := h1 x hx
  omega

theorem owners_chTo {n : Nat} {ss : List (List Nat)} (hn : n ≤ 6) (hv : Valid n ss) (hc : cyc n ss = false) {x m : Nat} (hx : x < n) (h : ChTo (pairs ss) x m) : m ≤ ownersOf n ss := by
  obtain ⟨s, hs⟩ := chTo_pf hv h 1 (.one hx)
  rw [Nat.add_sub_cancel] at hs
  have h1 := chTo_le hv hc hx h
  exact Nat.le_trans (pf_chain hs 6 (by omega)) (mx_ge (List.mem_map.2 ⟨s, List.mem_range.2 hs.lt, rfl⟩))

theorem owners_levels {n : Nat} {ss : List (List Nat)} (hn : n ≤ 6) (hv : Valid n ss) {l : List Nat} (hl : levels n ss = some l) : mx l = ownersOf n ss := by
  have hc : cyc n ss = false := by
    cases hc : cyc n ss
    · rfl
    · rw [levels_none hv hc] at hl; cases hl
  obtain ⟨l', h1, h2, h3, h4⟩ := levels_some hv hc
  rw [hl] at h1
  injection h1 with h1
  subst h1
  apply Nat.le_antisymm
  · refine mx_le fun y hy => ?_
    obtain ⟨x, hx, rfl⟩ := mem_getD hy
    exact owners_chTo hn hv hc (by omega) (h3 x (by omega))
  · exact owners_bound (f := fun x => l.getD x 0) h4 (fun x hx => mx_ge (getD_mem (by omega))) fun x hx => (h3 x hx).pos

end Go.Proofs.YtiehfpkcaoeieaaGreatDoor
