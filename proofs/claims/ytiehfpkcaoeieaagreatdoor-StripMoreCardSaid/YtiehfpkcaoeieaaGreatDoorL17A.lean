/- The walk of StripMore, up to both boards. No condition. -/
import Derived.Test.YtiehfpkcaoeieaaGreatDoorMathQ
import Derived.Test.YtiehfpkcaoeieaaGreatDoorBoxSet
set_option linter.unusedVariables false
set_option linter.unusedSimpArgs false
namespace Go.Proofs.YtiehfpkcaoeieaaGreatDoor
open Go.RowKit Go.My Go.StripM

/-- What the law calls with the board without a spot, and with the one with a spot made shorter. -/
structure Two (n : Nat) (ss : List (List Nat)) (gone : Nat) (W : World) (qx qy cx cy : Nat) (ox oy : Option Addr) : Prop where
  bx : YBox W qx n (exS ss gone).length cx ox
  rx : RowsAt W ox (upp (exS ss gone))
  lx : (exS ss gone).length ≤ cx
  mx : cx ≤ maxLen
  by_ : YBox W qy n ss.length cy oy
  ry : RowsAt W oy (upp (shS ss gone))
theorem Two.ext {n : Nat} {ss : List (List Nat)} {gone : Nat} {W W' : World} {qx qy cx cy : Nat} {ox oy : Option Addr} (h : Two n ss gone W qx qy cx cy ox oy) (hE : Ext W W') : Two n ss gone W' qx qy cx cy ox oy :=
  ⟨h.bx.ext hE, h.rx.ext hE, h.lx, h.mx, h.by_.ext hE, h.ry.ext hE⟩



set_option maxRecDepth 100000 in
set_option maxHeartbeats 8000000 in
theorem law17a {n : Nat} {ss : List (List Nat)} {oa : Option Addr} {cap gone : Nat} {p : List Nat} {ob : Option Addr} {cb : Nat} {w : World} (g : Good n ss) (hp : isOrd n p) (hgone : gone < ss.length) (h : RowsAt w oa (upp ss)) (ho : IntsAt w ob (up p)) (hl : (upp ss).length ≤ 9223372036854775807) (hpl : p.length ≤ cb) (hpl2 : p.length ≤ 1000)
    (hcap : ss.length ≤ cap) (hcm : cap ≤ maxLen) (hoa : oa = none → cap = 0) (hlen : ¬ (8 : Int) < (p.length : Int)) (hr : (shortB (upp ss) && boardB n (upp ss)) = true) (m : Int) (hm : w.cell? ⟨1, 0, none⟩ = some (.int .i64 m)) :
    Calls Tryz.prog 17 #[.agg #[.int .i64 n, .slice oa ss.length cap], .int .i64 gone, .slice ob p.length cb] w fun e w' => e = .returned (.bool true) ∧ Ext w w' := by
  have hn := board_small g.isB
  have hss := g.len
  have B := Lib.hid (Bx.start (n := n) (cap := cap) h)
  have R29 := Lib.hid (fun (W : World) (hW : Bx n ss oa cap w W) => right_any n (upp ss) oa cap W hW.rows hl)
  have R30 := Lib.hid (fun (W : World) (hW : Bx n ss oa cap w W) (v : Value) => rOrder_any n v (up p) ob cb W hn.1 hn.2 (ho.ext hW.ext) (by rw [up_length]; omega) (by rw [up_length]; exact hpl))
  have Rk := Lib.hid (fun (W : World) (hW : Bx n ss oa cap w W) => known_any W m (cell_ext hW.ext hm))
  have R58 := Lib.hid (fun W o1 (hi : IntsAt W o1 (up [gone])) => others_r (n : Int) ss.length oa cap [gone] o1 1 W hi (by omega) (by simp))
  have hol := othN_len ss.length [gone]
  have hex : (exS ss gone).length = (othN ss.length [gone]).length := ex_len
  have R51 := Lib.hid (fun W (hE : Ext w W) o5 c5 (hi : IntsAt W o5 (up (othN ss.length [gone]))) => only_r2 n ss oa cap (othN ss.length [gone]) o5 c5 w W h hE hi (by omega) (by omega) oth_lt)
  have hexd : onlyN ss (othN ss.length [gone]) = exS ss gone := rfl
  rw [hexd] at R51
  have gx := g.ex gone
  have gy := g.sh hgone
  have R31 := Lib.hid (fun (W : World) (hW : Bx n ss oa cap w W) => agrees2_any n ss oa cap p ob cb W hW.rows g (ho.ext hW.ext) hpl hp)
  have R31x := Lib.hid (fun (W : World) (hW : Bx n ss oa cap w W) (ox : Option Addr) (cx : Nat) (hr : RowsAt W ox (upp (exS ss gone))) => agrees2_any n (exS ss gone) ox cx p ob cb W hr gx (ho.ext hW.ext) hpl hp)
  have R31y := Lib.hid (fun (W : World) (hW : Bx n ss oa cap w W) (ox : Option Addr) (cx : Nat) (hr : RowsAt W ox (upp (shS ss gone))) => agrees2_any n (shS ss gone) ox cx p ob cb W hr gy (ho.ext hW.ext) hpl hp)
  have R25 := Lib.hid (fun (W : World) (hW : Bx n ss oa cap w W) => scount_any n ss oa cap W hW.rows g)
  have R25x := Lib.hid (fun (W : World) (ox : Option Addr) (cx : Nat) (hr : RowsAt W ox (upp (exS ss gone))) => scount_any n (exS ss gone) ox cx W hr gx)
  have R25y := Lib.hid (fun (W : World) (ox : Option Addr) (cx : Nat) (hr : RowsAt W ox (upp (shS ss gone))) => scount_any n (shS ss gone) ox cx W hr gy)
  rw [sh_len] at R31y R25y
  have R60 := Lib.hid (fun (W : World) (hW : Bx n ss oa cap w W) (h0 : ¬ cnt n ss = 0) => owners_any n ss oa cap W hW.rows g h0)
  have R60x := Lib.hid (fun (W : World) (ox : Option Addr) (cx : Nat) (hr : RowsAt W ox (upp (exS ss gone))) (h0 : ¬ cnt n (exS ss gone) = 0) => owners_any n (exS ss gone) ox cx W hr gx h0)
  have R60n := Lib.hid (fun (W : World) (hW : Bx n ss oa cap w W) (h0 : cnt n ss = 0) => owners_none n ss oa cap W hW.rows g h0)
  have R60xn := Lib.hid (fun (W : World) (ox : Option Addr) (cx : Nat) (hr : RowsAt W ox (upp (exS ss gone))) (h0 : cnt n (exS ss gone) = 0) => owners_none n (exS ss gone) ox cx W hr gx h0)
  have hpos : 0 < (wrongsOf n ss).length := List.length_pos_iff.2 (wrongs_ne g.len)
  have hposx : 0 < (wrongsOf n (exS ss gone)).length := List.length_pos_iff.2 (wrongs_ne gx.len)
  obtain ⟨f, hbl⟩ := blamed (n := n) (M := List.range ss.length) g.len (range_lt _) (fun i hi => List.mem_range.1 hi) (by have := (full_mem ⟨ss.length, by omega⟩).2; simp only at this; rw [this]; simp [onlyN, cyc_nil])
  obtain ⟨f', hbl', hff⟩ := wrongs_sub g gone hbl.ris hbl.can
  have hf : (wrongsOf n ss)[0] = f := by have := hbl.f0; rw [List.getElem?_eq_getElem hpos] at this; simpa using this
  have hf' : (wrongsOf n (exS ss gone))[0] = f' := by have := hbl'.f0; rw [List.getElem?_eq_getElem hposx] at this; simpa using this
  have R49 := Lib.hid (fun (W : World) (hW : Bx n ss oa cap w W) => wrong_any n ss oa cap W hW.rows g hcap hcm hpos)
  have R49x := Lib.hid (fun (W : World) (ox : Option Addr) (cx : Nat) (hr : RowsAt W ox (upp (exS ss gone))) (h1 : (exS ss gone).length ≤ cx) (h2 : cx ≤ maxLen) => wrong_any n (exS ss gone) ox cx W hr gx h1 h2 hposx)
  simp only [hf] at R49
  simp only [hf'] at R49x
  have hkx : okOrd ss p = true → okOrd (exS ss gone) p = true := fun h => ok_ex (ok_sh hgone h)
  have hky : okOrd ss p = true → okOrd (shS ss gone) p = true := fun h => ok_sh hgone h
  have hCY : cnt n ss ≤ cnt n (shS ss gone) := cnt_le_cnt g.valid gy.valid fun p h => ok_sh hgone h
  have hCX : cnt n (shS ss gone) ≤ cnt n (exS ss gone) := cnt_le_cnt gy.valid gx.valid fun p h => ok_ex h
  have hOW : ¬ cnt n ss = 0 → ownersOf n (exS ss gone) ≤ ownersOf n ss := fun h0 => owners_sub g.le g.valid (by cases hc : cyc n ss; rfl; exact absurd ((cnt_zero g.valid).2 hc) h0) ex_sub
  have HOW := Lib.hid hOW
  have Hk := Lib.hid (And.intro hkx hky)
  have hi0 : ¬ (gone : Int) < 0 := by omega
  have hi0' : decide ((gone : Int) < 0) = false := by simp
  have hi1 : ¬ (ss.length : Int) ≤ (gone : Int) := by omega
  have hi2 : ¬ ss.length ≤ gone := by omega
  obtain ⟨OT, hOT⟩ : ∃ OT, OT = othN ss.length [gone] := ⟨_, rfl⟩
  rw [← hOT] at R51 R58 hex
  obtain ⟨b2, off2, o2, c2, hoa2, hb2, hc2, r1, r2, r3, r4⟩ := rows_up h hgone
  subst hoa2
  have hspot := List.all_eq_true.1 (by have := g.isB; simp only [boardB, Bool.and_eq_true] at this; exact this.2) (up ss[gone]) (List.mem_map.2 ⟨_, List.getElem_mem hgone, rfl⟩)
  have hs1 : 1 ≤ ss[gone].length := by
    simp only [spotB, Bool.and_eq_true, inB, decide_eq_true_eq, up_length] at hspot; omega
  have hsh : shS ss gone = ss.set gone (cutS ss[gone]) := by rw [shS]; simp [List.getD, hgone]
  have Hsh := Lib.hid hsh
  have Hex := Lib.hid hex
  have HOT := Lib.hid hOT
  have H := Lib.hid h
  have Ho := Lib.hid ho
  have Hm := Lib.hid hm
  have Hb2 := Lib.hid hc2
  have hs5 : ss[gone].length ≤ 5 := by
    simp only [spotB, Bool.and_eq_true, inB, decide_eq_true_eq, up_length] at hspot; omega
  have hML := cut_len hs1
  have hMLs : (cutS ss[gone]).length ≤ ss[gone].length := by omega
  have hct : IntsAt w o2 (up (cutS ss[gone])) := by have := r4.take (max 1 (ss[gone].length - 1)); simpa [up, cutS] using this
  have Hct := Lib.hid hct
  clear hct
  have Hoa := Lib.hid hoa
  have Hg := Lib.hid g
  have Hp := Lib.hid hp
  simp only [upp_length, hr] at R29
  simp only [up_length, order_of hp] at R30
  clear gx gy hpos hposx hbl hbl' hf hf' hkx hky hOW h ho hl hm g hr hp hol hex hexd hOT hspot hsh hoa hc2 r4
  generalize cutS ss[gone] = cs at *
  generalize ss[gone] = s at *
  go_enter Tryz.func17, Tryz.ntmps17
  go_wp2_with (first | (go_at_call 29; refine (R29.out _ B.out).mono ?_; rintro e w9 ⟨rfl, hE9⟩; replace B := Lib.hid (B.out.next hE9); (try clear c0 c1); have c0 := B.out.c0; have c1 := B.out.c1; clear hE9) | (go_at_call 30; refine (R30.out _ B.out _).mono ?_; rintro e w9 ⟨rfl, hE9⟩; replace B := Lib.hid (B.out.next hE9); (try clear c0 c1); have c0 := B.out.c0; have c1 := B.out.c1; obtain ⟨wr, rfl⟩ : ∃ wr : World, wr = w9 := ⟨_, rfl⟩; clear hE9))
  refine wp_region_plan (.take 0 <| .take 1 <| .take 2 <| .two 3 6 (.two 4 6 (.two 5 6 (.only 6 <| .only 7 <| .done) (.only 5 <| .only 7 <| .done)) (.only 4 <| .only 5 <| .only 7 <| .done)) (.only 3 <| .only 4 <| .only 5 <| .only 7 <| .done)) (fun W => Ext wr W) mixed (by kernel_rfl) (by kernel_rfl) rfl (fun _ _ d _ _ h => by cases d <;> exact h) ((Ext.refl wr).drew) ?_
  repeat (first | (refine plan_take (v := ?_) rfl rfl (fun W hW => ?_) ?_; rotate_left; (focus (have e0 := cell_ext hW c0; have e1 := cell_ext hW c1; go_simp; first | exact rfl | (split <;> first | exact rfl | (exfalso; omega)) | done)); simp only [Act.put, List.setIfInBounds_toArray, List.set_cons_zero, List.set_cons_succ]) | (refine plan_skip rfl rfl ?_; simp only [Act.put, List.setIfInBounds_toArray, List.set_cons_zero, List.set_cons_succ]))
  refine plan_share (fun A a' w' => ∃ (v58 v59 : Value) (ox : Option Addr) (cx q : Nat), a' = ((((A.put (some 58) v58).put (some 59) v59).put (some 60) (.agg #[.int .i64 n, .slice ox OT.length cx])).put (some 7) (.pointer (some ⟨q, 0, none⟩))) ∧
    OT.length ≤ cx ∧ cx ≤ maxLen ∧ Ext wr w' ∧ YBox w' q n OT.length cx ox ∧ RowsAt w' ox (upp (exS ss gone))) ?_ ?_
  · have hwr := B.out.ext
    have HWr := Lib.hid hwr
    have hsz := hwr.size
    have hBd := World.block_lt_of_cell? _ _ c0
    simp only at hBd
    clear hwr
    have hd : Ext wr wr.drew := (Ext.refl wr).drew
    refine plan_two rfl rfl ?_ ?_
    · intro K hK
      have Hi1 := Lib.hid (one_ints wr.drew gone)
      go_wp2
      have h3 : Ext wr (wr.drew.alloc (.cells #[.int .i64 gone] 3)) := hd.alloc _
      refine hK _ _ h3 ?_
      refine plan_two rfl rfl ?_ ?_
      · intro K hK
        go_wp2_with (first | (go_at_call 58; refine (R58.out _ _ Hi1.out).mono ?_; rintro e w5 ⟨v5, rfl, hi5, hE5⟩; obtain ⟨o5, c5, rfl, hc51, hc52, _, hi5⟩ := isInts_up hi5; have Hi5 := Lib.hid hi5; clear hi5))
        have h5 := h3.trans hE5
        have hE51 := HWr.out.trans h5
        have hz5 := h5.size
        refine hK _ _ h5 ?_
        refine plan_two rfl rfl ?_ ?_
        · intro K hK
          go_wp2_with (first | (go_at_call 51; refine (R51.out _ hE51 o5 c5 Hi5.out).mono ?_; rintro e w6 ⟨o6, c6, rfl, hx1, hx2, hx3, hr6, hE6⟩; have Hr6 := Lib.hid hr6; clear hr6))
          have h6 := h5.trans hE6
          refine hK _ _ h6 ?_
          refine plan_walk rfl ?_; intro K hK
          go_wp2
          refine hK _ _ (h6.alloc _) ?_
          refine plan_walk rfl ?_; intro K hK
          have hN := ZBox.putNew (n := n) (len := OT.length) (cap := c6) h6 Hr6.out.rowsAt
          have HN := Lib.hid hN
          clear hN
          go_wp2
          refine hK _ _ HN.out.1 ?_
          refine plan_met ?_
          exact ⟨_, _, o6, c6, _, rfl, hx1, hx2, HN.out.1, HN.out.2.1, HN.out.2.2⟩
        · intro K hK
          have z5 := ZBox.new w5
          have Z5 := Lib.hid z5
          clear z5
          go_wp2
          refine hK _ _ (h5.alloc _) ?_
          refine plan_walk rfl ?_; intro K hK
          replace hE51 := hE51.alloc (.cells #[.int .i64 0, .slice none 0 0] 24)
          replace Hi5 := Lib.hid (Hi5.out.ext ((Ext.refl w5).alloc (.cells #[.int .i64 0, .slice none 0 0] 24)))
          go_wp2_with (first | (go_at_call 51; refine (R51.out _ hE51 o5 c5 Hi5.out).mono ?_; rintro e w6 ⟨o6, c6, rfl, hx1, hx2, hx3, hr6, hE6⟩; have Hr6 := Lib.hid hr6; clear hr6))
          have h6 := (h5.alloc (.cells #[.int .i64 0, .slice none 0 0] 24)).trans hE6
          have z6 := Z5.out.ext hE6
          refine hK _ _ h6 ?_
          have hN := z6.put (n := n) (w0 := wr) h6 (by omega) Hr6.out (by omega) (by simp; omega)
          refine plan_walk rfl ?_; intro K hK; have z0 := z6.c0; have z1 := z6.c1; have g0 := z6.f0; have g1 := z6.f1; have HN := Lib.hid hN; clear hN; go_wp2; refine hK _ _ HN.out.1 ?_; refine plan_met ?_; exact ⟨_, _, o6, c6, _, rfl, hx1, hx2, HN.out.1, HN.out.2.1, HN.out.2.2⟩
      · intro K hK
        have z3 : ZBox ((wr.drew.alloc (.cells #[.int .i64 gone] 3)).alloc (.cells #[.int .i64 0, .slice none 0 0] 24)) (wr.heap.size + 1) := by have := ZBox.new (wr.drew.alloc (.cells #[.int .i64 gone] 3)); simpa using this
        have Z3 := Lib.hid z3
        clear z3
        go_wp2
        have h7 := h3.alloc (.cells #[.int .i64 0, .slice none 0 0] 24)
        refine hK _ _ h7 ?_
        refine plan_walk rfl ?_; intro K hK
        replace Hi1 := Lib.hid (Hi1.out.ext ((Ext.refl _).alloc (.cells #[.int .i64 0, .slice none 0 0] 24)))
        go_wp2_with (first | (go_at_call 58; refine (R58.out _ _ Hi1.out).mono ?_; rintro e w5 ⟨v5, rfl, hi5, hE5⟩; obtain ⟨o5, c5, rfl, hc51, hc52, _, hi5⟩ := isInts_up hi5; have Hi5 := Lib.hid hi5; clear hi5))
        have h5 := h7.trans hE5
        have hE51 := HWr.out.trans h5
        refine hK _ _ h5 ?_
        refine plan_walk rfl ?_; intro K hK
        go_wp2_with (first | (go_at_call 51; refine (R51.out _ hE51 o5 c5 Hi5.out).mono ?_; rintro e w6 ⟨o6, c6, rfl, hx1, hx2, hx3, hr6, hE6⟩; have Hr6 := Lib.hid hr6; clear hr6))
        have h6 := h5.trans hE6
        have z6 := (Z3.out.ext hE5).ext hE6
        refine hK _ _ h6 ?_
        have hsz5 := hE5.size
        simp only [World.size_alloc] at hsz5
        have hN := z6.put (n := n) (w0 := wr) h6 (by omega) Hr6.out (by omega) (by simp at hsz5; omega)
        refine plan_walk rfl ?_; intro K hK; have z0 := z6.c0; have z1 := z6.c1; have g0 := z6.f0; have g1 := z6.f1; have HN := Lib.hid hN; clear hN; go_wp2; refine hK _ _ HN.out.1 ?_; refine plan_met ?_; exact ⟨_, _, o6, c6, _, rfl, hx1, hx2, HN.out.1, HN.out.2.1, HN.out.2.2⟩
    · intro K hK
      have z3 : ZBox (wr.drew.alloc (.cells #[.int .i64 0, .slice none 0 0] 24)) wr.heap.size := by have := ZBox.new wr.drew; simpa using this
      have Z3 := Lib.hid z3
      clear z3
      go_wp2
      have h7 := hd.alloc (.cells #[.int .i64 0, .slice none 0 0] 24)
      refine hK _ _ h7 ?_
      refine plan_walk rfl ?_; intro K hK
      have hi1 : IntsAt ((wr.drew.alloc (.cells #[.int .i64 0, .slice none 0 0] 24)).alloc (.cells #[.int .i64 gone] 3)) (some ⟨wr.heap.size + 1, 0, none⟩) (up [gone]) := by have := one_ints (wr.drew.alloc (.cells #[.int .i64 0, .slice none 0 0] 24)) gone; simpa using this
      have Hi1 := Lib.hid hi1
      clear hi1
      go_wp2
      have h3 := h7.alloc (.cells #[.int .i64 gone] 3)
      refine hK _ _ h3 ?_
      refine plan_walk rfl ?_; intro K hK
      go_wp2_with (first | (go_at_call 58; refine (R58.out _ _ Hi1.out).mono ?_; rintro e w5 ⟨v5, rfl, hi5, hE5⟩; obtain ⟨o5, c5, rfl, hc51, hc52, _, hi5⟩ := isInts_up hi5; have Hi5 := Lib.hid hi5; clear hi5))
      have h5 := h3.trans hE5
      have hE51 := HWr.out.trans h5
      refine hK _ _ h5 ?_
      refine plan_walk rfl ?_; intro K hK
      go_wp2_with (first | (go_at_call 51; refine (R51.out _ hE51 o5 c5 Hi5.out).mono ?_; rintro e w6 ⟨o6, c6, rfl, hx1, hx2, hx3, hr6, hE6⟩; have Hr6 := Lib.hid hr6; clear hr6))
      have h6 := h5.trans hE6
      have z6 := ((Z3.out.ext ((Ext.refl _).alloc (.cells #[.int .i64 gone] 3))).ext hE5).ext hE6
      refine hK _ _ h6 ?_
      have hsz5 := hE5.size
      simp only [World.size_alloc] at hsz5
      have hN := z6.put (n := n) (w0 := wr) h6 (by omega) Hr6.out (by omega) (by simp at hsz5; omega)
      refine plan_walk rfl ?_; intro K hK; have z0 := z6.c0; have z1 := z6.c1; have g0 := z6.f0; have g1 := z6.f1; have HN := Lib.hid hN; clear hN; go_wp2; refine hK _ _ HN.out.1 ?_; refine plan_met ?_; exact ⟨_, _, o6, c6, _, rfl, hx1, hx2, HN.out.1, HN.out.2.1, HN.out.2.2⟩
  · intro a' w4 ⟨v58, v59, ox, cx, qx, ha', hx1, hx2, hE, bx, hrx⟩
    subst ha'
    simp only [Act.put, List.setIfInBounds_toArray, List.set_cons_zero, List.set_cons_succ]
    have Hbx := Lib.hid bx
    have Hrx := Lib.hid hrx
    replace B := Lib.hid (B.out.next hE)
    clear c0 c1 hE bx hrx R51 R58
    have c0 := B.out.c0
    have c1 := B.out.c1
    have hE4 := B.out.ext
    have hw4 : w.heap.size < w4.heap.size := World.block_lt_of_cell? _ _ c0
    have hw4n : w.heap.size ≠ w4.heap.size := by omega
    go_wp2_with (first | (at_builtin; refine wpList_appRows _ rfl _ _ rfl w ss _ cap rfl rfl H.out (hE4.alloc _) Hoa.out hcap hcm (by omega) ?_; intro v1 w1 hown1 hE3; rw [World.size_alloc] at hown1; obtain ⟨g1, cy, rfl, hg1, hg2, hy1, hy2⟩ := hown1.at hgone; have y0 := cell_ext (p := ⟨w4.heap.size, 0, none⟩) (v := .int .i64 n) hE3 (by go_simp); have y1 := cell_ext (p := ⟨w4.heap.size, 1, none⟩) (v := .slice (some ⟨b2, off2, none⟩) ss.length cap) hE3 (by go_simp); have f1 : w1.frozen? ⟨w4.heap.size, 1, none⟩ = false := (hE3.frozen (by simp)).trans (by go_simp); have tg : ∃ c, w1.heap[w4.heap.size]? = some (.cells c 24 (0, 0)) := ⟨_, (hE3.block w4.heap.size (by simp)).trans (heap_alloc_new _ _)⟩; have Hown1 := Lib.hid hown1; have HE3 := Lib.hid hE3; have Tg := Lib.hid tg; clear hown1 hE3 tg))
    have hT := (Turned.refl w4.heap.size w1).set 1 (.slice (some ⟨g1, 0, none⟩) ss.length cy)
    have own6 := Hown1.out.turned hT (by omega) (by omega) (tag_set Tg.out (by decide))
    have hE6 : Ext w4 (w1.setCell ⟨w4.heap.size, 1, none⟩ (.slice (some ⟨g1, 0, none⟩) ss.length cy)) := ext_own (((Ext.refl w4).alloc _).trans HE3.out) hT (Nat.le_refl _)
    have Y0 := Lib.hid (show (w1.setCell ⟨w4.heap.size, 1, none⟩ (.slice (some ⟨g1, 0, none⟩) ss.length cy)).cell? ⟨w4.heap.size, 0, none⟩ = some (.int .i64 n) by rw [World.cell?_setCell_other _ _ _ _ (by simp)]; exact y0)
    have Y1 := Lib.hid (show (w1.setCell ⟨w4.heap.size, 1, none⟩ (.slice (some ⟨g1, 0, none⟩) ss.length cy)).cell? ⟨w4.heap.size, 1, none⟩ = some (.slice (some ⟨g1, 0, none⟩) ss.length cy) from World.cell?_setCell_same _ _ _ y1)
    have hg2' : g1 < (w1.setCell ⟨w4.heap.size, 1, none⟩ (.slice (some ⟨g1, 0, none⟩) ss.length cy)).heap.size := by simpa [World.setCell] using hg2
    have Own6 := Lib.hid own6
    have HE6 := Lib.hid hE6
    have B4 := B
    replace B := Lib.hid (B.out.next hE6)
    clear c0 c1 y0 y1 f1 hT own6 Hown1 HE3 hE4 hE6 hg2
    have c0 := B.out.c0
    have c1 := B.out.c1
    have d1 := Y1.out
    have hcr := cell_ext B.out.ext Hb2.out
    have hb2' : b2 < w4.heap.size + 1 := by omega
    generalize (w1.setCell ⟨w4.heap.size, 1, none⟩ (.slice (some ⟨g1, 0, none⟩) ss.length cy)) = wr at *
    have hsm : s.length ≤ 9223372036854775807 := by unfold maxLen at *; omega
    have hmx : max 1 (IntKind.i64.wrap ((s.length : Int) - 1)) = (cs.length : Int) := by rw [IntWalk.i64_in _ (by omega)]; omega
    have hcl : (cs.length : Int) ≤ (c2 : Int) := by omega
    have hcl2 : cs.length ≤ c2 := by omega
    clear hML
    go_wp2_with fail
    refine wp_region_plan (.take 0 <| .take 1 <| .take 2 <| .take 3 <| .take 4 <| .take 5 <| .take 6 <| .take 7 <| .take 8 <| .take 9 <| .take 10 <| .take 11 <| .take 12 <| .take 13 <| .take 14 <| .take 15 <| .take 16 <| .only 17 <| .take 18 <| .only 19 <| .done) (fun W => Below (w4.heap.size + 1) wr W) mixed (by kernel_rfl) (by kernel_rfl) rfl (fun _ _ d _ _ h => by cases d <;> exact h) ((Below.refl _ wr).drew) ?_
    repeat (first | (refine plan_take (v := ?_) rfl rfl (fun W hW => ?_) ?_; rotate_left; (focus (have e0 := cell_below hW (show w.heap.size < w4.heap.size + 1 by omega) c0; have e1 := cell_below hW (show w.heap.size < w4.heap.size + 1 by omega) c1; have e2 := cell_below hW (show w4.heap.size < w4.heap.size + 1 by omega) d1; have e3 := cell_below hW hb2' hcr; go_simp; first | exact rfl | (split <;> first | exact rfl | (exfalso; omega)) | done)); simp only [Act.put, List.setIfInBounds_toArray, List.set_cons_zero, List.set_cons_succ]) | (refine plan_skip rfl rfl ?_; simp only [Act.put, List.setIfInBounds_toArray, List.set_cons_zero, List.set_cons_succ]))
    refine plan_walk rfl ?_; intro K hK
    refine wpList_appNow _ rfl _ _ rfl cs o2 c2 rfl rfl (Hct.out.ext (B.out.ext.trans (Ext.refl wr).drew)) r3 hcl2 (by omega) ?_
    intro v2 w2 own2 hE2
    obtain ⟨o5, c5, rfl, _, _, _, _⟩ := isInts_up (RowE.of_own (base := 0) own2).ints
    have hr2 : RowE w2 w.heap.size _ (up cs) := RowE.of_own own2
    have hX2 := (Ext.refl wr).drew.trans hE2
    have hwrs : w4.heap.size + 1 ≤ wr.heap.size := by omega
    have hB2 : Below (w4.heap.size + 1) wr w2 := hX2.mono hwrs
    have hsz2 := hX2.size
    obtain ⟨g', cap', e1, q1, q2, _, _, ⟨u0, q3⟩, q4, own7⟩ := (Own6.out.ext hX2).set hgone hr2
    obtain rfl : g1 = g' := by injection e1 with e1; injection e1 with e1; injection e1
    have Own7 := Lib.hid own7
    clear own7 e1 hr2 own2
    go_wp2
    refine hK _ _ hB2 ?_
    repeat (first | (refine plan_take (v := ?_) rfl rfl (fun W hW => ?_) ?_; rotate_left; (focus (skip; go_simp; first | exact rfl | (split <;> first | exact rfl | (exfalso; omega)) | done)); simp only [Act.put, List.setIfInBounds_toArray, List.set_cons_zero, List.set_cons_succ]) | (refine plan_skip rfl rfl ?_; simp only [Act.put, List.setIfInBounds_toArray, List.set_cons_zero, List.set_cons_succ]))
    refine plan_walk rfl ?_; intro K hK
    have hT7 := (Turned.refl g1 w2).set gone (.slice o5 cs.length c5)
    have hB7 := below_own hB2 hT7 hg1 (by omega)
    have hE7 := ext_own ((HE6.out.trans (Ext.refl wr).drew).trans hE2) hT7 (by omega)
    go_wp2
    refine hK _ _ hB7 ?_
    refine plan_done ?_
    replace B := Lib.hid (B4.out.next hE7)
    have hT : Two n ss gone (w2.setCell ⟨g1, gone, none⟩ (.slice o5 cs.length c5)) qx w4.heap.size cx cy ox (some ⟨g1, 0, none⟩) := by
      refine ⟨?_, Hrx.out.ext hE7, ?_, hx2, ⟨cell_below hB7 (Nat.lt_succ_self _) Y0.out, cell_below hB7 (Nat.lt_succ_self _) Y1.out⟩, ?_⟩
      · rw [Hex.out]; exact Hbx.out.ext hE7
      · rw [Hex.out]; exact hx1
      · rw [Hsh.out]; exact Own7.out.rowsAt
    have HT := Lib.hid hT
    clear hT hB7 hE7 hT7 Own7 B4 HE6 Y0 Y1 Own6 hB2 hX2 hsz2 q1 q2 q3 q4 c0 c1 d1 hcr hE2 Hbx Hrx hwrs hg1 hg2' hw4 hw4n hb2' hmx hcl hcl2
    generalize (w2.setCell ⟨g1, gone, none⟩ (.slice o5 cs.length c5)) = wt at *
    generalize w4.heap.size = qy at *
    clear Ho Hm Hb2 Hct Hg Hp Hoa H HOT Hex Hsh
    have c0 := B.out.c0
    have c1 := B.out.c1
    have d0 := HT.out.bx.c0
    have d1 := HT.out.bx.c1
    have d2 := HT.out.by_.c0
    have d3 := HT.out.by_.c1
    have T31 := Lib.hid trivial; have T31x := Lib.hid trivial; have T31y := Lib.hid trivial; have T25 := Lib.hid trivial; have T25x := Lib.hid trivial; have T25y := Lib.hid trivial; have T60 := Lib.hid trivial; have T49 := Lib.hid trivial
    have i1 : ¬ (cnt n (exS ss gone) : Int) < (cnt n ss : Int) := by omega
    have i2 : ¬ (cnt n (shS ss gone) : Int) < (cnt n ss : Int) := by omega
    have i3 : ¬ (cnt n (exS ss gone) : Int) < (cnt n (shS ss gone) : Int) := by omega
    have j1 : ¬ cnt n (exS ss gone) < cnt n ss := by omega
    have j2 : ¬ cnt n (shS ss gone) < cnt n ss := by omega
    have j3 : ¬ cnt n (exS ss gone) < cnt n (shS ss gone) := by omega
    have hffI : (f'.length : Int) ≤ (f.length : Int) := by omega
    obtain ⟨hkx, hky⟩ := Hk.out
    clear Hk
    generalize okOrd ss p = KB at *
    generalize okOrd (exS ss gone) p = KX at *
    generalize okOrd (shS ss gone) p = KY at *
    cases KB
    · clear hkx hky
      by_cases h0 : cnt n ss = 0
      · replace R60n := Lib.hid (fun W hW => R60n.out W hW h0)
        clear R60
        by_cases hx0 : cnt n (exS ss gone) = 0
        · replace R60xn := Lib.hid (fun W ox cx hr => R60xn.out W ox cx hr hx0)
          clear R60x HOW h0 hx0
          generalize cnt n (exS ss gone) = CX at *
          generalize cnt n (shS ss gone) = CY at *
          generalize cnt n ss = C at *
          go_wp2_with (first | (go_at_call 31; have t0 := T31; clear t0 T31; refine (R31.out _ B.out).mono ?_; rintro e w9 ⟨rfl, hE9⟩; replace B := Lib.hid (B.out.next hE9); (try clear c0 c1); have c0 := B.out.c0; have c1 := B.out.c1; replace HT := Lib.hid (HT.out.ext hE9); (try clear d0 d1 d2 d3); have d0 := HT.out.bx.c0; have d1 := HT.out.bx.c1; have d2 := HT.out.by_.c0; have d3 := HT.out.by_.c1; clear hE9) | (go_at_call 31; have t0 := T31x; clear t0 T31x; refine (R31x.out _ B.out ox cx HT.out.rx).mono ?_; rintro e w9 ⟨rfl, hE9⟩; replace B := Lib.hid (B.out.next hE9); (try clear c0 c1); have c0 := B.out.c0; have c1 := B.out.c1; replace HT := Lib.hid (HT.out.ext hE9); (try clear d0 d1 d2 d3); have d0 := HT.out.bx.c0; have d1 := HT.out.bx.c1; have d2 := HT.out.by_.c0; have d3 := HT.out.by_.c1; clear hE9) | (go_at_call 31; have t0 := T31y; clear t0 T31y; refine (R31y.out _ B.out (some ⟨g1, 0, none⟩) cy HT.out.ry).mono ?_; rintro e w9 ⟨rfl, hE9⟩; replace B := Lib.hid (B.out.next hE9); (try clear c0 c1); have c0 := B.out.c0; have c1 := B.out.c1; replace HT := Lib.hid (HT.out.ext hE9); (try clear d0 d1 d2 d3); have d0 := HT.out.bx.c0; have d1 := HT.out.bx.c1; have d2 := HT.out.by_.c0; have d3 := HT.out.by_.c1; clear hE9) | (go_at_call 25; have t0 := T25; clear t0 T25; refine (R25.out _ B.out).mono ?_; rintro e w9 ⟨rfl, hE9⟩; replace B := Lib.hid (B.out.next hE9); (try clear c0 c1); have c0 := B.out.c0; have c1 := B.out.c1; replace HT := Lib.hid (HT.out.ext hE9); (try clear d0 d1 d2 d3); have d0 := HT.out.bx.c0; have d1 := HT.out.bx.c1; have d2 := HT.out.by_.c0; have d3 := HT.out.by_.c1; clear hE9) | (go_at_call 25; have t0 := T25x; clear t0 T25x; refine (R25x.out _ ox cx HT.out.rx).mono ?_; rintro e w9 ⟨rfl, hE9⟩; replace B := Lib.hid (B.out.next hE9); (try clear c0 c1); have c0 := B.out.c0; have c1 := B.out.c1; replace HT := Lib.hid (HT.out.ext hE9); (try clear d0 d1 d2 d3); have d0 := HT.out.bx.c0; have d1 := HT.out.bx.c1; have d2 := HT.out.by_.c0; have d3 := HT.out.by_.c1; clear hE9) | (go_at_call 25; have t0 := T25y; clear t0 T25y; refine (R25y.out _ (some ⟨g1, 0, none⟩) cy HT.out.ry).mono ?_; rintro e w9 ⟨rfl, hE9⟩; replace B := Lib.hid (B.out.next hE9); (try clear c0 c1); have c0 := B.out.c0; have c1 := B.out.c1; replace HT := Lib.hid (HT.out.ext hE9); (try clear d0 d1 d2 d3); have d0 := HT.out.bx.c0; have d1 := HT.out.bx.c1; have d2 := HT.out.by_.c0; have d3 := HT.out.by_.c1; clear hE9) | (go_at_call 60; have t0 := T60; clear t0 T60; refine (R60n.out _ B.out).mono ?_; rintro e w9 ⟨rfl, hE9⟩; replace B := Lib.hid (B.out.next hE9); (try clear c0 c1); have c0 := B.out.c0; have c1 := B.out.c1; replace HT := Lib.hid (HT.out.ext hE9); (try clear d0 d1 d2 d3); have d0 := HT.out.bx.c0; have d1 := HT.out.bx.c1; have d2 := HT.out.by_.c0; have d3 := HT.out.by_.c1; clear hE9) | (go_at_call 60; refine (R60xn.out _ ox cx HT.out.rx).mono ?_; rintro e w9 ⟨rfl, hE9⟩; replace B := Lib.hid (B.out.next hE9); (try clear c0 c1); have c0 := B.out.c0; have c1 := B.out.c1; replace HT := Lib.hid (HT.out.ext hE9); (try clear d0 d1 d2 d3); have d0 := HT.out.bx.c0; have d1 := HT.out.bx.c1; have d2 := HT.out.by_.c0; have d3 := HT.out.by_.c1; clear hE9) | (go_at_call 49; have t0 := T49; clear t0 T49; refine (R49.out _ B.out).mono ?_; rintro e w9 ⟨⟨v, rfl, hi⟩, hE9⟩; replace B := Lib.hid (B.out.next hE9); (try clear c0 c1); have c0 := B.out.c0; have c1 := B.out.c1; replace HT := Lib.hid (HT.out.ext hE9); (try clear d0 d1 d2 d3); have d0 := HT.out.bx.c0; have d1 := HT.out.bx.c1; have d2 := HT.out.by_.c0; have d3 := HT.out.by_.c1; obtain ⟨of, cf, rfl, _, _, _, _⟩ := isInts_up hi; clear hi; clear hE9) | (go_at_call 49; refine (R49x.out _ ox cx HT.out.rx HT.out.lx HT.out.mx).mono ?_; rintro e w9 ⟨⟨v, rfl, hi⟩, hE9⟩; replace B := Lib.hid (B.out.next hE9); (try clear c0 c1); have c0 := B.out.c0; have c1 := B.out.c1; replace HT := Lib.hid (HT.out.ext hE9); (try clear d0 d1 d2 d3); have d0 := HT.out.bx.c0; have d1 := HT.out.bx.c1; have d2 := HT.out.by_.c0; have d3 := HT.out.by_.c1; obtain ⟨og, cg, rfl, _, _, _, _⟩ := isInts_up hi; clear hi; clear hE9) | (go_at_call 23; refine (Rk.out _ B.out).mono ?_; rintro e w9 ⟨rfl, hE9⟩; replace B := Lib.hid (B.out.next hE9); (try clear c0 c1); have c0 := B.out.c0; have c1 := B.out.c1; clear hE9))
          go_ret
          exact ⟨rfl, B.out.ext⟩
        · replace R60x := Lib.hid (fun W ox cx hr => R60x.out W ox cx hr hx0)
          clear R60xn HOW h0 hx0
          generalize cnt n (exS ss gone) = CX at *
          generalize cnt n (shS ss gone) = CY at *
          generalize cnt n ss = C at *
          go_wp2_with (first | (go_at_call 31; have t0 := T31; clear t0 T31; refine (R31.out _ B.out).mono ?_; rintro e w9 ⟨rfl, hE9⟩; replace B := Lib.hid (B.out.next hE9); (try clear c0 c1); have c0 := B.out.c0; have c1 := B.out.c1; replace HT := Lib.hid (HT.out.ext hE9); (try clear d0 d1 d2 d3); have d0 := HT.out.bx.c0; have d1 := HT.out.bx.c1; have d2 := HT.out.by_.c0; have d3 := HT.out.by_.c1; clear hE9) | (go_at_call 31; have t0 := T31x; clear t0 T31x; refine (R31x.out _ B.out ox cx HT.out.rx).mono ?_; rintro e w9 ⟨rfl, hE9⟩; replace B := Lib.hid (B.out.next hE9); (try clear c0 c1); have c0 := B.out.c0; have c1 := B.out.c1; replace HT := Lib.hid (HT.out.ext hE9); (try clear d0 d1 d2 d3); have d0 := HT.out.bx.c0; have d1 := HT.out.bx.c1; have d2 := HT.out.by_.c0; have d3 := HT.out.by_.c1; clear hE9) | (go_at_call 31; have t0 := T31y; clear t0 T31y; refine (R31y.out _ B.out (some ⟨g1, 0, none⟩) cy HT.out.ry).mono ?_; rintro e w9 ⟨rfl, hE9⟩; replace B := Lib.hid (B.out.next hE9); (try clear c0 c1); have c0 := B.out.c0; have c1 := B.out.c1; replace HT := Lib.hid (HT.out.ext hE9); (try clear d0 d1 d2 d3); have d0 := HT.out.bx.c0; have d1 := HT.out.bx.c1; have d2 := HT.out.by_.c0; have d3 := HT.out.by_.c1; clear hE9) | (go_at_call 25; have t0 := T25; clear t0 T25; refine (R25.out _ B.out).mono ?_; rintro e w9 ⟨rfl, hE9⟩; replace B := Lib.hid (B.out.next hE9); (try clear c0 c1); have c0 := B.out.c0; have c1 := B.out.c1; replace HT := Lib.hid (HT.out.ext hE9); (try clear d0 d1 d2 d3); have d0 := HT.out.bx.c0; have d1 := HT.out.bx.c1; have d2 := HT.out.by_.c0; have d3 := HT.out.by_.c1; clear hE9) | (go_at_call 25; have t0 := T25x; clear t0 T25x; refine (R25x.out _ ox cx HT.out.rx).mono ?_; rintro e w9 ⟨rfl, hE9⟩; replace B := Lib.hid (B.out.next hE9); (try clear c0 c1); have c0 := B.out.c0; have c1 := B.out.c1; replace HT := Lib.hid (HT.out.ext hE9); (try clear d0 d1 d2 d3); have d0 := HT.out.bx.c0; have d1 := HT.out.bx.c1; have d2 := HT.out.by_.c0; have d3 := HT.out.by_.c1; clear hE9) | (go_at_call 25; have t0 := T25y; clear t0 T25y; refine (R25y.out _ (some ⟨g1, 0, none⟩) cy HT.out.ry).mono ?_; rintro e w9 ⟨rfl, hE9⟩; replace B := Lib.hid (B.out.next hE9); (try clear c0 c1); have c0 := B.out.c0; have c1 := B.out.c1; replace HT := Lib.hid (HT.out.ext hE9); (try clear d0 d1 d2 d3); have d0 := HT.out.bx.c0; have d1 := HT.out.bx.c1; have d2 := HT.out.by_.c0; have d3 := HT.out.by_.c1; clear hE9) | (go_at_call 60; have t0 := T60; clear t0 T60; refine (R60n.out _ B.out).mono ?_; rintro e w9 ⟨rfl, hE9⟩; replace B := Lib.hid (B.out.next hE9); (try clear c0 c1); have c0 := B.out.c0; have c1 := B.out.c1; replace HT := Lib.hid (HT.out.ext hE9); (try clear d0 d1 d2 d3); have d0 := HT.out.bx.c0; have d1 := HT.out.bx.c1; have d2 := HT.out.by_.c0; have d3 := HT.out.by_.c1; clear hE9) | (go_at_call 60; refine (R60x.out _ ox cx HT.out.rx).mono ?_; rintro e w9 ⟨rfl, hE9⟩; replace B := Lib.hid (B.out.next hE9); (try clear c0 c1); have c0 := B.out.c0; have c1 := B.out.c1; replace HT := Lib.hid (HT.out.ext hE9); (try clear d0 d1 d2 d3); have d0 := HT.out.bx.c0; have d1 := HT.out.bx.c1; have d2 := HT.out.by_.c0; have d3 := HT.out.by_.c1; clear hE9) | (go_at_call 49; have t0 := T49; clear t0 T49; refine (R49.out _ B.out).mono ?_; rintro e w9 ⟨⟨v, rfl, hi⟩, hE9⟩; replace B := Lib.hid (B.out.next hE9); (try clear c0 c1); have c0 := B.out.c0; have c1 := B.out.c1; replace HT := Lib.hid (HT.out.ext hE9); (try clear d0 d1 d2 d3); have d0 := HT.out.bx.c0; have d1 := HT.out.bx.c1; have d2 := HT.out.by_.c0; have d3 := HT.out.by_.c1; obtain ⟨of, cf, rfl, _, _, _, _⟩ := isInts_up hi; clear hi; clear hE9) | (go_at_call 49; refine (R49x.out _ ox cx HT.out.rx HT.out.lx HT.out.mx).mono ?_; rintro e w9 ⟨⟨v, rfl, hi⟩, hE9⟩; replace B := Lib.hid (B.out.next hE9); (try clear c0 c1); have c0 := B.out.c0; have c1 := B.out.c1; replace HT := Lib.hid (HT.out.ext hE9); (try clear d0 d1 d2 d3); have d0 := HT.out.bx.c0; have d1 := HT.out.bx.c1; have d2 := HT.out.by_.c0; have d3 := HT.out.by_.c1; obtain ⟨og, cg, rfl, _, _, _, _⟩ := isInts_up hi; clear hi; clear hE9) | (go_at_call 23; refine (Rk.out _ B.out).mono ?_; rintro e w9 ⟨rfl, hE9⟩; replace B := Lib.hid (B.out.next hE9); (try clear c0 c1); have c0 := B.out.c0; have c1 := B.out.c1; clear hE9))
          go_ret
          exact ⟨rfl, B.out.ext⟩
      · have hx0 : ¬ cnt n (exS ss gone) = 0 := by omega
        replace R60 := Lib.hid (fun W hW => R60.out W hW h0)
        replace R60x := Lib.hid (fun W ox cx hr => R60x.out W ox cx hr hx0)
        have hOW := HOW.out h0
        clear R60n R60xn HOW h0 hx0
        generalize ownersOf n (exS ss gone) = OX at *
        generalize ownersOf n ss = O at *
        have hOI : ¬ (O : Int) < (OX : Int) := by omega
        have hON : ¬ O < OX := by omega
        generalize cnt n (exS ss gone) = CX at *
        generalize cnt n (shS ss gone) = CY at *
        generalize cnt n ss = C at *
        go_wp2_with (first | (go_at_call 31; have t0 := T31; clear t0 T31; refine (R31.out _ B.out).mono ?_; rintro e w9 ⟨rfl, hE9⟩; replace B := Lib.hid (B.out.next hE9); (try clear c0 c1); have c0 := B.out.c0; have c1 := B.out.c1; replace HT := Lib.hid (HT.out.ext hE9); (try clear d0 d1 d2 d3); have d0 := HT.out.bx.c0; have d1 := HT.out.bx.c1; have d2 := HT.out.by_.c0; have d3 := HT.out.by_.c1; clear hE9) | (go_at_call 31; have t0 := T31x; clear t0 T31x; refine (R31x.out _ B.out ox cx HT.out.rx).mono ?_; rintro e w9 ⟨rfl, hE9⟩; replace B := Lib.hid (B.out.next hE9); (try clear c0 c1); have c0 := B.out.c0; have c1 := B.out.c1; replace HT := Lib.hid (HT.out.ext hE9); (try clear d0 d1 d2 d3); have d0 := HT.out.bx.c0; have d1 := HT.out.bx.c1; have d2 := HT.out.by_.c0; have d3 := HT.out.by_.c1; clear hE9) | (go_at_call 31; have t0 := T31y; clear t0 T31y; refine (R31y.out _ B.out (some ⟨g1, 0, none⟩) cy HT.out.ry).mono ?_; rintro e w9 ⟨rfl, hE9⟩; replace B := Lib.hid (B.out.next hE9); (try clear c0 c1); have c0 := B.out.c0; have c1 := B.out.c1; replace HT := Lib.hid (HT.out.ext hE9); (try clear d0 d1 d2 d3); have d0 := HT.out.bx.c0; have d1 := HT.out.bx.c1; have d2 := HT.out.by_.c0; have d3 := HT.out.by_.c1; clear hE9) | (go_at_call 25; have t0 := T25; clear t0 T25; refine (R25.out _ B.out).mono ?_; rintro e w9 ⟨rfl, hE9⟩; replace B := Lib.hid (B.out.next hE9); (try clear c0 c1); have c0 := B.out.c0; have c1 := B.out.c1; replace HT := Lib.hid (HT.out.ext hE9); (try clear d0 d1 d2 d3); have d0 := HT.out.bx.c0; have d1 := HT.out.bx.c1; have d2 := HT.out.by_.c0; have d3 := HT.out.by_.c1; clear hE9) | (go_at_call 25; have t0 := T25x; clear t0 T25x; refine (R25x.out _ ox cx HT.out.rx).mono ?_; rintro e w9 ⟨rfl, hE9⟩; replace B := Lib.hid (B.out.next hE9); (try clear c0 c1); have c0 := B.out.c0; have c1 := B.out.c1; replace HT := Lib.hid (HT.out.ext hE9); (try clear d0 d1 d2 d3); have d0 := HT.out.bx.c0; have d1 := HT.out.bx.c1; have d2 := HT.out.by_.c0; have d3 := HT.out.by_.c1; clear hE9) | (go_at_call 25; have t0 := T25y; clear t0 T25y; refine (R25y.out _ (some ⟨g1, 0, none⟩) cy HT.out.ry).mono ?_; rintro e w9 ⟨rfl, hE9⟩; replace B := Lib.hid (B.out.next hE9); (try clear c0 c1); have c0 := B.out.c0; have c1 := B.out.c1; replace HT := Lib.hid (HT.out.ext hE9); (try clear d0 d1 d2 d3); have d0 := HT.out.bx.c0; have d1 := HT.out.bx.c1; have d2 := HT.out.by_.c0; have d3 := HT.out.by_.c1; clear hE9) | (go_at_call 60; have t0 := T60; clear t0 T60; refine (R60.out _ B.out).mono ?_; rintro e w9 ⟨rfl, hE9⟩; replace B := Lib.hid (B.out.next hE9); (try clear c0 c1); have c0 := B.out.c0; have c1 := B.out.c1; replace HT := Lib.hid (HT.out.ext hE9); (try clear d0 d1 d2 d3); have d0 := HT.out.bx.c0; have d1 := HT.out.bx.c1; have d2 := HT.out.by_.c0; have d3 := HT.out.by_.c1; clear hE9) | (go_at_call 60; refine (R60x.out _ ox cx HT.out.rx).mono ?_; rintro e w9 ⟨rfl, hE9⟩; replace B := Lib.hid (B.out.next hE9); (try clear c0 c1); have c0 := B.out.c0; have c1 := B.out.c1; replace HT := Lib.hid (HT.out.ext hE9); (try clear d0 d1 d2 d3); have d0 := HT.out.bx.c0; have d1 := HT.out.bx.c1; have d2 := HT.out.by_.c0; have d3 := HT.out.by_.c1; clear hE9) | (go_at_call 49; have t0 := T49; clear t0 T49; refine (R49.out _ B.out).mono ?_; rintro e w9 ⟨⟨v, rfl, hi⟩, hE9⟩; replace B := Lib.hid (B.out.next hE9); (try clear c0 c1); have c0 := B.out.c0; have c1 := B.out.c1; replace HT := Lib.hid (HT.out.ext hE9); (try clear d0 d1 d2 d3); have d0 := HT.out.bx.c0; have d1 := HT.out.bx.c1; have d2 := HT.out.by_.c0; have d3 := HT.out.by_.c1; obtain ⟨of, cf, rfl, _, _, _, _⟩ := isInts_up hi; clear hi; clear hE9) | (go_at_call 49; refine (R49x.out _ ox cx HT.out.rx HT.out.lx HT.out.mx).mono ?_; rintro e w9 ⟨⟨v, rfl, hi⟩, hE9⟩; replace B := Lib.hid (B.out.next hE9); (try clear c0 c1); have c0 := B.out.c0; have c1 := B.out.c1; replace HT := Lib.hid (HT.out.ext hE9); (try clear d0 d1 d2 d3); have d0 := HT.out.bx.c0; have d1 := HT.out.bx.c1; have d2 := HT.out.by_.c0; have d3 := HT.out.by_.c1; obtain ⟨og, cg, rfl, _, _, _, _⟩ := isInts_up hi; clear hi; clear hE9) | (go_at_call 23; refine (Rk.out _ B.out).mono ?_; rintro e w9 ⟨rfl, hE9⟩; replace B := Lib.hid (B.out.next hE9); (try clear c0 c1); have c0 := B.out.c0; have c1 := B.out.c1; clear hE9))
        go_ret
        exact ⟨rfl, B.out.ext⟩
    · have hkx := hkx rfl
      have hky := hky rfl
      subst hkx hky
      by_cases h0 : cnt n ss = 0
      · replace R60n := Lib.hid (fun W hW => R60n.out W hW h0)
        clear R60
        by_cases hx0 : cnt n (exS ss gone) = 0
        · replace R60xn := Lib.hid (fun W ox cx hr => R60xn.out W ox cx hr hx0)
          clear R60x HOW h0 hx0
          generalize cnt n (exS ss gone) = CX at *
          generalize cnt n (shS ss gone) = CY at *
          generalize cnt n ss = C at *
          go_wp2_with (first | (go_at_call 31; have t0 := T31; clear t0 T31; refine (R31.out _ B.out).mono ?_; rintro e w9 ⟨rfl, hE9⟩; replace B := Lib.hid (B.out.next hE9); (try clear c0 c1); have c0 := B.out.c0; have c1 := B.out.c1; replace HT := Lib.hid (HT.out.ext hE9); (try clear d0 d1 d2 d3); have d0 := HT.out.bx.c0; have d1 := HT.out.bx.c1; have d2 := HT.out.by_.c0; have d3 := HT.out.by_.c1; clear hE9) | (go_at_call 31; have t0 := T31x; clear t0 T31x; refine (R31x.out _ B.out ox cx HT.out.rx).mono ?_; rintro e w9 ⟨rfl, hE9⟩; replace B := Lib.hid (B.out.next hE9); (try clear c0 c1); have c0 := B.out.c0; have c1 := B.out.c1; replace HT := Lib.hid (HT.out.ext hE9); (try clear d0 d1 d2 d3); have d0 := HT.out.bx.c0; have d1 := HT.out.bx.c1; have d2 := HT.out.by_.c0; have d3 := HT.out.by_.c1; clear hE9) | (go_at_call 31; have t0 := T31y; clear t0 T31y; refine (R31y.out _ B.out (some ⟨g1, 0, none⟩) cy HT.out.ry).mono ?_; rintro e w9 ⟨rfl, hE9⟩; replace B := Lib.hid (B.out.next hE9); (try clear c0 c1); have c0 := B.out.c0; have c1 := B.out.c1; replace HT := Lib.hid (HT.out.ext hE9); (try clear d0 d1 d2 d3); have d0 := HT.out.bx.c0; have d1 := HT.out.bx.c1; have d2 := HT.out.by_.c0; have d3 := HT.out.by_.c1; clear hE9) | (go_at_call 25; have t0 := T25; clear t0 T25; refine (R25.out _ B.out).mono ?_; rintro e w9 ⟨rfl, hE9⟩; replace B := Lib.hid (B.out.next hE9); (try clear c0 c1); have c0 := B.out.c0; have c1 := B.out.c1; replace HT := Lib.hid (HT.out.ext hE9); (try clear d0 d1 d2 d3); have d0 := HT.out.bx.c0; have d1 := HT.out.bx.c1; have d2 := HT.out.by_.c0; have d3 := HT.out.by_.c1; clear hE9) | (go_at_call 25; have t0 := T25x; clear t0 T25x; refine (R25x.out _ ox cx HT.out.rx).mono ?_; rintro e w9 ⟨rfl, hE9⟩; replace B := Lib.hid (B.out.next hE9); (try clear c0 c1); have c0 := B.out.c0; have c1 := B.out.c1; replace HT := Lib.hid (HT.out.ext hE9); (try clear d0 d1 d2 d3); have d0 := HT.out.bx.c0; have d1 := HT.out.bx.c1; have d2 := HT.out.by_.c0; have d3 := HT.out.by_.c1; clear hE9) | (go_at_call 25; have t0 := T25y; clear t0 T25y; refine (R25y.out _ (some ⟨g1, 0, none⟩) cy HT.out.ry).mono ?_; rintro e w9 ⟨rfl, hE9⟩; replace B := Lib.hid (B.out.next hE9); (try clear c0 c1); have c0 := B.out.c0; have c1 := B.out.c1; replace HT := Lib.hid (HT.out.ext hE9); (try clear d0 d1 d2 d3); have d0 := HT.out.bx.c0; have d1 := HT.out.bx.c1; have d2 := HT.out.by_.c0; have d3 := HT.out.by_.c1; clear hE9) | (go_at_call 60; have t0 := T60; clear t0 T60; refine (R60n.out _ B.out).mono ?_; rintro e w9 ⟨rfl, hE9⟩; replace B := Lib.hid (B.out.next hE9); (try clear c0 c1); have c0 := B.out.c0; have c1 := B.out.c1; replace HT := Lib.hid (HT.out.ext hE9); (try clear d0 d1 d2 d3); have d0 := HT.out.bx.c0; have d1 := HT.out.bx.c1; have d2 := HT.out.by_.c0; have d3 := HT.out.by_.c1; clear hE9) | (go_at_call 60; refine (R60xn.out _ ox cx HT.out.rx).mono ?_; rintro e w9 ⟨rfl, hE9⟩; replace B := Lib.hid (B.out.next hE9); (try clear c0 c1); have c0 := B.out.c0; have c1 := B.out.c1; replace HT := Lib.hid (HT.out.ext hE9); (try clear d0 d1 d2 d3); have d0 := HT.out.bx.c0; have d1 := HT.out.bx.c1; have d2 := HT.out.by_.c0; have d3 := HT.out.by_.c1; clear hE9) | (go_at_call 49; have t0 := T49; clear t0 T49; refine (R49.out _ B.out).mono ?_; rintro e w9 ⟨⟨v, rfl, hi⟩, hE9⟩; replace B := Lib.hid (B.out.next hE9); (try clear c0 c1); have c0 := B.out.c0; have c1 := B.out.c1; replace HT := Lib.hid (HT.out.ext hE9); (try clear d0 d1 d2 d3); have d0 := HT.out.bx.c0; have d1 := HT.out.bx.c1; have d2 := HT.out.by_.c0; have d3 := HT.out.by_.c1; obtain ⟨of, cf, rfl, _, _, _, _⟩ := isInts_up hi; clear hi; clear hE9) | (go_at_call 49; refine (R49x.out _ ox cx HT.out.rx HT.out.lx HT.out.mx).mono ?_; rintro e w9 ⟨⟨v, rfl, hi⟩, hE9⟩; replace B := Lib.hid (B.out.next hE9); (try clear c0 c1); have c0 := B.out.c0; have c1 := B.out.c1; replace HT := Lib.hid (HT.out.ext hE9); (try clear d0 d1 d2 d3); have d0 := HT.out.bx.c0; have d1 := HT.out.bx.c1; have d2 := HT.out.by_.c0; have d3 := HT.out.by_.c1; obtain ⟨og, cg, rfl, _, _, _, _⟩ := isInts_up hi; clear hi; clear hE9) | (go_at_call 23; refine (Rk.out _ B.out).mono ?_; rintro e w9 ⟨rfl, hE9⟩; replace B := Lib.hid (B.out.next hE9); (try clear c0 c1); have c0 := B.out.c0; have c1 := B.out.c1; clear hE9))
          go_ret
          exact ⟨rfl, B.out.ext⟩
        · replace R60x := Lib.hid (fun W ox cx hr => R60x.out W ox cx hr hx0)
          clear R60xn HOW h0 hx0
          generalize cnt n (exS ss gone) = CX at *
          generalize cnt n (shS ss gone) = CY at *
          generalize cnt n ss = C at *
          go_wp2_with (first | (go_at_call 31; have t0 := T31; clear t0 T31; refine (R31.out _ B.out).mono ?_; rintro e w9 ⟨rfl, hE9⟩; replace B := Lib.hid (B.out.next hE9); (try clear c0 c1); have c0 := B.out.c0; have c1 := B.out.c1; replace HT := Lib.hid (HT.out.ext hE9); (try clear d0 d1 d2 d3); have d0 := HT.out.bx.c0; have d1 := HT.out.bx.c1; have d2 := HT.out.by_.c0; have d3 := HT.out.by_.c1; clear hE9) | (go_at_call 31; have t0 := T31x; clear t0 T31x; refine (R31x.out _ B.out ox cx HT.out.rx).mono ?_; rintro e w9 ⟨rfl, hE9⟩; replace B := Lib.hid (B.out.next hE9); (try clear c0 c1); have c0 := B.out.c0; have c1 := B.out.c1; replace HT := Lib.hid (HT.out.ext hE9); (try clear d0 d1 d2 d3); have d0 := HT.out.bx.c0; have d1 := HT.out.bx.c1; have d2 := HT.out.by_.c0; have d3 := HT.out.by_.c1; clear hE9) | (go_at_call 31; have t0 := T31y; clear t0 T31y; refine (R31y.out _ B.out (some ⟨g1, 0, none⟩) cy HT.out.ry).mono ?_; rintro e w9 ⟨rfl, hE9⟩; replace B := Lib.hid (B.out.next hE9); (try clear c0 c1); have c0 := B.out.c0; have c1 := B.out.c1; replace HT := Lib.hid (HT.out.ext hE9); (try clear d0 d1 d2 d3); have d0 := HT.out.bx.c0; have d1 := HT.out.bx.c1; have d2 := HT.out.by_.c0; have d3 := HT.out.by_.c1; clear hE9) | (go_at_call 25; have t0 := T25; clear t0 T25; refine (R25.out _ B.out).mono ?_; rintro e w9 ⟨rfl, hE9⟩; replace B := Lib.hid (B.out.next hE9); (try clear c0 c1); have c0 := B.out.c0; have c1 := B.out.c1; replace HT := Lib.hid (HT.out.ext hE9); (try clear d0 d1 d2 d3); have d0 := HT.out.bx.c0; have d1 := HT.out.bx.c1; have d2 := HT.out.by_.c0; have d3 := HT.out.by_.c1; clear hE9) | (go_at_call 25; have t0 := T25x; clear t0 T25x; refine (R25x.out _ ox cx HT.out.rx).mono ?_; rintro e w9 ⟨rfl, hE9⟩; replace B := Lib.hid (B.out.next hE9); (try clear c0 c1); have c0 := B.out.c0; have c1 := B.out.c1; replace HT := Lib.hid (HT.out.ext hE9); (try clear d0 d1 d2 d3); have d0 := HT.out.bx.c0; have d1 := HT.out.bx.c1; have d2 := HT.out.by_.c0; have d3 := HT.out.by_.c1; clear hE9) | (go_at_call 25; have t0 := T25y; clear t0 T25y; refine (R25y.out _ (some ⟨g1, 0, none⟩) cy HT.out.ry).mono ?_; rintro e w9 ⟨rfl, hE9⟩; replace B := Lib.hid (B.out.next hE9); (try clear c0 c1); have c0 := B.out.c0; have c1 := B.out.c1; replace HT := Lib.hid (HT.out.ext hE9); (try clear d0 d1 d2 d3); have d0 := HT.out.bx.c0; have d1 := HT.out.bx.c1; have d2 := HT.out.by_.c0; have d3 := HT.out.by_.c1; clear hE9) | (go_at_call 60; have t0 := T60; clear t0 T60; refine (R60n.out _ B.out).mono ?_; rintro e w9 ⟨rfl, hE9⟩; replace B := Lib.hid (B.out.next hE9); (try clear c0 c1); have c0 := B.out.c0; have c1 := B.out.c1; replace HT := Lib.hid (HT.out.ext hE9); (try clear d0 d1 d2 d3); have d0 := HT.out.bx.c0; have d1 := HT.out.bx.c1; have d2 := HT.out.by_.c0; have d3 := HT.out.by_.c1; clear hE9) | (go_at_call 60; refine (R60x.out _ ox cx HT.out.rx).mono ?_; rintro e w9 ⟨rfl, hE9⟩; replace B := Lib.hid (B.out.next hE9); (try clear c0 c1); have c0 := B.out.c0; have c1 := B.out.c1; replace HT := Lib.hid (HT.out.ext hE9); (try clear d0 d1 d2 d3); have d0 := HT.out.bx.c0; have d1 := HT.out.bx.c1; have d2 := HT.out.by_.c0; have d3 := HT.out.by_.c1; clear hE9) | (go_at_call 49; have t0 := T49; clear t0 T49; refine (R49.out _ B.out).mono ?_; rintro e w9 ⟨⟨v, rfl, hi⟩, hE9⟩; replace B := Lib.hid (B.out.next hE9); (try clear c0 c1); have c0 := B.out.c0; have c1 := B.out.c1; replace HT := Lib.hid (HT.out.ext hE9); (try clear d0 d1 d2 d3); have d0 := HT.out.bx.c0; have d1 := HT.out.bx.c1; have d2 := HT.out.by_.c0; have d3 := HT.out.by_.c1; obtain ⟨of, cf, rfl, _, _, _, _⟩ := isInts_up hi; clear hi; clear hE9) | (go_at_call 49; refine (R49x.out _ ox cx HT.out.rx HT.out.lx HT.out.mx).mono ?_; rintro e w9 ⟨⟨v, rfl, hi⟩, hE9⟩; replace B := Lib.hid (B.out.next hE9); (try clear c0 c1); have c0 := B.out.c0; have c1 := B.out.c1; replace HT := Lib.hid (HT.out.ext hE9); (try clear d0 d1 d2 d3); have d0 := HT.out.bx.c0; have d1 := HT.out.bx.c1; have d2 := HT.out.by_.c0; have d3 := HT.out.by_.c1; obtain ⟨og, cg, rfl, _, _, _, _⟩ := isInts_up hi; clear hi; clear hE9) | (go_at_call 23; refine (Rk.out _ B.out).mono ?_; rintro e w9 ⟨rfl, hE9⟩; replace B := Lib.hid (B.out.next hE9); (try clear c0 c1); have c0 := B.out.c0; have c1 := B.out.c1; clear hE9))
          go_ret
          exact ⟨rfl, B.out.ext⟩
      · have hx0 : ¬ cnt n (exS ss gone) = 0 := by omega
        replace R60 := Lib.hid (fun W hW => R60.out W hW h0)
        replace R60x := Lib.hid (fun W ox cx hr => R60x.out W ox cx hr hx0)
        have hOW := HOW.out h0
        clear R60n R60xn HOW h0 hx0
        generalize ownersOf n (exS ss gone) = OX at *
        generalize ownersOf n ss = O at *
        have hOI : ¬ (O : Int) < (OX : Int) := by omega
        have hON : ¬ O < OX := by omega
        generalize cnt n (exS ss gone) = CX at *
        generalize cnt n (shS ss gone) = CY at *
        generalize cnt n ss = C at *
        go_wp2_with (first | (go_at_call 31; have t0 := T31; clear t0 T31; refine (R31.out _ B.out).mono ?_; rintro e w9 ⟨rfl, hE9⟩; replace B := Lib.hid (B.out.next hE9); (try clear c0 c1); have c0 := B.out.c0; have c1 := B.out.c1; replace HT := Lib.hid (HT.out.ext hE9); (try clear d0 d1 d2 d3); have d0 := HT.out.bx.c0; have d1 := HT.out.bx.c1; have d2 := HT.out.by_.c0; have d3 := HT.out.by_.c1; clear hE9) | (go_at_call 31; have t0 := T31x; clear t0 T31x; refine (R31x.out _ B.out ox cx HT.out.rx).mono ?_; rintro e w9 ⟨rfl, hE9⟩; replace B := Lib.hid (B.out.next hE9); (try clear c0 c1); have c0 := B.out.c0; have c1 := B.out.c1; replace HT := Lib.hid (HT.out.ext hE9); (try clear d0 d1 d2 d3); have d0 := HT.out.bx.c0; have d1 := HT.out.bx.c1; have d2 := HT.out.by_.c0; have d3 := HT.out.by_.c1; clear hE9) | (go_at_call 31; have t0 := T31y; clear t0 T31y; refine (R31y.out _ B.out (some ⟨g1, 0, none⟩) cy HT.out.ry).mono ?_; rintro e w9 ⟨rfl, hE9⟩; replace B := Lib.hid (B.out.next hE9); (try clear c0 c1); have c0 := B.out.c0; have c1 := B.out.c1; replace HT := Lib.hid (HT.out.ext hE9); (try clear d0 d1 d2 d3); have d0 := HT.out.bx.c0; have d1 := HT.out.bx.c1; have d2 := HT.out.by_.c0; have d3 := HT.out.by_.c1; clear hE9) | (go_at_call 25; have t0 := T25; clear t0 T25; refine (R25.out _ B.out).mono ?_; rintro e w9 ⟨rfl, hE9⟩; replace B := Lib.hid (B.out.next hE9); (try clear c0 c1); have c0 := B.out.c0; have c1 := B.out.c1; replace HT := Lib.hid (HT.out.ext hE9); (try clear d0 d1 d2 d3); have d0 := HT.out.bx.c0; have d1 := HT.out.bx.c1; have d2 := HT.out.by_.c0; have d3 := HT.out.by_.c1; clear hE9) | (go_at_call 25; have t0 := T25x; clear t0 T25x; refine (R25x.out _ ox cx HT.out.rx).mono ?_; rintro e w9 ⟨rfl, hE9⟩; replace B := Lib.hid (B.out.next hE9); (try clear c0 c1); have c0 := B.out.c0; have c1 := B.out.c1; replace HT := Lib.hid (HT.out.ext hE9); (try clear d0 d1 d2 d3); have d0 := HT.out.bx.c0; have d1 := HT.out.bx.c1; have d2 := HT.out.by_.c0; have d3 := HT.out.by_.c1; clear hE9) | (go_at_call 25; have t0 := T25y; clear t0 T25y; refine (R25y.out _ (some ⟨g1, 0, none⟩) cy HT.out.ry).mono ?_; rintro e w9 ⟨rfl, hE9⟩; replace B := Lib.hid (B.out.next hE9); (try clear c0 c1); have c0 := B.out.c0; have c1 := B.out.c1; replace HT := Lib.hid (HT.out.ext hE9); (try clear d0 d1 d2 d3); have d0 := HT.out.bx.c0; have d1 := HT.out.bx.c1; have d2 := HT.out.by_.c0; have d3 := HT.out.by_.c1; clear hE9) | (go_at_call 60; have t0 := T60; clear t0 T60; refine (R60.out _ B.out).mono ?_; rintro e w9 ⟨rfl, hE9⟩; replace B := Lib.hid (B.out.next hE9); (try clear c0 c1); have c0 := B.out.c0; have c1 := B.out.c1; replace HT := Lib.hid (HT.out.ext hE9); (try clear d0 d1 d2 d3); have d0 := HT.out.bx.c0; have d1 := HT.out.bx.c1; have d2 := HT.out.by_.c0; have d3 := HT.out.by_.c1; clear hE9) | (go_at_call 60; refine (R60x.out _ ox cx HT.out.rx).mono ?_; rintro e w9 ⟨rfl, hE9⟩; replace B := Lib.hid (B.out.next hE9); (try clear c0 c1); have c0 := B.out.c0; have c1 := B.out.c1; replace HT := Lib.hid (HT.out.ext hE9); (try clear d0 d1 d2 d3); have d0 := HT.out.bx.c0; have d1 := HT.out.bx.c1; have d2 := HT.out.by_.c0; have d3 := HT.out.by_.c1; clear hE9) | (go_at_call 49; have t0 := T49; clear t0 T49; refine (R49.out _ B.out).mono ?_; rintro e w9 ⟨⟨v, rfl, hi⟩, hE9⟩; replace B := Lib.hid (B.out.next hE9); (try clear c0 c1); have c0 := B.out.c0; have c1 := B.out.c1; replace HT := Lib.hid (HT.out.ext hE9); (try clear d0 d1 d2 d3); have d0 := HT.out.bx.c0; have d1 := HT.out.bx.c1; have d2 := HT.out.by_.c0; have d3 := HT.out.by_.c1; obtain ⟨of, cf, rfl, _, _, _, _⟩ := isInts_up hi; clear hi; clear hE9) | (go_at_call 49; refine (R49x.out _ ox cx HT.out.rx HT.out.lx HT.out.mx).mono ?_; rintro e w9 ⟨⟨v, rfl, hi⟩, hE9⟩; replace B := Lib.hid (B.out.next hE9); (try clear c0 c1); have c0 := B.out.c0; have c1 := B.out.c1; replace HT := Lib.hid (HT.out.ext hE9); (try clear d0 d1 d2 d3); have d0 := HT.out.bx.c0; have d1 := HT.out.bx.c1; have d2 := HT.out.by_.c0; have d3 := HT.out.by_.c1; obtain ⟨og, cg, rfl, _, _, _, _⟩ := isInts_up hi; clear hi; clear hE9) | (go_at_call 23; refine (Rk.out _ B.out).mono ?_; rintro e w9 ⟨rfl, hE9⟩; replace B := Lib.hid (B.out.next hE9); (try clear c0 c1); have c0 := B.out.c0; have c1 := B.out.c1; clear hE9))
        go_ret
        exact ⟨rfl, B.out.ext⟩

end Go.Proofs.YtiehfpkcaoeieaaGreatDoor
