/- Contract: corner: the truth at both ends. No condition beyond sheets as defined. -/
import Derived.Test.YtjpekonfjihcoaaGreatDoorM27
import Derived.Test.YtjpekonfjihcoaaGreatDoorCBox
import Derived.Test.YtjpekonfjihcoaaGreatDoorM16
import Derived.Test.YtjpekonfjihcoaaGreatDoorM32
namespace Go.TintM
end Go.TintM
set_option maxRecDepth 100000
set_option maxHeartbeats 64000000
set_option linter.unusedVariables false
set_option linter.unusedSimpArgs false
namespace Go.Proofs.YtjpekonfjihcoaaGreatDoor
open Go.RowKit Go.My Go.TintM

abbrev triCells (rows : List (List Nat)) : List Value := rows.flatMap fun t => (upL t).map (Value.int .i64)
theorem triCells_get {ts : List (List Nat)} (h3 : ∀ t ∈ ts, t.length = 3) {i : Nat} {t : List Nat} (ht : ts[i]? = some t) {j : Nat} {x : Int} (hx : (upL t)[j]? = some x) : (triCells ts)[i * 3 + j]? = some (.int .i64 x) := by
 induction ts generalizing i with
 | nil => simp at ht
 | cons a ts ih =>
  have ha : ((upL a).map (Value.int .i64)).length = 3 := by rw [List.length_map, upL_length]; exact h3 a List.mem_cons_self
  have e : triCells (a :: ts) = (upL a).map (Value.int .i64) ++ triCells ts := rfl
  rw [e]
  cases i with
  | zero =>
   simp only [List.getElem?_cons_zero, Option.some.injEq] at ht
   subst ht
   have hj : j < 3 := by
    have := (List.getElem?_eq_some_iff.1 hx).1
    rw [upL_length] at this
    have := h3 a List.mem_cons_self
    omega
   rw [List.getElem?_append_left (by rw [ha]; omega), Nat.zero_mul, Nat.zero_add, List.getElem?_map, hx]
   rfl
  | succ i =>
   simp only [List.getElem?_cons_succ] at ht
   rw [List.getElem?_append_right (by rw [ha]; omega), ha, show (i + 1) * 3 + j - 3 = i * 3 + j by omega]
   exact ih (fun t ht => h3 t (List.mem_cons_of_mem _ ht)) ht
theorem tris_row {W : World} {B cap : Nat} {oa : Option Addr} {ts : List (List Nat)} (h : W.ownsRow B 22 3 (.slice oa ts.length cap) ts.length (triCells ts)) (h3 : ∀ t ∈ ts, t.length = 3) : TrisAt W oa (ts.map upL) := by
 rcases id h.2 with ⟨hv, h2⟩ | ⟨g, cap', cur, hv, hb, hh, k3, k4, k5, k7⟩
 ·have : ts = [] := List.eq_nil_of_length_eq_zero h2
  subst this
  exact fun i t ht => by simp at ht
 ·injection hv with e1 e2 e3
  subst e1
  intro i t ht
  rw [List.getElem?_map] at ht
  cases ht' : ts[i]? with
  | none => rw [ht'] at ht; cases ht
  | some t0 =>
   rw [ht'] at ht
   simp only [Option.map_some, Option.some.injEq] at ht
   subst ht
   have hl := h3 t0 (List.mem_of_getElem? ht')
   refine ⟨g, 0, rfl, (Array.getElem?_eq_some_iff.1 hh).1, by rw [upL_length]; exact hl, fun j x hx => ?_⟩
   have := h.cells (g := g) rfl _ _ (triCells_get h3 ht' hx)
   rwa [add_none, show 0 + (i * 3 + j) = 0 + i * 3 + j by omega] at this
theorem i22 : (Tryz.prog.info? 22).map (fun i => (i.zero, i.size, i.bytes)) = some (some (.agg #[.int .i64 0, .int .i64 0, .int .i64 0]), 3, 24) := by kernel_rfl
abbrev ints (l : List Int) : List Value := l.map (Value.int .i64)
abbrev noT : List Value := [.slice none 0 0, .int .i64 0, .int .i64 0, .int .i64 0, .int .i64 0]
/-- The first numbers of one list, the rest of another one. -/
def mix3 (f g : List Int) (j : Nat) : List Int := f.take j ++ g.drop j

/-- The state between two tins. -/
structure CSt (w w0 : World) (s : Sh) (ot : Option Addr) (cap : Nat) (W : World) (Y : Int) (F : List Int) (oa : Option Addr) (ca k : Nat) (rows : List (List Nat)) : Prop where
 ext : Ext w W
 sb : SheetBox W w.heap.size (ofSh s) ot cap
 tb : CB W (w.heap.size + 1 + 1) (.slice oa k ca :: .int .i64 Y :: ints F)
 row : W.ownsRow w0.heap.size 22 3 (.slice oa k ca) k (triCells rows)
 size : w0.heap.size ≤ W.heap.size
 w0s : w0.heap.size = w.heap.size + 3
 res : CB W (w.heap.size + 1) noT
/-- The state within a tin. -/
structure ISt (w w0 : World) (s : Sh) (ot : Option Addr) (cap : Nat) (Y : Int) (oa : Option Addr) (ca k : Nat) (rows : List (List Nat)) (bc : Nat) (W : World) (F C : List Int) : Prop where
 st : CSt w w0 s ot cap W Y F oa ca k rows
 cb : CB W bc (ints C)
 lo : ∀ i, (Value.slice oa k ca).ownBlock = some i → i < bc
 hi : w0.heap.size ≤ bc
section
variable {w w0 W W' : World} {s : Sh} {ot oa : Option Addr} {cap ca k bc : Nat} {Y : Int} {F C : List Int} {rows : List (List Nat)}
theorem CSt.next (h : CSt w w0 s ot cap W Y F oa ca k rows) (hE : Ext W W') : CSt w w0 s ot cap W' Y F oa ca k rows :=
 ⟨h.ext.trans hE, h.sb.ext hE, h.tb.ext hE, row_mv h.row (Mv.of_ext (I := fun _ => False) hE) (fun _ _ k => k), Nat.le_trans h.size hE.size, h.w0s, h.res.ext hE⟩
theorem ISt.next (h : ISt w w0 s ot cap Y oa ca k rows bc W F C) (hE : Ext W W') : ISt w w0 s ot cap Y oa ca k rows bc W' F C := ⟨h.st.next hE, h.cb.ext hE, h.lo, h.hi⟩
theorem ISt.ext (h : ISt w w0 s ot cap Y oa ca k rows bc W F C) : Ext w W := h.st.ext
theorem ISt.sb (h : ISt w w0 s ot cap Y oa ca k rows bc W F C) : SheetBox W w.heap.size (ofSh s) ot cap := h.st.sb
theorem ISt.tb (h : ISt w w0 s ot cap Y oa ca k rows bc W F C) : CB W (w.heap.size + 1 + 1) (.slice oa k ca :: .int .i64 Y :: ints F) := h.st.tb
theorem ISt.ne (h : ISt w w0 s ot cap Y oa ca k rows bc W F C) : ¬ bc = w.heap.size + 1 + 1 := by have := h.hi; have := h.st.w0s; omega
theorem ISt.half (h : ISt w w0 s ot cap Y oa ca k rows bc W F C) {j : Nat} (x : Int) : Ext w (W.setCell ⟨bc, j, none⟩ (.int .i64 x)) ∧ SheetBox (W.setCell ⟨bc, j, none⟩ (.int .i64 x)) w.heap.size (ofSh s) ot cap := by
 have h1 := h.hi
 have h2 := h.st.w0s
 have hT : Turned bc W (W.setCell ⟨bc, j, none⟩ (.int .i64 x)) := (Turned.refl bc W).set j _
 exact ⟨ext_own h.ext hT (by omega), h.sb.turned hT (by omega)⟩
theorem ISt.put (h : ISt w w0 s ot cap Y oa ca k rows bc W F C) {j : Nat} (hj : j < 3) (hF : F.length = 3) (hC : C.length = 3) (x y : Int) :
  ISt w w0 s ot cap Y oa ca k rows bc ((W.setCell ⟨bc, j, none⟩ (.int .i64 x)).setCell ⟨w.heap.size + 1 + 1, 2 + j, none⟩ (.int .i64 y)) (F.set j y) (C.set j x) := by
 have h1 := h.hi
 have h2 := h.st.w0s
 have hT : Turned bc W (W.setCell ⟨bc, j, none⟩ (.int .i64 x)) := (Turned.refl bc W).set j _
 obtain ⟨e1, e2⟩ := h.half (j := j) x
 have hT2 : Turned (w.heap.size + 1 + 1) (W.setCell ⟨bc, j, none⟩ (.int .i64 x)) ((W.setCell ⟨bc, j, none⟩ (.int .i64 x)).setCell ⟨w.heap.size + 1 + 1, 2 + j, none⟩ (.int .i64 y)) := (Turned.refl _ _).set (2 + j) _
 have r1 := row_mv (I := fun i => i = bc) h.st.row (Mv.of_grown hT fun i hi => by cases hi; rfl) (fun i hi e => by have := h.lo i hi; omega)
 have r2 := row_mv (I := fun i => i = w.heap.size + 1 + 1) r1 (Mv.of_grown hT2 fun i hi => by cases hi; rfl) (row_not r1 (by omega))
 refine ⟨⟨ext_own e1 hT2 (by omega), e2.turned hT2 (by omega), ?_, r2, Nat.le_trans h.st.size (Nat.le_trans hT.size hT2.size), h2, (h.st.res.other j _ (by omega)).other (2 + j) _ (by omega)⟩, ?_, h.lo, h1⟩
 ·have := (h.tb.other j (.int .i64 x) (fun e => h.ne e.symm)).set (i := 2 + j) (by simp [ints, hF]; omega) (.int .i64 y)
  rw [Nat.add_comm 2 j] at this ⊢
  simpa [ints, List.map_set] using this
 ·have := (h.cb.set (i := j) (by simp [ints, hC]; omega) (.int .i64 x)).other (2 + j) (.int .i64 y) h.ne
  simpa [ints, List.map_set] using this
end
theorem three_val (w : World) (a b c : Int) : ∀ (j : Nat) (u : Value), [Value.int .i64 a, .int .i64 b, .int .i64 c][j]? = some u → (w.alloc (.cells #[.int .i64 a, .int .i64 b, .int .i64 c] 22)).cell? ((⟨w.heap.size, 0, none⟩ : Addr).add j) = some u := fun j u hu => by
 rw [add_none, Nat.zero_add, cell_of_row _ _ j _ _ _ (heap_alloc_new w _)]
 simpa using hu

theorem CSt.start (w : World) (s : Sh) (ot : Option Addr) (cap : Nat) (Y : Int) {w0 : World} (h0 : w0 = ((w.alloc (.cells (sheetC (ofSh s) ot cap) 28)).alloc (.cells noT.toArray 32)).alloc (.cells #[.slice none 0 0, .int .i64 Y, .int .i64 0, .int .i64 0, .int .i64 0] 32)) :
  CSt w w0 s ot cap w0 Y [0, 0, 0] none 0 0 [] := by
 subst h0
 have e1 := CB.new (w.alloc (.cells (sheetC (ofSh s) ot cap) 28)) noT 32
 have e2 := CB.new ((w.alloc (.cells (sheetC (ofSh s) ot cap) 28)).alloc (.cells noT.toArray 32)) [.slice none 0 0, .int .i64 Y, .int .i64 0, .int .i64 0, .int .i64 0] 32
 simp only [World.size_alloc] at e1 e2
 exact ⟨(((Ext.refl w).alloc _).alloc _).alloc _, (SheetBox.new w (ofSh s) ot cap).ext (((Ext.refl _).alloc _).alloc _), e2, World.ownsRow_nil _ _ _ _, Nat.le_refl _, by simp [World.size_alloc], e1.ext ((Ext.refl _).alloc _)⟩
theorem ISt.start {w w0 W : World} {s : Sh} {ot oa : Option Addr} {cap ca k : Nat} {Y : Int} {F : List Int} {rows : List (List Nat)} (h : CSt w w0 s ot cap W Y F oa ca k rows) :
  ISt w w0 s ot cap Y oa ca k rows W.heap.size (W.alloc (.cells #[.int .i64 0, .int .i64 0, .int .i64 0] 22)) F [0, 0, 0] :=
 ⟨h.next ((Ext.refl W).alloc _), CB.new W [.int .i64 0, .int .i64 0, .int .i64 0] 22, fun i hi => (h.row.lt i hi).2, h.size⟩
theorem corner_take (s : Sh) (most : Bool) {k : Nat} (hk : k < s.tins.length) {a0 a1 a2 a3 a4 a5 : Nat} (h : s.tins.getD k [] = [a0, a1, a2, a3, a4, a5]) :
  (corner s most).tins.take (k + 1) = (corner s most).tins.take k ++ [if most then [a1, a3, a5] else [a0, a2, a4]] := by
 have hl : k < (corner s most).tins.length := by simpa [corner] using hk
 rw [List.take_succ_eq_append_getElem hl]
 have h' : s.tins[k] = [a0, a1, a2, a3, a4, a5] := by simpa [List.getD, hk] using h
 cases most <;> simp [corner, h', thi, tlo]
theorem corner_f (s : Sh) (g : Fine s) (ot : Option Addr) (cap : Nat) (w : World) (h : TinsAt w ot (ofSh s).tins) :
  Calls Tryz.prog 37 #[sheetV (ofSh s) ot cap, .bool false] w fun e w' => (∃ oa ca, e = .returned (truthV (ofTr (corner s false)) oa ca) ∧ TrisAt w' oa (ofTr (corner s false)).tins) ∧ Ext w w' := by
 have H := Lib.hid h
 have hN1 := g.len1
 have hN4 := g.len2
 have h6 := tins_six h
 have H6 := Lib.hid (fun t (ht : t < s.tins.length) => (show (s.tins.getD t []).length = 6 by
  have := h6 (upL s.tins[t]) (List.mem_map.2 ⟨s.tins[t], List.getElem_mem ht, rfl⟩)
  rw [upL_length] at this
  simpa [List.getD, ht] using this))
 obtain ⟨ii, hi1, hi2, hi3, hi4⟩ := info_parts i22
 have htl := tins_len s
 clear h g h6
 go_enter Tryz.func37, Tryz.ntmps37
 go_wp2
 obtain ⟨w0, hw0⟩ : ∃ W, W = ((w.alloc (.cells (sheetC (ofSh s) ot cap) 28)).alloc (.cells noT.toArray 32)).alloc (.cells #[.slice none 0 0, .int .i64 (ofSh s).ylo, .int .i64 0, .int .i64 0, .int .i64 0] 32) := ⟨_, rfl⟩
 have St0 := Lib.hid (CSt.start w s ot cap (ofSh s).ylo hw0)
 rw [← hw0]
 clear hw0
 go_loopg [6, 7, 8] s.tins.length (fun g i a b wr => ∃ (k : Nat) (oa : Option Addr) (ca : Nat) (f0 f1 f2 : Int), k + g = s.tins.length ∧ i = .int .i64 k ∧ CSt w w0 s ot cap wr (ofSh s).ylo [f0, f1, f2] oa ca k ((corner s false).tins.take k) ∧ (0 < k → [f0, f1, f2] = [((ofSh s).a0 : Int), ((ofSh s).a1 : Int), ((ofSh s).a2 : Int)]))
 case atStart => exact ⟨0, none, 0, 0, 0, 0, by omega, rfl, St0.out, fun h => by omega⟩
 case round =>
  clear St0
  obtain ⟨k, oa, ca, f0, f1, f2, hk, rfl, st, hf⟩ := hrel
  have So := Lib.hid st
  have Hf := Lib.hid hf
  clear st hf
  have c12 : World.cell? wr ⟨w.heap.size, 12, none⟩ = some (.slice ot s.tins.length cap) := by rw [← htl]; exact So.out.sb 12 _ rfl
  by_cases hlt : k < s.tins.length
  ·have hkI : (k : Int) < (s.tins.length : Int) := by omega
   have htS : k < (ofSh s).tins.length := by rw [tins_len]; exact hlt
   obtain ⟨b, off, x0, x1, x2, x3, x4, x5, hot, hb, hT, k0, k1, k2, k3, k4, k5⟩ := H.out.at htS
   subst hot
   have hu : upL (s.tins.getD k []) = [x0, x1, x2, x3, x4, x5] := by rw [← hT]; simp [ofSh, List.getD, hlt]
   have h6k := H6.out k hlt
   obtain ⟨a0, a1, a2, a3, a4, a5, hsx⟩ := six_of h6k
   rw [hsx] at hu
   simp only [upL, List.map_cons, List.map_nil, List.cons.injEq, and_true] at hu
   obtain ⟨rfl, rfl, rfl, rfl, rfl, rfl⟩ := hu
   have Ht := Lib.hid (corner_take s false hlt hsx)
   have htI : (k : Int) < ((ofSh s).tins.length : Int) := by omega
   clear hT hb h6k hsx
   go_wp2
   have Si := Lib.hid (ISt.start So.out)
   have hsz := So.out.size
   clear c12
   generalize ((corner s false).tins.take k) = R at *
   obtain ⟨go, hgo⟩ : ∃ x, x = gk := ⟨_, rfl⟩
   obtain ⟨bc, hbc⟩ : ∃ x, x = wr.heap.size := ⟨_, rfl⟩
   obtain ⟨wi, hwi⟩ : ∃ W, W = wr.alloc (.cells #[.int .i64 0, .int .i64 0, .int .i64 0] 22) := ⟨_, rfl⟩
   rw [← hbc, ← hwi] at Si ⊢
   rw [← hgo] at hk
   clear hbc hwi
   clear So
   go_loopg [8] 3 (fun g p wr => ∃ j : Nat, j + g = 3 ∧ p = .int .i64 j ∧ ISt w w0 s (some ⟨b, off, none⟩) cap (ofSh s).ylo oa ca k R bc wr (mix3 [((ofSh s).a0 : Int), ((ofSh s).a1 : Int), ((ofSh s).a2 : Int)] [f0, f1, f2] j) (mix3 [((a0 : Nat) : Int), ((a2 : Nat) : Int), ((a4 : Nat) : Int)] [0, 0, 0] j))
   case atStart => exact ⟨0, by omega, rfl, Si.out⟩
   case round =>
    clear Si
    obtain ⟨j, hj, rfl, st⟩ := hrel
    obtain ⟨ot, hot⟩ : ∃ x : Option Addr, x = some ⟨b, off, none⟩ := ⟨_, rfl⟩
    by_cases hlt3 : j < 3
    ·have hjI : (j : Int) < 3 := by omega
     by_cases hj0 : j = 0
     ·skip
      subst hj0
      have St := Lib.hid (show ISt w w0 s (some ⟨b, off, none⟩) cap (ofSh s).ylo oa ca k R bc wr [(f0 : Int), (f1 : Int), (f2 : Int)] [(0 : Int), (0 : Int), (0 : Int)] from st)
      clear st
      have r0 : World.cell? wr ⟨bc, 0, none⟩ = some (.int .i64 0) := St.out.cb.c 0 _ rfl
      have p0 : World.cell? wr ⟨w.heap.size + 1 + 1, 2, none⟩ = some (.int .i64 f0) := St.out.tb.c 2 _ rfl
      go_wp2_with fail
      refine wp_region_plan (.take 0 <| .take 1 <| .take 2 <| .take 3 <| .take 4 <| .take 5 <| .take 6 <| .take 7 <| .take 8 <| .take 9 <| .take 10 <| .take 11 <| .take 12 <| .take 13 <| .take 14 <| .take 15 <| .take 16 <| .take 18 <| .only 17 <| .take 19 <| .only 20 <| .done) (fun W => (Ext w W ∧ SheetBox W w.heap.size (ofSh s) (some ⟨b, off, none⟩) cap)) mixed (by kernel_rfl) (by kernel_rfl) rfl (fun _ _ d _ _ h => by cases d <;> exact h) (⟨St.out.ext.drew, St.out.sb.ext (Ext.refl _).drew⟩) ?_
      repeat ((first | (refine plan_take (v := ?_) rfl rfl (fun W hW => ?_) ?_; rotate_left; (focus (have d3 := hW.2 3 _ rfl; have d4 := hW.2 4 _ rfl; have d5 := hW.2 5 _ rfl; have d6 := hW.2 6 _ rfl; have d7 := hW.2 7 _ rfl; have d8 := hW.2 8 _ rfl; have d12 := hW.2 12 _ rfl; have e0 := cell_ext hW.1 k0; have e1 := cell_ext hW.1 k1; have e2 := cell_ext hW.1 k2; have e3 := cell_ext hW.1 k3; have e4 := cell_ext hW.1 k4; have e5 := cell_ext hW.1 k5; go_simp; first | exact rfl | (split <;> first | exact rfl | (exfalso; omega)) | done))) | refine plan_skip rfl rfl ?_); simp only [puts])
      replace St := Lib.hid (St.out.next (Ext.refl _).drew)
      clear r0 p0
      generalize World.drew wr = wd11 at *
      have r0 : World.cell? wd11 ⟨bc, 0, none⟩ = some (.int .i64 0) := St.out.cb.c 0 _ rfl
      have r1 := St.out.cb.f 0 (by simp [ints])
      have p0 : World.cell? wd11 ⟨w.heap.size + 1 + 1, 2, none⟩ = some (.int .i64 f0) := St.out.tb.c 2 _ rfl
      have p1 := St.out.tb.f 2 (by simp [ints])
      have hn1 : ¬ bc = w.heap.size + 1 + 1 := St.out.ne
      have N := Lib.hid (St.out.put (j := 0) (by decide) rfl rfl (a0 : Nat) (ofSh s).a0)
      have H1 := Lib.hid (St.out.half (j := 0) (a0 : Nat))
      clear St
      refine plan_walk rfl ?_; intro K hK
      go_wp2
      refine hK _ _ H1.out ?_
      clear hK
      repeat ((first | (refine plan_take (v := ?_) rfl rfl (fun W hW => ?_) ?_; rotate_left; (focus (skip; go_simp; first | exact rfl | (split <;> first | exact rfl | (exfalso; omega)) | done))) | refine plan_skip rfl rfl ?_); simp only [puts])
      refine plan_walk rfl ?_; intro K hK
      go_wp2
      refine hK _ _ ⟨N.out.ext, N.out.sb⟩ ?_
      clear hK
      repeat ((first | (refine plan_take (v := ?_) rfl rfl (fun W hW => ?_) ?_; rotate_left; (focus (skip; go_simp; first | exact rfl | (split <;> first | exact rfl | (exfalso; omega)) | done))) | refine plan_skip rfl rfl ?_); simp only [puts])
      refine plan_done ?_
      clear r0 r1 p0 p1 H1 hn1
      generalize (World.setCell (World.setCell wd11 ⟨bc, 0, none⟩ (.int .i64 (a0 : Nat))) ⟨w.heap.size + 1 + 1, 2, none⟩ (.int .i64 (ofSh s).a0)) = wa at *
      go_wp2
      go_roundg (gk - 1)
      case measure => omega
      case rel => exact ⟨1, by omega, by go_num, N.out⟩
     ·skip
      by_cases hj1 : j = 1
      ·skip
       subst hj1
       have St := Lib.hid (show ISt w w0 s (some ⟨b, off, none⟩) cap (ofSh s).ylo oa ca k R bc wr [((ofSh s).a0 : Int), (f1 : Int), (f2 : Int)] [((a0 : Nat) : Int), (0 : Int), (0 : Int)] from st)
       clear st
       have r0 : World.cell? wr ⟨bc, 1, none⟩ = some (.int .i64 0) := St.out.cb.c 1 _ rfl
       have p0 : World.cell? wr ⟨w.heap.size + 1 + 1, 3, none⟩ = some (.int .i64 f1) := St.out.tb.c 3 _ rfl
       go_wp2_with fail
       refine wp_region_plan (.take 0 <| .take 1 <| .take 2 <| .take 3 <| .take 4 <| .take 5 <| .take 6 <| .take 7 <| .take 8 <| .take 9 <| .take 10 <| .take 11 <| .take 12 <| .take 13 <| .take 14 <| .take 15 <| .take 16 <| .take 18 <| .only 17 <| .take 19 <| .only 20 <| .done) (fun W => (Ext w W ∧ SheetBox W w.heap.size (ofSh s) (some ⟨b, off, none⟩) cap)) mixed (by kernel_rfl) (by kernel_rfl) rfl (fun _ _ d _ _ h => by cases d <;> exact h) (⟨St.out.ext.drew, St.out.sb.ext (Ext.refl _).drew⟩) ?_
       repeat ((first | (refine plan_take (v := ?_) rfl rfl (fun W hW => ?_) ?_; rotate_left; (focus (have d3 := hW.2 3 _ rfl; have d4 := hW.2 4 _ rfl; have d5 := hW.2 5 _ rfl; have d6 := hW.2 6 _ rfl; have d7 := hW.2 7 _ rfl; have d8 := hW.2 8 _ rfl; have d12 := hW.2 12 _ rfl; have e0 := cell_ext hW.1 k0; have e1 := cell_ext hW.1 k1; have e2 := cell_ext hW.1 k2; have e3 := cell_ext hW.1 k3; have e4 := cell_ext hW.1 k4; have e5 := cell_ext hW.1 k5; go_simp; first | exact rfl | (split <;> first | exact rfl | (exfalso; omega)) | done))) | refine plan_skip rfl rfl ?_); simp only [puts])
       replace St := Lib.hid (St.out.next (Ext.refl _).drew)
       clear r0 p0
       generalize World.drew wr = wd11 at *
       have r0 : World.cell? wd11 ⟨bc, 1, none⟩ = some (.int .i64 0) := St.out.cb.c 1 _ rfl
       have r1 := St.out.cb.f 1 (by simp [ints])
       have p0 : World.cell? wd11 ⟨w.heap.size + 1 + 1, 3, none⟩ = some (.int .i64 f1) := St.out.tb.c 3 _ rfl
       have p1 := St.out.tb.f 3 (by simp [ints])
       have hn1 : ¬ bc = w.heap.size + 1 + 1 := St.out.ne
       have N := Lib.hid (St.out.put (j := 1) (by decide) rfl rfl (a2 : Nat) (ofSh s).a1)
       have H1 := Lib.hid (St.out.half (j := 1) (a2 : Nat))
       clear St
       refine plan_walk rfl ?_; intro K hK
       go_wp2
       refine hK _ _ H1.out ?_
       clear hK
       repeat ((first | (refine plan_take (v := ?_) rfl rfl (fun W hW => ?_) ?_; rotate_left; (focus (skip; go_simp; first | exact rfl | (split <;> first | exact rfl | (exfalso; omega)) | done))) | refine plan_skip rfl rfl ?_); simp only [puts])
       refine plan_walk rfl ?_; intro K hK
       go_wp2
       refine hK _ _ ⟨N.out.ext, N.out.sb⟩ ?_
       clear hK
       repeat ((first | (refine plan_take (v := ?_) rfl rfl (fun W hW => ?_) ?_; rotate_left; (focus (skip; go_simp; first | exact rfl | (split <;> first | exact rfl | (exfalso; omega)) | done))) | refine plan_skip rfl rfl ?_); simp only [puts])
       refine plan_done ?_
       clear r0 r1 p0 p1 H1 hn1
       generalize (World.setCell (World.setCell wd11 ⟨bc, 1, none⟩ (.int .i64 (a2 : Nat))) ⟨w.heap.size + 1 + 1, 3, none⟩ (.int .i64 (ofSh s).a1)) = wa at *
       go_wp2
       go_roundg (gk - 1)
       case measure => omega
       case rel => exact ⟨2, by omega, by go_num, N.out⟩
      ·skip
       have hj2 : j = 2 := by omega
       subst hj2
       have St := Lib.hid (show ISt w w0 s (some ⟨b, off, none⟩) cap (ofSh s).ylo oa ca k R bc wr [((ofSh s).a0 : Int), ((ofSh s).a1 : Int), (f2 : Int)] [((a0 : Nat) : Int), ((a2 : Nat) : Int), (0 : Int)] from st)
       clear st
       have r0 : World.cell? wr ⟨bc, 2, none⟩ = some (.int .i64 0) := St.out.cb.c 2 _ rfl
       have p0 : World.cell? wr ⟨w.heap.size + 1 + 1, 4, none⟩ = some (.int .i64 f2) := St.out.tb.c 4 _ rfl
       go_wp2_with fail
       refine wp_region_plan (.take 0 <| .take 1 <| .take 2 <| .take 3 <| .take 4 <| .take 5 <| .take 6 <| .take 7 <| .take 8 <| .take 9 <| .take 10 <| .take 11 <| .take 12 <| .take 13 <| .take 14 <| .take 15 <| .take 16 <| .take 18 <| .only 17 <| .take 19 <| .only 20 <| .done) (fun W => (Ext w W ∧ SheetBox W w.heap.size (ofSh s) (some ⟨b, off, none⟩) cap)) mixed (by kernel_rfl) (by kernel_rfl) rfl (fun _ _ d _ _ h => by cases d <;> exact h) (⟨St.out.ext.drew, St.out.sb.ext (Ext.refl _).drew⟩) ?_
       repeat ((first | (refine plan_take (v := ?_) rfl rfl (fun W hW => ?_) ?_; rotate_left; (focus (have d3 := hW.2 3 _ rfl; have d4 := hW.2 4 _ rfl; have d5 := hW.2 5 _ rfl; have d6 := hW.2 6 _ rfl; have d7 := hW.2 7 _ rfl; have d8 := hW.2 8 _ rfl; have d12 := hW.2 12 _ rfl; have e0 := cell_ext hW.1 k0; have e1 := cell_ext hW.1 k1; have e2 := cell_ext hW.1 k2; have e3 := cell_ext hW.1 k3; have e4 := cell_ext hW.1 k4; have e5 := cell_ext hW.1 k5; go_simp; first | exact rfl | (split <;> first | exact rfl | (exfalso; omega)) | done))) | refine plan_skip rfl rfl ?_); simp only [puts])
       replace St := Lib.hid (St.out.next (Ext.refl _).drew)
       clear r0 p0
       generalize World.drew wr = wd11 at *
       have r0 : World.cell? wd11 ⟨bc, 2, none⟩ = some (.int .i64 0) := St.out.cb.c 2 _ rfl
       have r1 := St.out.cb.f 2 (by simp [ints])
       have p0 : World.cell? wd11 ⟨w.heap.size + 1 + 1, 4, none⟩ = some (.int .i64 f2) := St.out.tb.c 4 _ rfl
       have p1 := St.out.tb.f 4 (by simp [ints])
       have hn1 : ¬ bc = w.heap.size + 1 + 1 := St.out.ne
       have N := Lib.hid (St.out.put (j := 2) (by decide) rfl rfl (a4 : Nat) (ofSh s).a2)
       have H1 := Lib.hid (St.out.half (j := 2) (a4 : Nat))
       clear St
       refine plan_walk rfl ?_; intro K hK
       go_wp2
       refine hK _ _ H1.out ?_
       clear hK
       repeat ((first | (refine plan_take (v := ?_) rfl rfl (fun W hW => ?_) ?_; rotate_left; (focus (skip; go_simp; first | exact rfl | (split <;> first | exact rfl | (exfalso; omega)) | done))) | refine plan_skip rfl rfl ?_); simp only [puts])
       refine plan_walk rfl ?_; intro K hK
       go_wp2
       refine hK _ _ ⟨N.out.ext, N.out.sb⟩ ?_
       clear hK
       repeat ((first | (refine plan_take (v := ?_) rfl rfl (fun W hW => ?_) ?_; rotate_left; (focus (skip; go_simp; first | exact rfl | (split <;> first | exact rfl | (exfalso; omega)) | done))) | refine plan_skip rfl rfl ?_); simp only [puts])
       refine plan_done ?_
       clear r0 r1 p0 p1 H1 hn1
       generalize (World.setCell (World.setCell wd11 ⟨bc, 2, none⟩ (.int .i64 (a4 : Nat))) ⟨w.heap.size + 1 + 1, 4, none⟩ (.int .i64 (ofSh s).a2)) = wa at *
       go_wp2
       go_roundg (gk - 1)
       case measure => omega
       case rel => exact ⟨3, by omega, by go_num, N.out⟩

    ·obtain rfl : j = 3 := by omega
     have St := Lib.hid (show ISt w w0 s (some ⟨b, off, none⟩) cap (ofSh s).ylo oa ca k R bc wr [((ofSh s).a0 : Int), ((ofSh s).a1 : Int), ((ofSh s).a2 : Int)] [((a0 : Nat) : Int), ((a2 : Nat) : Int), ((a4 : Nat) : Int)] from st)
     clear st hot
     have r0 : World.cell? wr ⟨bc, 0, none⟩ = some (.int .i64 (a0 : Nat)) := St.out.cb.c 0 _ rfl
     have r1 : World.cell? wr ⟨bc, 1, none⟩ = some (.int .i64 (a2 : Nat)) := St.out.cb.c 1 _ rfl
     have r2 : World.cell? wr ⟨bc, 2, none⟩ = some (.int .i64 (a4 : Nat)) := St.out.cb.c 2 _ rfl
     have p0 : World.cell? wr ⟨w.heap.size + 1 + 1, 0, none⟩ = some (.slice oa k ca) := St.out.st.tb.c 0 _ rfl
     have p1 := St.out.st.tb.f 0 (by simp [ints])
     have hplt := World.block_lt_of_cell? _ _ p0
     have hrlt := World.block_lt_of_cell? _ _ r0
     simp only at hplt hrlt
     have hpne := Nat.ne_of_lt hplt
     have hrne := Nat.ne_of_lt hrlt
     have X8 : Ext wr (wr.alloc (.cells #[.int .i64 (a0 : Nat), .int .i64 (a2 : Nat), .int .i64 (a4 : Nat)] 22)) := (Ext.refl wr).alloc _
     have HRow := Lib.hid (row_mv St.out.st.row (Mv.of_ext (I := fun _ => False) X8) (fun _ _ k => k))
     have hthree := three_val wr (a0 : Nat) (a2 : Nat) (a4 : Nat)
     have hw0s := St.out.st.w0s
     have hsz0 := St.out.st.size
     go_wp2_with (first | (at_builtin; refine wpList_append_own_at _ rfl _ _ 30 rfl w0.heap.size 22 ii (.agg #[.int .i64 0, .int .i64 0, .int .i64 0]) 3 24 Tryz.underlying30 hi1 hi2 hi3 hi4 rfl (by decide) _ k (triCells R) rfl HRow.out ⟨wr.heap.size, 0, none⟩ 1 1 [.int .i64 (a0 : Nat), .int .i64 (a2 : Nat), .int .i64 (a4 : Nat)] rfl rfl hthree (by simp [Value.oneCell']) (by unfold maxLen; omega) (by omega) (by first | omega | (simp only [World.size_alloc]; omega)) ?_))
     intro v' w8 hr8 hg8 _ _
     have hB8 := (Below.refl w0.heap.size _).grown hg8 (by first | omega | (simp only [World.size_alloc]; omega)) fun b hb => (HRow.out.lt b hb).1
     obtain ⟨oa', cap', hv8, _⟩ := row_slice hr8
     subst hv8
     have S8 := Lib.hid (St.out.st.next X8)
     have E8 := (S8.out.ext).below hB8 (by omega)
     have b8 : SheetBox w8 w.heap.size (ofSh s) (some ⟨b, off, none⟩) cap := fun i v hv => cell_below hB8 (show w.heap.size < w0.heap.size by omega) (S8.out.sb i v hv)
     have t8 := S8.out.tb.below hB8 (by omega)
     have q8 := S8.out.res.below hB8 (by omega)
     have z8 := hB8.size
     have p0 : World.cell? w8 ⟨w.heap.size + 1 + 1, 0, none⟩ = some (.slice oa k ca) := t8.c 0 _ rfl
     have p1 := t8.f 0 (by simp [ints])
     have hT2 : Turned (w.heap.size + 1 + 1) w8 (w8.setCell ⟨w.heap.size + 1 + 1, 0, none⟩ (.slice oa' (k + 1) cap')) := (Turned.refl _ _).set 0 _
     have hr9 := row_mv (I := fun i => i = w.heap.size + 1 + 1) hr8 (Mv.of_grown hT2 fun i hi => by cases hi; rfl) (row_not hr8 (by omega))
     have N := Lib.hid (show CSt w w0 s (some ⟨b, off, none⟩) cap (w8.setCell ⟨w.heap.size + 1 + 1, 0, none⟩ (.slice oa' (k + 1) cap')) (ofSh s).ylo [((ofSh s).a0 : Int), ((ofSh s).a1 : Int), ((ofSh s).a2 : Int)] oa' cap' (k + 1) (R ++ [[a0, a2, a4]]) from
      ⟨ext_own E8 hT2 (by omega), b8.turned hT2 (by omega), t8.set (i := 0) (by simp [ints]) _, by rw [show triCells (R ++ [[a0, a2, a4]]) = triCells R ++ [.int .i64 (a0 : Nat), .int .i64 (a2 : Nat), .int .i64 (a4 : Nat)] by simp [triCells, upL]]; first | exact hr9 | (rw [hw0s]; exact hr9), by simpa using Nat.le_trans S8.out.size z8, S8.out.w0s, q8.other 0 _ (by omega)⟩)
     clear hr8 hg8 hB8 E8 b8 t8 q8 z8 hT2 hr9 S8 HRow hthree X8
     go_wp2
     go_roundg (go - 1)
     case measure => omega
     case rel => exact ⟨k + 1, oa', cap', _, _, _, by omega, by go_num, by rw [Ht.out]; exact N.out, fun _ => rfl⟩
  ·obtain rfl : k = s.tins.length := by omega
   have hf := Hf.out (by omega)
   simp only [List.cons.injEq, and_true] at hf
   obtain ⟨rfl, rfl, rfl⟩ := hf
   have hn : (corner s false).tins.length = s.tins.length := by simp [corner]
   have hkI : ¬ ((s.tins.length : Nat) : Int) < (s.tins.length : Int) := by omega
   have r0 := So.out.tb.c 0 _ rfl; have r1 := So.out.tb.c 1 _ rfl; have r2 := So.out.tb.c 2 _ rfl; have r3 := So.out.tb.c 3 _ rfl; have r4 := So.out.tb.c 4 _ rfl
   have q0 := So.out.res.c 0 _ rfl; have q1 := So.out.res.c 1 _ rfl; have q2 := So.out.res.c 2 _ rfl; have q3 := So.out.res.c 3 _ rfl; have q4 := So.out.res.c 4 _ rfl
   have f0 := So.out.res.f 0 (by decide); have f1 := So.out.res.f 1 (by decide); have f2 := So.out.res.f 2 (by decide); have f3 := So.out.res.f 3 (by decide); have f4 := So.out.res.f 4 (by decide)
   have hsz := So.out.size
   have hw0s := So.out.w0s
   go_wp2
   clear r0 r1 r2 r3 r4 q0 q1 q2 q3 q4 f0 f1 f2 f3 f4 c12
   have hT : Turned (w.heap.size + 1) wr (((((wr.setCell ⟨w.heap.size + 1, 0, none⟩ (.slice oa s.tins.length ca)).setCell ⟨w.heap.size + 1, 1, none⟩ (.int .i64 (ofSh s).ylo)).setCell ⟨w.heap.size + 1, 2, none⟩ (.int .i64 (ofSh s).a0)).setCell ⟨w.heap.size + 1, 3, none⟩ (.int .i64 (ofSh s).a1)).setCell ⟨w.heap.size + 1, 4, none⟩ (.int .i64 (ofSh s).a2)) := (((((Turned.refl _ _).set 0 _).set 1 _).set 2 _).set 3 _).set 4 _
   have hc := ((((So.out.res.set (i := 0) (by simp) (.slice oa s.tins.length ca)).set (i := 1) (by simp) (.int .i64 (ofSh s).ylo)).set (i := 2) (by simp) (.int .i64 (ofSh s).a0)).set (i := 3) (by simp) (.int .i64 (ofSh s).a1)).set (i := 4) (by simp) (.int .i64 (ofSh s).a2)
   have hl : (truthC (ofTr (corner s false)) oa ca).toList = [.slice oa s.tins.length ca, .int .i64 (ofSh s).ylo, .int .i64 (ofSh s).a0, .int .i64 (ofSh s).a1, .int .i64 (ofSh s).a2] := by simp [ofTr, ofSh, corner]
   have h2 := row_mv (I := fun i => i = w.heap.size + 1) So.out.row (Mv.of_grown hT fun i hi => by cases hi; rfl) (row_not So.out.row (by omega))
   have hE := ext_own So.out.ext hT (by omega)
   generalize (((((wr.setCell ⟨w.heap.size + 1, 0, none⟩ (.slice oa s.tins.length ca)).setCell ⟨w.heap.size + 1, 1, none⟩ (.int .i64 (ofSh s).ylo)).setCell ⟨w.heap.size + 1, 2, none⟩ (.int .i64 (ofSh s).a0)).setCell ⟨w.heap.size + 1, 3, none⟩ (.int .i64 (ofSh s).a1)).setCell ⟨w.heap.size + 1, 4, none⟩ (.int .i64 (ofSh s).a2)) = W9 at *
   refine bodyPost_ret (v := truthV (ofTr (corner s false)) oa ca) (results_cells (n := 5) rfl (by kernel_rfl) (by kernel_rfl) _ (w.heap.size + 1) (truthC (ofTr (corner s false)) oa ca).toList rfl (by simp) (fun j v hv => by rw [hl] at hv; exact hc.c j v hv)) (by simp) ⟨⟨oa, ⟨ca, rfl⟩, ?_⟩, hE⟩
   rw [show (corner s false).tins.take s.tins.length = (corner s false).tins by rw [← hn, List.take_length], ← hn] at h2
   exact tris_row h2 (fun t ht => by
    simp only [corner, List.mem_map] at ht
    obtain ⟨_, _, rfl⟩ := ht
    rfl)

theorem corner_t (s : Sh) (g : Fine s) (ot : Option Addr) (cap : Nat) (w : World) (h : TinsAt w ot (ofSh s).tins) :
  Calls Tryz.prog 37 #[sheetV (ofSh s) ot cap, .bool true] w fun e w' => (∃ oa ca, e = .returned (truthV (ofTr (corner s true)) oa ca) ∧ TrisAt w' oa (ofTr (corner s true)).tins) ∧ Ext w w' := by
 have H := Lib.hid h
 have hN1 := g.len1
 have hN4 := g.len2
 have h6 := tins_six h
 have H6 := Lib.hid (fun t (ht : t < s.tins.length) => (show (s.tins.getD t []).length = 6 by
  have := h6 (upL s.tins[t]) (List.mem_map.2 ⟨s.tins[t], List.getElem_mem ht, rfl⟩)
  rw [upL_length] at this
  simpa [List.getD, ht] using this))
 obtain ⟨ii, hi1, hi2, hi3, hi4⟩ := info_parts i22
 have htl := tins_len s
 clear h g h6
 go_enter Tryz.func37, Tryz.ntmps37
 go_wp2
 obtain ⟨w0, hw0⟩ : ∃ W, W = ((w.alloc (.cells (sheetC (ofSh s) ot cap) 28)).alloc (.cells noT.toArray 32)).alloc (.cells #[.slice none 0 0, .int .i64 (ofSh s).yhi, .int .i64 0, .int .i64 0, .int .i64 0] 32) := ⟨_, rfl⟩
 have St0 := Lib.hid (CSt.start w s ot cap (ofSh s).yhi hw0)
 rw [← hw0]
 clear hw0
 go_loopg [6, 7, 8] s.tins.length (fun g i a b wr => ∃ (k : Nat) (oa : Option Addr) (ca : Nat) (f0 f1 f2 : Int), k + g = s.tins.length ∧ i = .int .i64 k ∧ CSt w w0 s ot cap wr (ofSh s).yhi [f0, f1, f2] oa ca k ((corner s true).tins.take k) ∧ (0 < k → [f0, f1, f2] = [((ofSh s).b0 : Int), ((ofSh s).b1 : Int), ((ofSh s).b2 : Int)]))
 case atStart => exact ⟨0, none, 0, 0, 0, 0, by omega, rfl, St0.out, fun h => by omega⟩
 case round =>
  clear St0
  obtain ⟨k, oa, ca, f0, f1, f2, hk, rfl, st, hf⟩ := hrel
  have So := Lib.hid st
  have Hf := Lib.hid hf
  clear st hf
  have c12 : World.cell? wr ⟨w.heap.size, 12, none⟩ = some (.slice ot s.tins.length cap) := by rw [← htl]; exact So.out.sb 12 _ rfl
  by_cases hlt : k < s.tins.length
  ·have hkI : (k : Int) < (s.tins.length : Int) := by omega
   have htS : k < (ofSh s).tins.length := by rw [tins_len]; exact hlt
   obtain ⟨b, off, x0, x1, x2, x3, x4, x5, hot, hb, hT, k0, k1, k2, k3, k4, k5⟩ := H.out.at htS
   subst hot
   have hu : upL (s.tins.getD k []) = [x0, x1, x2, x3, x4, x5] := by rw [← hT]; simp [ofSh, List.getD, hlt]
   have h6k := H6.out k hlt
   obtain ⟨a0, a1, a2, a3, a4, a5, hsx⟩ := six_of h6k
   rw [hsx] at hu
   simp only [upL, List.map_cons, List.map_nil, List.cons.injEq, and_true] at hu
   obtain ⟨rfl, rfl, rfl, rfl, rfl, rfl⟩ := hu
   have Ht := Lib.hid (corner_take s true hlt hsx)
   have htI : (k : Int) < ((ofSh s).tins.length : Int) := by omega
   clear hT hb h6k hsx
   go_wp2
   have Si := Lib.hid (ISt.start So.out)
   have hsz := So.out.size
   clear c12
   generalize ((corner s true).tins.take k) = R at *
   obtain ⟨go, hgo⟩ : ∃ x, x = gk := ⟨_, rfl⟩
   obtain ⟨bc, hbc⟩ : ∃ x, x = wr.heap.size := ⟨_, rfl⟩
   obtain ⟨wi, hwi⟩ : ∃ W, W = wr.alloc (.cells #[.int .i64 0, .int .i64 0, .int .i64 0] 22) := ⟨_, rfl⟩
   rw [← hbc, ← hwi] at Si ⊢
   rw [← hgo] at hk
   clear hbc hwi
   clear So
   go_loopg [8] 3 (fun g p wr => ∃ j : Nat, j + g = 3 ∧ p = .int .i64 j ∧ ISt w w0 s (some ⟨b, off, none⟩) cap (ofSh s).yhi oa ca k R bc wr (mix3 [((ofSh s).b0 : Int), ((ofSh s).b1 : Int), ((ofSh s).b2 : Int)] [f0, f1, f2] j) (mix3 [((a1 : Nat) : Int), ((a3 : Nat) : Int), ((a5 : Nat) : Int)] [0, 0, 0] j))
   case atStart => exact ⟨0, by omega, rfl, Si.out⟩
   case round =>
    clear Si
    obtain ⟨j, hj, rfl, st⟩ := hrel
    obtain ⟨ot, hot⟩ : ∃ x : Option Addr, x = some ⟨b, off, none⟩ := ⟨_, rfl⟩
    by_cases hlt3 : j < 3
    ·have hjI : (j : Int) < 3 := by omega
     by_cases hj0 : j = 0
     ·skip
      subst hj0
      have St := Lib.hid (show ISt w w0 s (some ⟨b, off, none⟩) cap (ofSh s).yhi oa ca k R bc wr [(f0 : Int), (f1 : Int), (f2 : Int)] [(0 : Int), (0 : Int), (0 : Int)] from st)
      clear st
      have r0 : World.cell? wr ⟨bc, 0, none⟩ = some (.int .i64 0) := St.out.cb.c 0 _ rfl
      have p0 : World.cell? wr ⟨w.heap.size + 1 + 1, 2, none⟩ = some (.int .i64 f0) := St.out.tb.c 2 _ rfl
      go_wp2_with fail
      refine wp_region_plan (.take 0 <| .take 1 <| .take 2 <| .take 3 <| .take 4 <| .take 5 <| .take 6 <| .take 7 <| .take 8 <| .take 9 <| .take 10 <| .take 11 <| .take 12 <| .take 13 <| .take 14 <| .take 15 <| .take 16 <| .take 18 <| .only 17 <| .take 19 <| .only 20 <| .done) (fun W => (Ext w W ∧ SheetBox W w.heap.size (ofSh s) (some ⟨b, off, none⟩) cap)) mixed (by kernel_rfl) (by kernel_rfl) rfl (fun _ _ d _ _ h => by cases d <;> exact h) (⟨St.out.ext.drew, St.out.sb.ext (Ext.refl _).drew⟩) ?_
      repeat ((first | (refine plan_take (v := ?_) rfl rfl (fun W hW => ?_) ?_; rotate_left; (focus (have d3 := hW.2 3 _ rfl; have d4 := hW.2 4 _ rfl; have d5 := hW.2 5 _ rfl; have d6 := hW.2 6 _ rfl; have d7 := hW.2 7 _ rfl; have d8 := hW.2 8 _ rfl; have d12 := hW.2 12 _ rfl; have e0 := cell_ext hW.1 k0; have e1 := cell_ext hW.1 k1; have e2 := cell_ext hW.1 k2; have e3 := cell_ext hW.1 k3; have e4 := cell_ext hW.1 k4; have e5 := cell_ext hW.1 k5; go_simp; first | exact rfl | (split <;> first | exact rfl | (exfalso; omega)) | done))) | refine plan_skip rfl rfl ?_); simp only [puts])
      replace St := Lib.hid (St.out.next (Ext.refl _).drew)
      clear r0 p0
      generalize World.drew wr = wd11 at *
      have r0 : World.cell? wd11 ⟨bc, 0, none⟩ = some (.int .i64 0) := St.out.cb.c 0 _ rfl
      have r1 := St.out.cb.f 0 (by simp [ints])
      have p0 : World.cell? wd11 ⟨w.heap.size + 1 + 1, 2, none⟩ = some (.int .i64 f0) := St.out.tb.c 2 _ rfl
      have p1 := St.out.tb.f 2 (by simp [ints])
      have hn1 : ¬ bc = w.heap.size + 1 + 1 := St.out.ne
      have N := Lib.hid (St.out.put (j := 0) (by decide) rfl rfl (a0 : Nat) (ofSh s).a0)
      have H1 := Lib.hid (St.out.half (j := 0) (a0 : Nat))
      clear St
      refine plan_walk rfl ?_; intro K hK
      go_wp2
      refine hK _ _ H1.out ?_
      clear hK
      repeat ((first | (refine plan_take (v := ?_) rfl rfl (fun W hW => ?_) ?_; rotate_left; (focus (skip; go_simp; first | exact rfl | (split <;> first | exact rfl | (exfalso; omega)) | done))) | refine plan_skip rfl rfl ?_); simp only [puts])
      refine plan_walk rfl ?_; intro K hK
      go_wp2
      refine hK _ _ ⟨N.out.ext, N.out.sb⟩ ?_
      clear hK
      repeat ((first | (refine plan_take (v := ?_) rfl rfl (fun W hW => ?_) ?_; rotate_left; (focus (skip; go_simp; first | exact rfl | (split <;> first | exact rfl | (exfalso; omega)) | done))) | refine plan_skip rfl rfl ?_); simp only [puts])
      refine plan_done ?_
      clear r0 r1 p0 p1 H1 hn1
      generalize (World.setCell (World.setCell wd11 ⟨bc, 0, none⟩ (.int .i64 (a0 : Nat))) ⟨w.heap.size + 1 + 1, 2, none⟩ (.int .i64 (ofSh s).a0)) = wa at *
      have St2 := Lib.hid (show ISt w w0 s (some ⟨b, off, none⟩) cap (ofSh s).yhi oa ca k R bc wa [((ofSh s).a0 : Int), (f1 : Int), (f2 : Int)] [((a0 : Nat) : Int), (0 : Int), (0 : Int)] from N.out)
      clear N
      have r0 : World.cell? wa ⟨bc, 0, none⟩ = some (.int .i64 (a0 : Nat)) := St2.out.cb.c 0 _ rfl
      have p0 := St2.out.tb.c 2 _ rfl
      go_wp2_with fail
      refine wp_region_plan (.take 0 <| .take 1 <| .take 2 <| .take 3 <| .take 4 <| .take 5 <| .take 6 <| .take 7 <| .take 8 <| .take 9 <| .take 10 <| .take 11 <| .take 12 <| .take 13 <| .take 14 <| .take 15 <| .take 16 <| .take 18 <| .only 17 <| .take 19 <| .only 20 <| .done) (fun W => (Ext w W ∧ SheetBox W w.heap.size (ofSh s) (some ⟨b, off, none⟩) cap)) mixed (by kernel_rfl) (by kernel_rfl) rfl (fun _ _ d _ _ h => by cases d <;> exact h) (⟨St2.out.ext.drew, St2.out.sb.ext (Ext.refl _).drew⟩) ?_
      repeat ((first | (refine plan_take (v := ?_) rfl rfl (fun W hW => ?_) ?_; rotate_left; (focus (have d3 := hW.2 3 _ rfl; have d4 := hW.2 4 _ rfl; have d5 := hW.2 5 _ rfl; have d6 := hW.2 6 _ rfl; have d7 := hW.2 7 _ rfl; have d8 := hW.2 8 _ rfl; have d12 := hW.2 12 _ rfl; have e0 := cell_ext hW.1 k0; have e1 := cell_ext hW.1 k1; have e2 := cell_ext hW.1 k2; have e3 := cell_ext hW.1 k3; have e4 := cell_ext hW.1 k4; have e5 := cell_ext hW.1 k5; go_simp; first | exact rfl | (split <;> first | exact rfl | (exfalso; omega)) | done))) | refine plan_skip rfl rfl ?_); simp only [puts])
      replace St2 := Lib.hid (St2.out.next (Ext.refl _).drew)
      clear r0 p0
      generalize World.drew wa = wd13 at *
      have r0 : World.cell? wd13 ⟨bc, 0, none⟩ = some (.int .i64 (a0 : Nat)) := St2.out.cb.c 0 _ rfl
      have r1 := St2.out.cb.f 0 (by simp [ints])
      have p0 := St2.out.tb.c 2 _ rfl
      have p1 := St2.out.tb.f 2 (by simp [ints])
      have hn1 : ¬ bc = w.heap.size + 1 + 1 := St2.out.ne
      have N := Lib.hid (St2.out.put (j := 0) (by decide) rfl rfl (a1 : Nat) (ofSh s).b0)
      have H1 := Lib.hid (St2.out.half (j := 0) (a1 : Nat))
      clear St2
      refine plan_walk rfl ?_; intro K hK
      go_wp2
      refine hK _ _ H1.out ?_
      clear hK
      repeat ((first | (refine plan_take (v := ?_) rfl rfl (fun W hW => ?_) ?_; rotate_left; (focus (skip; go_simp; first | exact rfl | (split <;> first | exact rfl | (exfalso; omega)) | done))) | refine plan_skip rfl rfl ?_); simp only [puts])
      refine plan_walk rfl ?_; intro K hK
      go_wp2
      refine hK _ _ ⟨N.out.ext, N.out.sb⟩ ?_
      clear hK
      repeat ((first | (refine plan_take (v := ?_) rfl rfl (fun W hW => ?_) ?_; rotate_left; (focus (skip; go_simp; first | exact rfl | (split <;> first | exact rfl | (exfalso; omega)) | done))) | refine plan_skip rfl rfl ?_); simp only [puts])
      refine plan_done ?_
      clear r0 r1 p0 p1 H1 hn1
      generalize (World.setCell (World.setCell wd13 ⟨bc, 0, none⟩ (.int .i64 (a1 : Nat))) ⟨w.heap.size + 1 + 1, 2, none⟩ (.int .i64 (ofSh s).b0)) = wb at *
      go_wp2
      go_roundg (gk - 1)
      case measure => omega
      case rel => exact ⟨1, by omega, by go_num, N.out⟩
     ·skip
      by_cases hj1 : j = 1
      ·skip
       subst hj1
       have St := Lib.hid (show ISt w w0 s (some ⟨b, off, none⟩) cap (ofSh s).yhi oa ca k R bc wr [((ofSh s).b0 : Int), (f1 : Int), (f2 : Int)] [((a1 : Nat) : Int), (0 : Int), (0 : Int)] from st)
       clear st
       have r0 : World.cell? wr ⟨bc, 1, none⟩ = some (.int .i64 0) := St.out.cb.c 1 _ rfl
       have p0 : World.cell? wr ⟨w.heap.size + 1 + 1, 3, none⟩ = some (.int .i64 f1) := St.out.tb.c 3 _ rfl
       go_wp2_with fail
       refine wp_region_plan (.take 0 <| .take 1 <| .take 2 <| .take 3 <| .take 4 <| .take 5 <| .take 6 <| .take 7 <| .take 8 <| .take 9 <| .take 10 <| .take 11 <| .take 12 <| .take 13 <| .take 14 <| .take 15 <| .take 16 <| .take 18 <| .only 17 <| .take 19 <| .only 20 <| .done) (fun W => (Ext w W ∧ SheetBox W w.heap.size (ofSh s) (some ⟨b, off, none⟩) cap)) mixed (by kernel_rfl) (by kernel_rfl) rfl (fun _ _ d _ _ h => by cases d <;> exact h) (⟨St.out.ext.drew, St.out.sb.ext (Ext.refl _).drew⟩) ?_
       repeat ((first | (refine plan_take (v := ?_) rfl rfl (fun W hW => ?_) ?_; rotate_left; (focus (have d3 := hW.2 3 _ rfl; have d4 := hW.2 4 _ rfl; have d5 := hW.2 5 _ rfl; have d6 := hW.2 6 _ rfl; have d7 := hW.2 7 _ rfl; have d8 := hW.2 8 _ rfl; have d12 := hW.2 12 _ rfl; have e0 := cell_ext hW.1 k0; have e1 := cell_ext hW.1 k1; have e2 := cell_ext hW.1 k2; have e3 := cell_ext hW.1 k3; have e4 := cell_ext hW.1 k4; have e5 := cell_ext hW.1 k5; go_simp; first | exact rfl | (split <;> first | exact rfl | (exfalso; omega)) | done))) | refine plan_skip rfl rfl ?_); simp only [puts])
       replace St := Lib.hid (St.out.next (Ext.refl _).drew)
       clear r0 p0
       generalize World.drew wr = wd11 at *
       have r0 : World.cell? wd11 ⟨bc, 1, none⟩ = some (.int .i64 0) := St.out.cb.c 1 _ rfl
       have r1 := St.out.cb.f 1 (by simp [ints])
       have p0 : World.cell? wd11 ⟨w.heap.size + 1 + 1, 3, none⟩ = some (.int .i64 f1) := St.out.tb.c 3 _ rfl
       have p1 := St.out.tb.f 3 (by simp [ints])
       have hn1 : ¬ bc = w.heap.size + 1 + 1 := St.out.ne
       have N := Lib.hid (St.out.put (j := 1) (by decide) rfl rfl (a2 : Nat) (ofSh s).a1)
       have H1 := Lib.hid (St.out.half (j := 1) (a2 : Nat))
       clear St
       refine plan_walk rfl ?_; intro K hK
       go_wp2
       refine hK _ _ H1.out ?_
       clear hK
       repeat ((first | (refine plan_take (v := ?_) rfl rfl (fun W hW => ?_) ?_; rotate_left; (focus (skip; go_simp; first | exact rfl | (split <;> first | exact rfl | (exfalso; omega)) | done))) | refine plan_skip rfl rfl ?_); simp only [puts])
       refine plan_walk rfl ?_; intro K hK
       go_wp2
       refine hK _ _ ⟨N.out.ext, N.out.sb⟩ ?_
       clear hK
       repeat ((first | (refine plan_take (v := ?_) rfl rfl (fun W hW => ?_) ?_; rotate_left; (focus (skip; go_simp; first | exact rfl | (split <;> first | exact rfl | (exfalso; omega)) | done))) | refine plan_skip rfl rfl ?_); simp only [puts])
       refine plan_done ?_
       clear r0 r1 p0 p1 H1 hn1
       generalize (World.setCell (World.setCell wd11 ⟨bc, 1, none⟩ (.int .i64 (a2 : Nat))) ⟨w.heap.size + 1 + 1, 3, none⟩ (.int .i64 (ofSh s).a1)) = wa at *
       have St2 := Lib.hid (show ISt w w0 s (some ⟨b, off, none⟩) cap (ofSh s).yhi oa ca k R bc wa [((ofSh s).b0 : Int), ((ofSh s).a1 : Int), (f2 : Int)] [((a1 : Nat) : Int), ((a2 : Nat) : Int), (0 : Int)] from N.out)
       clear N
       have r0 : World.cell? wa ⟨bc, 1, none⟩ = some (.int .i64 (a2 : Nat)) := St2.out.cb.c 1 _ rfl
       have p0 := St2.out.tb.c 3 _ rfl
       go_wp2_with fail
       refine wp_region_plan (.take 0 <| .take 1 <| .take 2 <| .take 3 <| .take 4 <| .take 5 <| .take 6 <| .take 7 <| .take 8 <| .take 9 <| .take 10 <| .take 11 <| .take 12 <| .take 13 <| .take 14 <| .take 15 <| .take 16 <| .take 18 <| .only 17 <| .take 19 <| .only 20 <| .done) (fun W => (Ext w W ∧ SheetBox W w.heap.size (ofSh s) (some ⟨b, off, none⟩) cap)) mixed (by kernel_rfl) (by kernel_rfl) rfl (fun _ _ d _ _ h => by cases d <;> exact h) (⟨St2.out.ext.drew, St2.out.sb.ext (Ext.refl _).drew⟩) ?_
       repeat ((first | (refine plan_take (v := ?_) rfl rfl (fun W hW => ?_) ?_; rotate_left; (focus (have d3 := hW.2 3 _ rfl; have d4 := hW.2 4 _ rfl; have d5 := hW.2 5 _ rfl; have d6 := hW.2 6 _ rfl; have d7 := hW.2 7 _ rfl; have d8 := hW.2 8 _ rfl; have d12 := hW.2 12 _ rfl; have e0 := cell_ext hW.1 k0; have e1 := cell_ext hW.1 k1; have e2 := cell_ext hW.1 k2; have e3 := cell_ext hW.1 k3; have e4 := cell_ext hW.1 k4; have e5 := cell_ext hW.1 k5; go_simp; first | exact rfl | (split <;> first | exact rfl | (exfalso; omega)) | done))) | refine plan_skip rfl rfl ?_); simp only [puts])
       replace St2 := Lib.hid (St2.out.next (Ext.refl _).drew)
       clear r0 p0
       generalize World.drew wa = wd13 at *
       have r0 : World.cell? wd13 ⟨bc, 1, none⟩ = some (.int .i64 (a2 : Nat)) := St2.out.cb.c 1 _ rfl
       have r1 := St2.out.cb.f 1 (by simp [ints])
       have p0 := St2.out.tb.c 3 _ rfl
       have p1 := St2.out.tb.f 3 (by simp [ints])
       have hn1 : ¬ bc = w.heap.size + 1 + 1 := St2.out.ne
       have N := Lib.hid (St2.out.put (j := 1) (by decide) rfl rfl (a3 : Nat) (ofSh s).b1)
       have H1 := Lib.hid (St2.out.half (j := 1) (a3 : Nat))
       clear St2
       refine plan_walk rfl ?_; intro K hK
       go_wp2
       refine hK _ _ H1.out ?_
       clear hK
       repeat ((first | (refine plan_take (v := ?_) rfl rfl (fun W hW => ?_) ?_; rotate_left; (focus (skip; go_simp; first | exact rfl | (split <;> first | exact rfl | (exfalso; omega)) | done))) | refine plan_skip rfl rfl ?_); simp only [puts])
       refine plan_walk rfl ?_; intro K hK
       go_wp2
       refine hK _ _ ⟨N.out.ext, N.out.sb⟩ ?_
       clear hK
       repeat ((first | (refine plan_take (v := ?_) rfl rfl (fun W hW => ?_) ?_; rotate_left; (focus (skip; go_simp; first | exact rfl | (split <;> first | exact rfl | (exfalso; omega)) | done))) | refine plan_skip rfl rfl ?_); simp only [puts])
       refine plan_done ?_
       clear r0 r1 p0 p1 H1 hn1
       generalize (World.setCell (World.setCell wd13 ⟨bc, 1, none⟩ (.int .i64 (a3 : Nat))) ⟨w.heap.size + 1 + 1, 3, none⟩ (.int .i64 (ofSh s).b1)) = wb at *
       go_wp2
       go_roundg (gk - 1)
       case measure => omega
       case rel => exact ⟨2, by omega, by go_num, N.out⟩
      ·skip
       have hj2 : j = 2 := by omega
       subst hj2
       have St := Lib.hid (show ISt w w0 s (some ⟨b, off, none⟩) cap (ofSh s).yhi oa ca k R bc wr [((ofSh s).b0 : Int), ((ofSh s).b1 : Int), (f2 : Int)] [((a1 : Nat) : Int), ((a3 : Nat) : Int), (0 : Int)] from st)
       clear st
       have r0 : World.cell? wr ⟨bc, 2, none⟩ = some (.int .i64 0) := St.out.cb.c 2 _ rfl
       have p0 : World.cell? wr ⟨w.heap.size + 1 + 1, 4, none⟩ = some (.int .i64 f2) := St.out.tb.c 4 _ rfl
       go_wp2_with fail
       refine wp_region_plan (.take 0 <| .take 1 <| .take 2 <| .take 3 <| .take 4 <| .take 5 <| .take 6 <| .take 7 <| .take 8 <| .take 9 <| .take 10 <| .take 11 <| .take 12 <| .take 13 <| .take 14 <| .take 15 <| .take 16 <| .take 18 <| .only 17 <| .take 19 <| .only 20 <| .done) (fun W => (Ext w W ∧ SheetBox W w.heap.size (ofSh s) (some ⟨b, off, none⟩) cap)) mixed (by kernel_rfl) (by kernel_rfl) rfl (fun _ _ d _ _ h => by cases d <;> exact h) (⟨St.out.ext.drew, St.out.sb.ext (Ext.refl _).drew⟩) ?_
       repeat ((first | (refine plan_take (v := ?_) rfl rfl (fun W hW => ?_) ?_; rotate_left; (focus (have d3 := hW.2 3 _ rfl; have d4 := hW.2 4 _ rfl; have d5 := hW.2 5 _ rfl; have d6 := hW.2 6 _ rfl; have d7 := hW.2 7 _ rfl; have d8 := hW.2 8 _ rfl; have d12 := hW.2 12 _ rfl; have e0 := cell_ext hW.1 k0; have e1 := cell_ext hW.1 k1; have e2 := cell_ext hW.1 k2; have e3 := cell_ext hW.1 k3; have e4 := cell_ext hW.1 k4; have e5 := cell_ext hW.1 k5; go_simp; first | exact rfl | (split <;> first | exact rfl | (exfalso; omega)) | done))) | refine plan_skip rfl rfl ?_); simp only [puts])
       replace St := Lib.hid (St.out.next (Ext.refl _).drew)
       clear r0 p0
       generalize World.drew wr = wd11 at *
       have r0 : World.cell? wd11 ⟨bc, 2, none⟩ = some (.int .i64 0) := St.out.cb.c 2 _ rfl
       have r1 := St.out.cb.f 2 (by simp [ints])
       have p0 : World.cell? wd11 ⟨w.heap.size + 1 + 1, 4, none⟩ = some (.int .i64 f2) := St.out.tb.c 4 _ rfl
       have p1 := St.out.tb.f 4 (by simp [ints])
       have hn1 : ¬ bc = w.heap.size + 1 + 1 := St.out.ne
       have N := Lib.hid (St.out.put (j := 2) (by decide) rfl rfl (a4 : Nat) (ofSh s).a2)
       have H1 := Lib.hid (St.out.half (j := 2) (a4 : Nat))
       clear St
       refine plan_walk rfl ?_; intro K hK
       go_wp2
       refine hK _ _ H1.out ?_
       clear hK
       repeat ((first | (refine plan_take (v := ?_) rfl rfl (fun W hW => ?_) ?_; rotate_left; (focus (skip; go_simp; first | exact rfl | (split <;> first | exact rfl | (exfalso; omega)) | done))) | refine plan_skip rfl rfl ?_); simp only [puts])
       refine plan_walk rfl ?_; intro K hK
       go_wp2
       refine hK _ _ ⟨N.out.ext, N.out.sb⟩ ?_
       clear hK
       repeat ((first | (refine plan_take (v := ?_) rfl rfl (fun W hW => ?_) ?_; rotate_left; (focus (skip; go_simp; first | exact rfl | (split <;> first | exact rfl | (exfalso; omega)) | done))) | refine plan_skip rfl rfl ?_); simp only [puts])
       refine plan_done ?_
       clear r0 r1 p0 p1 H1 hn1
       generalize (World.setCell (World.setCell wd11 ⟨bc, 2, none⟩ (.int .i64 (a4 : Nat))) ⟨w.heap.size + 1 + 1, 4, none⟩ (.int .i64 (ofSh s).a2)) = wa at *
       have St2 := Lib.hid (show ISt w w0 s (some ⟨b, off, none⟩) cap (ofSh s).yhi oa ca k R bc wa [((ofSh s).b0 : Int), ((ofSh s).b1 : Int), ((ofSh s).a2 : Int)] [((a1 : Nat) : Int), ((a3 : Nat) : Int), ((a4 : Nat) : Int)] from N.out)
       clear N
       have r0 : World.cell? wa ⟨bc, 2, none⟩ = some (.int .i64 (a4 : Nat)) := St2.out.cb.c 2 _ rfl
       have p0 := St2.out.tb.c 4 _ rfl
       go_wp2_with fail
       refine wp_region_plan (.take 0 <| .take 1 <| .take 2 <| .take 3 <| .take 4 <| .take 5 <| .take 6 <| .take 7 <| .take 8 <| .take 9 <| .take 10 <| .take 11 <| .take 12 <| .take 13 <| .take 14 <| .take 15 <| .take 16 <| .take 18 <| .only 17 <| .take 19 <| .only 20 <| .done) (fun W => (Ext w W ∧ SheetBox W w.heap.size (ofSh s) (some ⟨b, off, none⟩) cap)) mixed (by kernel_rfl) (by kernel_rfl) rfl (fun _ _ d _ _ h => by cases d <;> exact h) (⟨St2.out.ext.drew, St2.out.sb.ext (Ext.refl _).drew⟩) ?_
       repeat ((first | (refine plan_take (v := ?_) rfl rfl (fun W hW => ?_) ?_; rotate_left; (focus (have d3 := hW.2 3 _ rfl; have d4 := hW.2 4 _ rfl; have d5 := hW.2 5 _ rfl; have d6 := hW.2 6 _ rfl; have d7 := hW.2 7 _ rfl; have d8 := hW.2 8 _ rfl; have d12 := hW.2 12 _ rfl; have e0 := cell_ext hW.1 k0; have e1 := cell_ext hW.1 k1; have e2 := cell_ext hW.1 k2; have e3 := cell_ext hW.1 k3; have e4 := cell_ext hW.1 k4; have e5 := cell_ext hW.1 k5; go_simp; first | exact rfl | (split <;> first | exact rfl | (exfalso; omega)) | done))) | refine plan_skip rfl rfl ?_); simp only [puts])
       replace St2 := Lib.hid (St2.out.next (Ext.refl _).drew)
       clear r0 p0
       generalize World.drew wa = wd13 at *
       have r0 : World.cell? wd13 ⟨bc, 2, none⟩ = some (.int .i64 (a4 : Nat)) := St2.out.cb.c 2 _ rfl
       have r1 := St2.out.cb.f 2 (by simp [ints])
       have p0 := St2.out.tb.c 4 _ rfl
       have p1 := St2.out.tb.f 4 (by simp [ints])
       have hn1 : ¬ bc = w.heap.size + 1 + 1 := St2.out.ne
       have N := Lib.hid (St2.out.put (j := 2) (by decide) rfl rfl (a5 : Nat) (ofSh s).b2)
       have H1 := Lib.hid (St2.out.half (j := 2) (a5 : Nat))
       clear St2
       refine plan_walk rfl ?_; intro K hK
       go_wp2
       refine hK _ _ H1.out ?_
       clear hK
       repeat ((first | (refine plan_take (v := ?_) rfl rfl (fun W hW => ?_) ?_; rotate_left; (focus (skip; go_simp; first | exact rfl | (split <;> first | exact rfl | (exfalso; omega)) | done))) | refine plan_skip rfl rfl ?_); simp only [puts])
       refine plan_walk rfl ?_; intro K hK
       go_wp2
       refine hK _ _ ⟨N.out.ext, N.out.sb⟩ ?_
       clear hK
       repeat ((first | (refine plan_take (v := ?_) rfl rfl (fun W hW => ?_) ?_; rotate_left; (focus (skip; go_simp; first | exact rfl | (split <;> first | exact rfl | (exfalso; omega)) | done))) | refine plan_skip rfl rfl ?_); simp only [puts])
       refine plan_done ?_
       clear r0 r1 p0 p1 H1 hn1
       generalize (World.setCell (World.setCell wd13 ⟨bc, 2, none⟩ (.int .i64 (a5 : Nat))) ⟨w.heap.size + 1 + 1, 4, none⟩ (.int .i64 (ofSh s).b2)) = wb at *
       go_wp2
       go_roundg (gk - 1)
       case measure => omega
       case rel => exact ⟨3, by omega, by go_num, N.out⟩

    ·obtain rfl : j = 3 := by omega
     have St := Lib.hid (show ISt w w0 s (some ⟨b, off, none⟩) cap (ofSh s).yhi oa ca k R bc wr [((ofSh s).b0 : Int), ((ofSh s).b1 : Int), ((ofSh s).b2 : Int)] [((a1 : Nat) : Int), ((a3 : Nat) : Int), ((a5 : Nat) : Int)] from st)
     clear st hot
     have r0 : World.cell? wr ⟨bc, 0, none⟩ = some (.int .i64 (a1 : Nat)) := St.out.cb.c 0 _ rfl
     have r1 : World.cell? wr ⟨bc, 1, none⟩ = some (.int .i64 (a3 : Nat)) := St.out.cb.c 1 _ rfl
     have r2 : World.cell? wr ⟨bc, 2, none⟩ = some (.int .i64 (a5 : Nat)) := St.out.cb.c 2 _ rfl
     have p0 : World.cell? wr ⟨w.heap.size + 1 + 1, 0, none⟩ = some (.slice oa k ca) := St.out.st.tb.c 0 _ rfl
     have p1 := St.out.st.tb.f 0 (by simp [ints])
     have hplt := World.block_lt_of_cell? _ _ p0
     have hrlt := World.block_lt_of_cell? _ _ r0
     simp only at hplt hrlt
     have hpne := Nat.ne_of_lt hplt
     have hrne := Nat.ne_of_lt hrlt
     have X8 : Ext wr (wr.alloc (.cells #[.int .i64 (a1 : Nat), .int .i64 (a3 : Nat), .int .i64 (a5 : Nat)] 22)) := (Ext.refl wr).alloc _
     have HRow := Lib.hid (row_mv St.out.st.row (Mv.of_ext (I := fun _ => False) X8) (fun _ _ k => k))
     have hthree := three_val wr (a1 : Nat) (a3 : Nat) (a5 : Nat)
     have hw0s := St.out.st.w0s
     have hsz0 := St.out.st.size
     go_wp2_with (first | (at_builtin; refine wpList_append_own_at _ rfl _ _ 30 rfl w0.heap.size 22 ii (.agg #[.int .i64 0, .int .i64 0, .int .i64 0]) 3 24 Tryz.underlying30 hi1 hi2 hi3 hi4 rfl (by decide) _ k (triCells R) rfl HRow.out ⟨wr.heap.size, 0, none⟩ 1 1 [.int .i64 (a1 : Nat), .int .i64 (a3 : Nat), .int .i64 (a5 : Nat)] rfl rfl hthree (by simp [Value.oneCell']) (by unfold maxLen; omega) (by omega) (by first | omega | (simp only [World.size_alloc]; omega)) ?_))
     intro v' w8 hr8 hg8 _ _
     have hB8 := (Below.refl w0.heap.size _).grown hg8 (by first | omega | (simp only [World.size_alloc]; omega)) fun b hb => (HRow.out.lt b hb).1
     obtain ⟨oa', cap', hv8, _⟩ := row_slice hr8
     subst hv8
     have S8 := Lib.hid (St.out.st.next X8)
     have E8 := (S8.out.ext).below hB8 (by omega)
     have b8 : SheetBox w8 w.heap.size (ofSh s) (some ⟨b, off, none⟩) cap := fun i v hv => cell_below hB8 (show w.heap.size < w0.heap.size by omega) (S8.out.sb i v hv)
     have t8 := S8.out.tb.below hB8 (by omega)
     have q8 := S8.out.res.below hB8 (by omega)
     have z8 := hB8.size
     have p0 : World.cell? w8 ⟨w.heap.size + 1 + 1, 0, none⟩ = some (.slice oa k ca) := t8.c 0 _ rfl
     have p1 := t8.f 0 (by simp [ints])
     have hT2 : Turned (w.heap.size + 1 + 1) w8 (w8.setCell ⟨w.heap.size + 1 + 1, 0, none⟩ (.slice oa' (k + 1) cap')) := (Turned.refl _ _).set 0 _
     have hr9 := row_mv (I := fun i => i = w.heap.size + 1 + 1) hr8 (Mv.of_grown hT2 fun i hi => by cases hi; rfl) (row_not hr8 (by omega))
     have N := Lib.hid (show CSt w w0 s (some ⟨b, off, none⟩) cap (w8.setCell ⟨w.heap.size + 1 + 1, 0, none⟩ (.slice oa' (k + 1) cap')) (ofSh s).yhi [((ofSh s).b0 : Int), ((ofSh s).b1 : Int), ((ofSh s).b2 : Int)] oa' cap' (k + 1) (R ++ [[a1, a3, a5]]) from
      ⟨ext_own E8 hT2 (by omega), b8.turned hT2 (by omega), t8.set (i := 0) (by simp [ints]) _, by rw [show triCells (R ++ [[a1, a3, a5]]) = triCells R ++ [.int .i64 (a1 : Nat), .int .i64 (a3 : Nat), .int .i64 (a5 : Nat)] by simp [triCells, upL]]; first | exact hr9 | (rw [hw0s]; exact hr9), by simpa using Nat.le_trans S8.out.size z8, S8.out.w0s, q8.other 0 _ (by omega)⟩)
     clear hr8 hg8 hB8 E8 b8 t8 q8 z8 hT2 hr9 S8 HRow hthree X8
     go_wp2
     go_roundg (go - 1)
     case measure => omega
     case rel => exact ⟨k + 1, oa', cap', _, _, _, by omega, by go_num, by rw [Ht.out]; exact N.out, fun _ => rfl⟩
  ·obtain rfl : k = s.tins.length := by omega
   have hf := Hf.out (by omega)
   simp only [List.cons.injEq, and_true] at hf
   obtain ⟨rfl, rfl, rfl⟩ := hf
   have hn : (corner s true).tins.length = s.tins.length := by simp [corner]
   have hkI : ¬ ((s.tins.length : Nat) : Int) < (s.tins.length : Int) := by omega
   have r0 := So.out.tb.c 0 _ rfl; have r1 := So.out.tb.c 1 _ rfl; have r2 := So.out.tb.c 2 _ rfl; have r3 := So.out.tb.c 3 _ rfl; have r4 := So.out.tb.c 4 _ rfl
   have q0 := So.out.res.c 0 _ rfl; have q1 := So.out.res.c 1 _ rfl; have q2 := So.out.res.c 2 _ rfl; have q3 := So.out.res.c 3 _ rfl; have q4 := So.out.res.c 4 _ rfl
   have f0 := So.out.res.f 0 (by decide); have f1 := So.out.res.f 1 (by decide); have f2 := So.out.res.f 2 (by decide); have f3 := So.out.res.f 3 (by decide); have f4 := So.out.res.f 4 (by decide)
   have hsz := So.out.size
   have hw0s := So.out.w0s
   go_wp2
   clear r0 r1 r2 r3 r4 q0 q1 q2 q3 q4 f0 f1 f2 f3 f4 c12
   have hT : Turned (w.heap.size + 1) wr (((((wr.setCell ⟨w.heap.size + 1, 0, none⟩ (.slice oa s.tins.length ca)).setCell ⟨w.heap.size + 1, 1, none⟩ (.int .i64 (ofSh s).yhi)).setCell ⟨w.heap.size + 1, 2, none⟩ (.int .i64 (ofSh s).b0)).setCell ⟨w.heap.size + 1, 3, none⟩ (.int .i64 (ofSh s).b1)).setCell ⟨w.heap.size + 1, 4, none⟩ (.int .i64 (ofSh s).b2)) := (((((Turned.refl _ _).set 0 _).set 1 _).set 2 _).set 3 _).set 4 _
   have hc := ((((So.out.res.set (i := 0) (by simp) (.slice oa s.tins.length ca)).set (i := 1) (by simp) (.int .i64 (ofSh s).yhi)).set (i := 2) (by simp) (.int .i64 (ofSh s).b0)).set (i := 3) (by simp) (.int .i64 (ofSh s).b1)).set (i := 4) (by simp) (.int .i64 (ofSh s).b2)
   have hl : (truthC (ofTr (corner s true)) oa ca).toList = [.slice oa s.tins.length ca, .int .i64 (ofSh s).yhi, .int .i64 (ofSh s).b0, .int .i64 (ofSh s).b1, .int .i64 (ofSh s).b2] := by simp [ofTr, ofSh, corner]
   have h2 := row_mv (I := fun i => i = w.heap.size + 1) So.out.row (Mv.of_grown hT fun i hi => by cases hi; rfl) (row_not So.out.row (by omega))
   have hE := ext_own So.out.ext hT (by omega)
   generalize (((((wr.setCell ⟨w.heap.size + 1, 0, none⟩ (.slice oa s.tins.length ca)).setCell ⟨w.heap.size + 1, 1, none⟩ (.int .i64 (ofSh s).yhi)).setCell ⟨w.heap.size + 1, 2, none⟩ (.int .i64 (ofSh s).b0)).setCell ⟨w.heap.size + 1, 3, none⟩ (.int .i64 (ofSh s).b1)).setCell ⟨w.heap.size + 1, 4, none⟩ (.int .i64 (ofSh s).b2)) = W9 at *
   refine bodyPost_ret (v := truthV (ofTr (corner s true)) oa ca) (results_cells (n := 5) rfl (by kernel_rfl) (by kernel_rfl) _ (w.heap.size + 1) (truthC (ofTr (corner s true)) oa ca).toList rfl (by simp) (fun j v hv => by rw [hl] at hv; exact hc.c j v hv)) (by simp) ⟨⟨oa, ⟨ca, rfl⟩, ?_⟩, hE⟩
   rw [show (corner s true).tins.take s.tins.length = (corner s true).tins by rw [← hn, List.take_length], ← hn] at h2
   exact tris_row h2 (fun t ht => by
    simp only [corner, List.mem_map] at ht
    obtain ⟨_, _, rfl⟩ := ht
    rfl)

end Go.Proofs.YtjpekonfjihcoaaGreatDoor
