/- Contracts and mathematics, joined: Text4, Text5, Read. Conditions stand with each. -/
import Derived.Test.YtiehfpkcaoeieaaGreatDoorM10
set_option linter.unusedVariables false
set_option linter.unusedSimpArgs false
/- Contracts: which word a line begins with; parsed. No condition. -/
namespace Go.Proofs.YtiehfpkcaoeieaaGreatDoor
open Go.RowKit Go.My Go.StripM

/-- Which of both words. -/
def lineIx (x : List UInt8) : Int := if x = wBoard then 0 else if x = wSpot then 1 else -1

set_option maxHeartbeats 1000000 in
theorem windex_any (x : List UInt8) (p : Nat) (w : World) (h0 : w.cell? ⟨p, 0, none⟩ = some (.string (bs wBoard))) (h1 : w.cell? ⟨p, 1, none⟩ = some (.string (bs wSpot))) :
    Calls Tryz.prog 132 #[.slice (some ⟨p, 0, none⟩) 2 2, .string (bs x)] w fun e w' => e = .returned (.int .i64 (lineIx x)) ∧ w = w' := by
  go_enter Tryz.func132, Tryz.ntmps132
  go_wp2
  go_loopg [8] 2 (fun g i wr => ∃ k : Nat, k + g = 2 ∧ wr = w ∧ i = .int .i64 k ∧ (0 < k → ¬ x = wBoard) ∧ (1 < k → ¬ x = wSpot))
  case atStart => exact ⟨0, rfl, rfl, rfl, by omega, by omega⟩
  case round =>
    obtain ⟨k, hk, rfl, rfl, h2, h3⟩ := hrel
    match k, hk with
    | 0, hk =>
      by_cases hx : x = wBoard
      · have hq : (x == wBoard) = true := by rw [beq_iff_eq]; exact hx
        have hr := Lib.hid (show lineIx x = 0 by rw [lineIx, if_pos hx])
        clear hx
        go_wp2
        go_ret
        exact ⟨by rw [hr.out]; rfl, rfl⟩
      · have hq : (x == wBoard) = false := by rw [beq_eq_false_iff_ne]; exact hx
        go_wp2
        go_roundg (gk - 1)
        case measure => omega
        case rel => exact ⟨1, by omega, rfl, by go_num, fun _ => hx, by omega⟩
    | 1, hk =>
      by_cases hx : x = wSpot
      · have hq : (x == wSpot) = true := by rw [beq_iff_eq]; exact hx
        have hr := Lib.hid (show lineIx x = 1 by rw [lineIx, if_neg (h2 (by omega)), if_pos hx])
        clear hx h2
        go_wp2
        go_ret
        exact ⟨by rw [hr.out]; rfl, rfl⟩
      · have hq : (x == wSpot) = false := by rw [beq_eq_false_iff_ne]; exact hx
        have h2' := h2 (by omega)
        clear h2
        go_wp2
        go_roundg (gk - 1)
        case measure => omega
        case rel => exact ⟨2, by omega, rfl, by go_num, fun _ => h2', fun _ => hx⟩
    | 2, hk =>
      have hr := Lib.hid (show lineIx x = -1 by rw [lineIx, if_neg (h2 (by omega)), if_neg (h3 (by omega))])
      clear h2 h3
      go_wp2
      go_ret
      exact ⟨by rw [hr.out]; rfl, rfl⟩
    | k + 3, hk => omega

end Go.Proofs.YtiehfpkcaoeieaaGreatDoor
/- Contract: parsed. No condition but on the length of the text. -/
namespace Go.Proofs.YtiehfpkcaoeieaaGreatDoor
open Go.RowKit Go.My Go.StripM

theorem split_any (c : UInt8) (l : List UInt8) (m : Int) (w : World) (hl : l.length ≤ 100000) (hm : w.cell? ⟨1, 0, none⟩ = some (.int .i64 m)) :
    Calls Tryz.prog 128 #[.string (bs l), .string (bs [c])] w fun e w' => e = .returned (.slice (some ⟨w.heap.size, 0, none⟩) (spl c l).length (spl c l).length) ∧ w' = w.alloc (.cells ((spl c l).map fun x => Value.string (bs x)).toArray 9) := by
  have h := Tryz.strings_Split (bs l) (bs [c]) m w (by rw [bs_size]; omega) hm (by rw [bs_size]; simp)
  obtain ⟨h1, h2⟩ := splitB_spl c l
  rw [h1, List.map_map, h2] at h
  exact h
theorem cells_str (w : World) (L : List (List UInt8)) {i : Nat} {x : List UInt8} (h : L[i]? = some x) : (w.alloc (.cells (L.map fun x => Value.string (bs x)).toArray 9)).cell? ⟨w.heap.size, i, none⟩ = some (.string (bs x)) := by
  rw [cell_of_row _ _ i _ _ _ (heap_alloc_new w _)]; simp [h]

theorem Turned.keep' {b i : Nat} {w w' : World} (h : Turned b w w') (hne : i ≠ b) {o : Obj} (hi : w.heap[i]? = some o) : w'.heap[i]? = some o :=
  (h.block i (Array.getElem?_eq_some_iff.1 hi).1 (by simpa using hne)).trans hi

theorem _root_.Go.My.Own.low' {w : World} {b b' : Nat} {e : TypeId} {v : Value} {xs : List Value} (h : Own w b e v xs) (hb : b' ≤ b) : Own w b' e v xs := by
  refine ⟨h.1, ?_⟩
  rcases h.2 with h2 | ⟨g, cap, cur, hv, hg, r⟩
  · exact .inl h2
  · exact .inr ⟨g, cap, cur, hv, Nat.le_trans hb hg, r⟩
theorem OwnR.low {w : World} {b b' : Nat} {v : Value} {ss : List (List Nat)} (h : OwnR w 0 b v ss) (hb : b' ≤ b) : OwnR w 0 b' v ss := by
  obtain ⟨_, xs, h1, h2⟩ := h
  exact ⟨Nat.zero_le _, xs, h1.low' hb, h2⟩

/-- What parsed hands back. -/
def ParsePost (l : List UInt8) (B : Nat) (e : Ending) (w' : World) : Prop :=
  (∀ n ss, parse l = some (n, ss) → ∃ v, e = .returned (.agg #[.int .i64 n, v]) ∧ OwnR w' 0 B v ss) ∧ (parse l = none → NoText e)
theorem par_bad {l : List UInt8} {B : Nat} {e : Ending} {w' : World} (h : parse l = none) (he : NoText e) : ParsePost l B e w' := ⟨fun n ss hn => (by rw [h] at hn; cases hn), fun _ => he⟩
theorem parse_short {l : List UInt8} (h : (spl 10 l).length < 3) : parse l = none := by rw [parse, if_pos h]
theorem parse_stop {l : List UInt8} {i : Nat} (h : stTo (spl 10 l) i = none) (hi : i ≤ (spl 10 l).length - 2) : parse l = none := by
  unfold parse
  split
  · rfl
  · rw [stTo_none h hi]; rfl

/-- The state while lines are read. -/
structure PS (w wA W : World) (bb base : Nat) (p : Nat × List (List Nat)) (v : Value) : Prop where
  ext : Ext w W
  turned : Turned bb wA W
  c0 : W.cell? ⟨bb, 0, none⟩ = some (.int .i64 (p.1 : Nat))
  c1 : W.cell? ⟨bb, 1, none⟩ = some v
  f0 : W.frozen? ⟨bb, 0, none⟩ = false
  f1 : W.frozen? ⟨bb, 1, none⟩ = false
  tag : ∃ c, W.heap[bb]? = some (.cells c 24 (0, 0))
  own : OwnR W 0 base v p.2
  lt : w.heap.size ≤ bb
  hbb : bb < base
  size : base ≤ W.heap.size
theorem PS.next {w wA W W' : World} {bb base : Nat} {p : Nat × List (List Nat)} {v : Value} (h : PS w wA W bb base p v) (hE : Ext W W') : PS w wA W' bb base p v := by
  have hb := h.hbb
  have hs := h.size
  exact ⟨h.ext.trans hE, h.turned.trans (Turned.of_ext hE), cell_ext hE h.c0, cell_ext hE h.c1, (hE.frozen (by simp; omega)).trans h.f0, (hE.frozen (by simp; omega)).trans h.f1,
    by obtain ⟨c, hc⟩ := h.tag; exact ⟨c, (hE.block _ (by omega)).trans hc⟩, h.own.ext hE, h.lt, h.hbb, Nat.le_trans hs hE.size⟩

theorem PS.setName {w wA W : World} {bb base : Nat} {p : Nat × List (List Nat)} {v : Value} (h : PS w wA W bb base p v) (n : Nat) : PS w wA (W.setCell ⟨bb, 0, none⟩ (.int .i64 n)) bb base (n, p.2) v := by
  obtain ⟨h1, h2, c0, c1, f0, f1, h3, h4, h5, h6, h7⟩ := h
  exact ⟨ext_own h1 ((Turned.refl bb W).set 0 _) h5, h2.set 0 _, by go_simp, by go_simp, by go_simp, by go_simp, tag_cell _ _ h3, h4.turned ((Turned.refl bb W).set 0 _) (Nat.zero_le _) h6 (tag_set h3 (by decide)), h5, h6, by simpa using h7⟩
theorem PS.setRows {w wA W W' : World} {bb base : Nat} {p : Nat × List (List Nat)} {v v' : Value} {s : List Nat} (h : PS w wA W bb base p v) (hA : wA.heap.size ≤ base) (hB : Below base W W') (ho : OwnR W' 0 base v' (p.2 ++ [s])) :
    PS w wA (W'.setCell ⟨bb, 1, none⟩ v') bb base (p.1, p.2 ++ [s]) v' := by
  obtain ⟨h1, h2, c0, c1, f0, f1, h3, h4, h5, h6, h7⟩ := h
  have d0 := (hB.cell (p := ⟨bb, 0, none⟩) h6).trans c0
  have d1 := (hB.cell (p := ⟨bb, 1, none⟩) h6).trans c1
  have g0 := (hB.frozen (p := ⟨bb, 0, none⟩) h6).trans f0
  have g1 := (hB.frozen (p := ⟨bb, 1, none⟩) h6).trans f1
  have tg : ∃ c, W'.heap[bb]? = some (.cells c 24 (0, 0)) := by obtain ⟨c, hc⟩ := h3; exact ⟨c, (hB.block _ h6).trans hc⟩
  exact ⟨ext_own (h1.below hB (by omega)) ((Turned.refl bb W').set 1 _) h5, (h2.below hB hA).set 1 _, by go_simp, by go_simp, by go_simp, by go_simp, tag_cell _ _ tg, ho.turned ((Turned.refl bb W').set 1 _) (Nat.zero_le _) h6 (tag_set tg (by decide)), h5, h6, by have := hB.size; simp; omega⟩

theorem mapM_len {ws : List (List UInt8)} {ns : List Nat} (h : ws.mapM parseNum = some ns) : ns.length = ws.length := by
  induction ws generalizing ns with
  | nil => simp at h; subst h; rfl
  | cons w ws ih =>
    rw [List.mapM_cons] at h
    cases h1 : parseNum w with
    | none => rw [h1] at h; cases h
    | some a =>
      cases h2 : ws.mapM parseNum with
      | none => rw [h1, h2] at h; cases h
      | some xs => rw [h1, h2] at h; injection h with h; subst h; simp [ih h2]
theorem mapM_snoc (ws : List (List UInt8)) (w : List UInt8) : (ws ++ [w]).mapM parseNum = (ws.mapM parseNum).bind fun xs => (parseNum w).map fun x => xs ++ [x] := by
  induction ws with
  | nil => simp; cases parseNum w <;> rfl
  | cons a ws ih =>
    rw [List.cons_append, List.mapM_cons, ih, List.mapM_cons]
    cases parseNum a with
    | none => rfl
    | some x =>
      cases ws.mapM parseNum with
      | none => rfl
      | some xs => cases parseNum w <;> rfl
theorem mapM_bad {ws : List (List UInt8)} {w : List UInt8} (hw : w ∈ ws) (h : parseNum w = none) : ws.mapM parseNum = none := by
  induction ws with
  | nil => cases hw
  | cons a ws ih =>
    rw [List.mapM_cons]
    rcases List.mem_cons.1 hw with rfl | hw
    · rw [h]; rfl
    · rw [ih hw]; cases parseNum a <;> rfl
theorem lineOk_bad {f : Bool} {row w : List UInt8} (hw : w ∈ (spl 32 row).tail) (h : parseNum w = none) : lineOk f row = none := by rw [lineOk, mapM_bad hw h]; rfl
theorem lineOk_len {f : Bool} {row : List UInt8} {ns : List Nat} (h : lineOk f row = some ns) : ns.length ≤ row.length := by
  unfold lineOk at h
  cases h1 : (spl 32 row).tail.mapM parseNum with
  | none => rw [h1] at h; cases h
  | some xs =>
    have h2 := mapM_len h1
    have h3 := spl_len 32 row
    rw [List.length_tail] at h2
    rw [h1] at h
    simp only [Option.bind_some] at h
    split at h
    · split at h
      · injection h with h; subst h; omega
      · cases h
    · split at h
      · injection h with h; subst h; omega
      · cases h
theorem lineOk_true {row : List UInt8} {ns : List Nat} (h : (spl 32 row).tail.mapM parseNum = some ns) : lineOk true row = if (spl 32 row).headD [] = wBoard ∧ ns.length = 1 then some ns else none := by rw [lineOk, h]; rfl
theorem lineOk_false {row : List UInt8} {ns : List Nat} (h : (spl 32 row).tail.mapM parseNum = some ns) : lineOk false row = if (spl 32 row).headD [] = wSpot then some ns else none := by rw [lineOk, h]; rfl
theorem stTo_first {rows : List (List UInt8)} {r : List UInt8} {p : Nat × List (List Nat)} (h : stTo rows 0 = some p) (hr : rows[0]? = some r) : stTo rows 1 = (lineOk true r).map fun ns => (ns.headD 0, p.2) := by
  rw [stTo, h, Option.bind_some, if_pos rfl]; simp [List.getD, hr]
theorem stTo_more {rows : List (List UInt8)} {r : List UInt8} {i : Nat} {p : Nat × List (List Nat)} (h : stTo rows i = some p) (hi : i ≠ 0) (hr : rows[i]? = some r) : stTo rows (i + 1) = (lineOk false r).map fun s => (p.1, p.2 ++ [s]) := by
  rw [stTo, h, Option.bind_some, if_neg hi]; simp [List.getD, hr]
theorem stTo_bad {rows : List (List UInt8)} {r : List UInt8} {k : Nat} {p : Nat × List (List Nat)} (h : stTo rows k = some p) (hr : rows[k]? = some r) (hb : ∀ f, lineOk f r = none) : stTo rows (k + 1) = none := by
  cases k with
  | zero => rw [stTo_first h hr, hb]; rfl
  | succ k => rw [stTo_more h (by omega) hr, hb]; rfl
theorem stTo_len {rows : List (List UInt8)} (hr : ∀ r ∈ rows, r.length ≤ 900) : ∀ {i : Nat} {p : Nat × List (List Nat)}, stTo rows i = some p → p.2.length ≤ i ∧ ∀ s ∈ p.2, s.length ≤ 900 := by
  intro i
  induction i with
  | zero => intro p h; injection h with h; subst h; exact ⟨by simp, by simp⟩
  | succ i ih =>
    intro p h
    rw [stTo] at h
    cases h1 : stTo rows i with
    | none => rw [h1] at h; cases h
    | some q =>
      rw [h1, Option.bind_some] at h
      obtain ⟨q1, q2⟩ := ih h1
      split at h
      · cases h2 : lineOk true (rows.getD i []) with
        | none => rw [h2] at h; cases h
        | some ns => rw [h2] at h; injection h with h; subst h; exact ⟨by simp; omega, q2⟩
      · cases h2 : lineOk false (rows.getD i []) with
        | none => rw [h2] at h; cases h
        | some ns =>
          rw [h2] at h
          injection h with h
          subst h
          refine ⟨by simp; omega, fun s hs => ?_⟩
          rcases List.mem_append.1 hs with hs | hs
          · exact q2 s hs
          · rw [List.mem_singleton.1 hs]
            have := lineOk_len h2
            by_cases hi : i < rows.length
            · have e : rows.getD i [] = rows[i] := by simp [List.getD, hi]
              rw [e] at this
              have := hr _ (List.getElem_mem hi)
              omega
            · have e : rows.getD i [] = [] := by simp [List.getD, List.getElem?_eq_none (by omega : rows.length ≤ i)]
              have h0 : ns.length ≤ ([] : List UInt8).length := by rw [e] at this; exact this
              simp only [List.length_nil] at h0; omega

set_option maxRecDepth 100000 in
set_option maxHeartbeats 2000000 in
theorem parsed_any (l : List UInt8) (m : Int) (w : World) (hl : l.length ≤ 900) (hm : w.cell? ⟨1, 0, none⟩ = some (.int .i64 m)) :
    Calls Tryz.prog 110 #[.string (bs l)] w fun e w' => ParsePost l w.heap.size e w' ∧ Ext w w' := by
  have hsp := fun (W : World) (hE : Ext w W) => split_any 10 l m W (by omega) (cell_ext hE hm)
  have hpl := spl_len 10 l
  have hps := @parse_short l
  have Hpa := Lib.hid (fun r (hr : r ∈ spl 10 l) => spl_part hr)
  have Hst := Lib.hid (fun i => @parse_stop l i)
  have hpe : parse l = if (spl 10 l).length < 3 then none else (stTo (spl 10 l) ((spl 10 l).length - 2)).bind fun p => if textB p.1 p.2 = l then some p else none := rfl
  have Hpe := Lib.hid hpe
  have Hps := Lib.hid hps
  have Hsp := Lib.hid hsp
  clear hpe hps hsp
  generalize hR : spl 10 l = R at *
  have hcs := Lib.hid (fun (W : World) i x (h : R[i]? = some x) => cells_str W R h)
  clear hR
  by_cases h3 : R.length < 3
  · have hb3 : decide ((3 : Int) ≤ (R.length : Int)) = false := by rw [decide_eq_false_iff_not]; omega
    go_enter Tryz.func110, Tryz.ntmps110
    go_wp2_with (first | (go_at_call 128; refine (Hsp.out _ ((Ext.refl w).alloc _)).mono ?_; rintro e w1 ⟨rfl, rfl⟩) | (go_at_call 129; refine (sure_bad _ _).mono ?_; rintro e w2 ⟨⟨s2, rfl⟩, rfl⟩))
    exact ⟨rfl, par_bad (Hps.out h3) ⟨s2, rfl⟩, ((Ext.refl w).alloc _).alloc _⟩
  · have hb3 : (3 : Int) ≤ (R.length : Int) := by omega
    go_enter Tryz.func110, Tryz.ntmps110
    go_wp2_with (first | (go_at_call 128; refine (Hsp.out _ ((Ext.refl w).alloc _)).mono ?_; rintro e w1 ⟨rfl, rfl⟩) | (go_at_call 129; refine (sure_ok _ _).mono ?_; rintro e w2 ⟨⟨v2, rfl⟩, rfl⟩) | (go_at_call 130; refine (words_any _).mono ?_; rintro e w3 ⟨rfl, hE3⟩))
    have hEA : Ext w (w3.alloc (.cells #[.string (bs wBoard), .string (bs wSpot)] 144)) := ((((Ext.refl w).alloc _).alloc _).alloc _ |>.trans hE3).alloc _
    have hs3 := hE3.size
    simp only [World.size_alloc] at hs3
    have hrow : ∀ (i : Nat) (x : List UInt8), R[i]? = some x → w3.cell? ⟨w.heap.size + 1, i, none⟩ = some (.string (bs x)) := fun i x hx => by
      have := hcs.out (w.alloc (.cells #[.int .i64 0, .slice none 0 0] 24)) i x hx
      rw [World.size_alloc] at this
      exact cell_ext hE3 (cell_ext ((Ext.refl _).alloc _) this)
    have ha0 : (w3.alloc (.cells #[.string (bs wBoard), .string (bs wSpot)] 144)).cell? ⟨w3.heap.size, 0, none⟩ = some (.string (bs wBoard)) := by go_simp
    have ha1 : (w3.alloc (.cells #[.string (bs wBoard), .string (bs wSpot)] 144)).cell? ⟨w3.heap.size, 1, none⟩ = some (.string (bs wSpot)) := by go_simp
    have hb3' := heap3 w (.cells #[.int .i64 0, .slice none 0 0] 24) (.cells (R.map fun x => Value.string (bs x)).toArray 9) (.cells #[.int .i64 0, .slice none 0 0] 24)
    have hbt : (w3.alloc (.cells #[.string (bs wBoard), .string (bs wSpot)] 144)).heap[w.heap.size + 1 + 1]? = some (.cells #[.int .i64 0, .slice none 0 0] 24 (0, 0)) := ((hE3.alloc _).block _ (by simp)).trans hb3'
    have hps0 : PS w (w3.alloc (.cells #[.string (bs wBoard), .string (bs wSpot)] 144)) (w3.alloc (.cells #[.string (bs wBoard), .string (bs wSpot)] 144)) (w.heap.size + 1 + 1) (w3.heap.size + 1) (0, []) (.slice none 0 0) :=
      ⟨hEA, Turned.refl _ _, by rw [cell_of_row _ _ 0 _ _ _ hbt]; rfl, by rw [cell_of_row _ _ 1 _ _ _ hbt]; rfl, frozen_of_row _ _ 0 _ _ hbt, frozen_of_row _ _ 1 _ _ hbt, ⟨_, hbt⟩, OwnR.nil _ (by omega), by omega, by omega, by simp⟩
    have hE0A : Ext (w.alloc (.cells #[.int .i64 0, .slice none 0 0] 24)) (w3.alloc (.cells #[.string (bs wBoard), .string (bs wSpot)] 144)) := (((Ext.refl _).alloc _).alloc _ |>.trans hE3).alloc _
    have hrt : (w3.alloc (.cells #[.string (bs wBoard), .string (bs wSpot)] 144)).heap[w.heap.size]? = some (.cells #[.int .i64 0, .slice none 0 0] 24 (0, 0)) := (hE0A.block _ (by simp)).trans (heap_alloc_new w _)
    have Hrt := Lib.hid hrt
    clear hE0A hrt
    have Hrow := Lib.hid hrow
    have Ha0 := Lib.hid ha0
    have Ha1 := Lib.hid ha1
    have Hps0 := Lib.hid hps0
    have HEA := Lib.hid hEA
    clear hrow ha0 ha1 hb3' hbt hps0 hEA hE3
    have Hm := Lib.hid hm
    clear hm
    go_loopg [27] (R.length - 2) (fun g i wr => ∃ (k : Nat) (p : Nat × List (List Nat)) (v : Value), k + g = R.length - 2 ∧ i = .int .i64 k ∧ stTo R k = some p ∧ PS w (w3.alloc (.cells #[.string (bs wBoard), .string (bs wSpot)] 144)) wr (w.heap.size + 1 + 1) (w3.heap.size + 1) p v)
    case atStart => exact ⟨0, (0, []), _, by simp, rfl, rfl, Hps0.out⟩
    case round =>
      clear Hps0
      obtain ⟨k, p, v, hk, rfl, hst, ps⟩ := hrel
      have Ps := Lib.hid ps
      have HST := Lib.hid hst
      clear ps hst
      by_cases hlt : k < R.length - 2
      · have hkR : k < R.length := by omega
        have hr0 := Turned.cell Ps.out.turned (by simp) (cell_ext ((Ext.refl w3).alloc (.cells #[.string (bs wBoard), .string (bs wSpot)] 144)) (Hrow.out k R[k] (by simp [hkR])))
        have hrl := Hpa.out _ (List.getElem_mem hkR)
        have hrk : R[k]? = some R[k] := by simp [hkR]
        have Hrk := Lib.hid hrk
        clear hrk
        generalize hr : R[k] = r at *
        clear hr
        obtain ⟨wo, rfl⟩ : ∃ wo : World, wo = wr := ⟨_, rfl⟩
        obtain ⟨g0, rfl⟩ : ∃ g0 : Nat, g0 = gk := ⟨_, rfl⟩
        have hs4 := split_any 32 r m wo (by omega) (cell_ext Ps.out.ext Hm.out)
        have hT := fun ns => @lineOk_true r ns
        have hF := fun ns => @lineOk_false r ns
        have hB := fun f x => @lineOk_bad f r x
        have hW1 := spl_pos 32 r
        have hWl := spl_len 32 r
        have hWp : ∀ x ∈ spl 32 r, x.length ≤ 900 := fun x hx => Nat.le_trans (spl_part hx) (by omega)
        have HT := Lib.hid hT
        have HF := Lib.hid hF
        have HB := Lib.hid hB
        have HWp := Lib.hid hWp
        have hcw := fun i x (h : (spl 32 r)[i]? = some x) => cells_str wo (spl 32 r) h
        have Hcw := Lib.hid hcw
        have Hs4 := Lib.hid hs4
        clear hT hF hB hWp hcw hs4
        generalize hW : spl 32 r = Wd at *
        clear hW
        have hd9 : Wd.length ≤ 9223372036854775807 := by omega
        go_wp2_with (first | (go_at_call 128; refine Hs4.out.mono ?_; rintro e w4 ⟨rfl, rfl⟩))
        all_goals
          go_loopg [9, 37] (Wd.length - 1) (fun g v i wr => ∃ (j : Nat) (ns : List Nat), j + g = Wd.length - 1 ∧ i = .int .i64 j ∧ Ext (wo.alloc (.cells (Wd.map fun x => Value.string (bs x)).toArray 9)) wr ∧ Own wr (wo.heap.size + 1) 3 v ((up ns).map (Value.int .i64)) ∧ (Wd.tail.take j).mapM parseNum = some ns)
          case atStart => exact ⟨0, [], by simp, rfl, Ext.refl _, Own.nil _ _ _, rfl⟩
          case round =>
            obtain ⟨j, ns, hj, rfl, hE5, hown, hmp⟩ := hrel
            have Hown := Lib.hid hown
            have Hmp := Lib.hid hmp
            clear hown hmp
            obtain ⟨wp, rfl⟩ : ∃ wp : World, wp = wr := ⟨_, rfl⟩
            by_cases hlt2 : j < Wd.length - 1
            · first
                | (exfalso; omega)
                | (have hjW : 1 + j < Wd.length := by omega
                   have hcx := cell_ext hE5 (Hcw.out (1 + j) Wd[1 + j] (by simp [hjW]))
                   have hxm : Wd[1 + j] ∈ Wd.tail := by
                     have : Wd.tail[j]? = some Wd[1 + j] := by rw [List.getElem?_tail]; simp [Nat.add_comm, hjW]
                     exact List.mem_of_getElem? this
                   have hx9 := HWp.out _ (List.getElem_mem hjW)
                   have htk : Wd.tail.take (j + 1) = Wd.tail.take j ++ [Wd[1 + j]] := by
                     rw [List.take_succ_eq_append_getElem (by rw [List.length_tail]; omega)]
                     simp [Nat.add_comm]
                   have Htk := Lib.hid htk
                   have Hxm := Lib.hid hxm
                   clear htk hxm
                   generalize hX : Wd[1 + j] = x at *
                   clear hX
                   have hnum := fun W => number_any x W (by omega)
                   have Hnum := Lib.hid hnum
                   clear hnum
                   cases hpn : parseNum x with
                   | none =>
                     have hpar := Hst.out (k + 1) (stTo_bad HST.out Hrk.out fun f => HB.out f x Hxm.out hpn) (by omega)
                     have Hpar := Lib.hid hpar
                     have Hpn := Lib.hid hpn
                     clear hpar hpn
                     go_wp2_with (first | (go_at_call 131; refine (Hnum.out _).mono ?_; rintro e w6 ⟨hnp, hE6⟩; obtain ⟨s6, rfl⟩ := hnp.2 Hpn.out; clear hnp))
                     exact ⟨rfl, par_bad Hpar.out ⟨s6, rfl⟩, (Ps.out.ext.trans (((Ext.refl wo).alloc _).trans hE5)).trans hE6⟩
                   | some n =>
                     have hmn : (Wd.tail.take (j + 1)).mapM parseNum = some (ns ++ [n]) := by rw [Htk.out, mapM_snoc, Hmp.out, hpn]; rfl
                     have hnl : ns.length ≤ 1000 := by
                       have h1 := mapM_len Hmp.out
                       rw [List.length_take, List.length_tail] at h1
                       omega
                     have Hmn := Lib.hid hmn
                     have Hpn := Lib.hid hpn
                     clear hmn hpn
                     go_wp2_with (first | (go_at_call 131; refine (Hnum.out _).mono ?_; rintro e w6 ⟨hnp, hE6⟩; obtain rfl := hnp.1 n Hpn.out; clear hnp) | (at_builtin; refine wpList_app1 _ rfl _ _ 27 rfl 3 Tryz.underlying27 (.int .i64 0) 8 i3 rfl (by decide) (wo.heap.size + 1) _ _ rfl ((Hown.out.ext hE6).ext ((Ext.refl _).alloc _)) w6.heap.size (.int .i64 n) rfl (by go_simp) rfl ?_ ?_ ?_))
                     · simp [up]; omega
                     · have := (hE5.trans hE6).size; simp at this ⊢; omega
                     · intro v' w7 hown7 hBl _
                       have Ho7 := Lib.hid hown7; clear hown7
                       go_wp2
                       go_roundg (gk - 1)
                       case measure => omega
                       case rel => exact ⟨j + 1, ns ++ [n], by omega, by go_num, ((hE5.trans hE6).alloc _).below hBl (by simp), by rw [up_snoc, List.map_append]; exact Ho7.out, Hmn.out⟩)
            · have hjj : Wd.tail.take j = Wd.tail := List.take_of_length_le (by rw [List.length_tail]; omega)
              have hmp := Hmp.out
              rw [hjj] at hmp
              have hlt3 := HT.out ns hmp
              have hlf3 := HF.out ns hmp
              have hnl : ns.length ≤ 1000 := by
                have h1 := mapM_len hmp
                rw [List.length_tail] at h1
                omega
              obtain ⟨oN, cN, hvN, n1, n2, n3, n4⟩ := Hown.out.slice
              have N4 := Lib.hid n4
              clear n4
              rw [List.length_map, up_length] at hvN n1
              subst hvN
              have hEo : Ext wo wp := ((Ext.refl wo).alloc _).trans hE5
              have Ps5 := Lib.hid (Ps.out.next hEo)
              have hc0 := cell_ext hE5 (Hcw.out 0 (Wd.headD []) (by cases Wd with | nil => simp at hW1 | cons a b => rfl))
              have hal0 := Turned.cell Ps5.out.turned (by simp; omega) Ha0.out
              have hal1 := Turned.cell Ps5.out.turned (by simp; omega) Ha1.out
              have Hlt3 := Lib.hid hlt3
              have Hlf3 := Lib.hid hlf3
              clear hlt3 hlf3 hmp Hmp hjj Hcw HWp HB HT HF
              generalize hX0 : Wd.headD [] = x0 at *
              clear hX0
              go_wp2
              refine wp_region_plan (.take 0 <| .take 1 <| .take 2 <| .take 3 <| .only 4 <| .take 5 <| .done) (fun W => Ext wp W) mixed (by kernel_rfl) (by kernel_rfl) rfl (fun _ _ d _ _ h => by cases d <;> exact h) ((Ext.refl wp).drew) ?_
              repeat (first | (refine plan_take (v := ?_) rfl rfl (fun W hW => ?_) ?_; rotate_left; (focus (have dc0 := cell_ext hW hc0; go_simp; first | exact rfl | (split <;> first | exact rfl | (exfalso; omega)) | done)); simp only [Act.put, List.setIfInBounds_toArray, List.set_cons_zero, List.set_cons_succ]) | (refine plan_skip rfl rfl ?_; simp only [Act.put, List.setIfInBounds_toArray, List.set_cons_zero, List.set_cons_succ]))
              refine plan_walk rfl ?_; intro K hK
              go_wp2_with (first | (go_at_call 132; refine (windex_any x0 w3.heap.size _ (cell_ext (Ext.refl wp).drew hal0) (cell_ext (Ext.refl wp).drew hal1)).mono ?_; rintro e w6 ⟨rfl, rfl⟩))
              refine hK _ _ (Ext.refl wp).drew ?_
              repeat (first | (refine plan_take (v := ?_) rfl rfl (fun W hW => ?_) ?_; rotate_left; (focus (skip; go_simp; first | exact rfl | (split <;> first | exact rfl | (exfalso; omega)) | done)); simp only [Act.put, List.setIfInBounds_toArray, List.set_cons_zero, List.set_cons_succ]) | (refine plan_skip rfl rfl ?_; simp only [Act.put, List.setIfInBounds_toArray, List.set_cons_zero, List.set_cons_succ]))
              refine plan_done ?_
              clear hc0 hal0 hal1
              have c0 := Ps5.out.c0
              have c1 := Ps5.out.c1
              have f0 := Ps5.out.f0
              have f1 := Ps5.out.f1
              have hEw : Ext w wp := Ps5.out.ext
              by_cases hk0 : k = 0
              · subst hk0
                have hs1 := stTo_first HST.out Hrk.out
                have hbadA : ¬ (x0 = wBoard ∧ ns.length = 1) → parse l = none := fun h => Hst.out 1 (by rw [hs1, Hlt3.out, if_neg h]; rfl) (by omega)
                have hokA : x0 = wBoard ∧ ns.length = 1 → stTo R 1 = some (ns.headD 0, p.2) := fun h => by rw [hs1, Hlt3.out, if_pos h]; rfl
                have HbadA := Lib.hid hbadA
                have HokA := Lib.hid hokA
                clear hs1 hbadA hokA
                by_cases hx : x0 = wBoard
                · have hli : lineIx x0 = 0 := by rw [lineIx, if_pos hx]
                  by_cases hn1 : ns.length = 1
                  · have hst1 := HokA.out ⟨hx, hn1⟩
                    have Hst1 := Lib.hid hst1
                    clear hst1 hx
                    match ns, hn1 with
                    | [a], _ =>
                      obtain ⟨b0, hoN, _, hca⟩ := N4.out 0 (.int .i64 a) rfl
                      subst hoN
                      go_wp2_with (first | (go_at_call 129; refine (sure_ok _ _).mono ?_; rintro e w7 ⟨⟨v7, rfl⟩, rfl⟩))
                      go_roundg (g0 - 1)
                      case measure => omega
                      case rel => exact ⟨1, ([a].headD 0, p.2), v, by omega, by go_num, Hst1.out, (Ps5.out.setName a).next ((Ext.refl _).drew)⟩
                  · have hn1' : ((ns.length : Int) == 1) = false := by simpa using (by omega : ¬ (ns.length : Int) = 1)
                    have hpar := Lib.hid (HbadA.out fun h => hn1 h.2)
                    clear hx
                    go_wp2_with (first | (go_at_call 129; refine (sure_bad _ _).mono ?_; rintro e w7 ⟨⟨s7, rfl⟩, rfl⟩))
                    exact ⟨rfl, par_bad hpar.out ⟨s7, rfl⟩, hEw.drew⟩
                · have hli : (lineIx x0 == 0) = false := by
                    rw [beq_eq_false_iff_ne]
                    unfold lineIx
                    rw [if_neg hx]
                    split <;> decide
                  have hpar := Lib.hid (HbadA.out fun h => hx h.1)
                  clear hx
                  go_wp2_with (first | (go_at_call 129; refine (sure_bad _ _).mono ?_; rintro e w7 ⟨⟨s7, rfl⟩, rfl⟩))
                  exact ⟨rfl, par_bad hpar.out ⟨s7, rfl⟩, hEw.drew⟩
              · have hk0' : ((k : Int) == 0) = false := by simpa using (by omega : ¬ (k : Int) = 0)
                have hs1 := stTo_more HST.out hk0 Hrk.out
                have hbadA : ¬ (x0 = wSpot) → parse l = none := fun h => Hst.out (k + 1) (by rw [hs1, Hlf3.out, if_neg h]; rfl) (by omega)
                have hokA : x0 = wSpot → stTo R (k + 1) = some (p.1, p.2 ++ [ns]) := fun h => by rw [hs1, Hlf3.out, if_pos h]; rfl
                have HbadA := Lib.hid hbadA
                have HokA := Lib.hid hokA
                clear hs1 hbadA hokA hk0
                by_cases hx : x0 = wSpot
                · have hli : lineIx x0 = 1 := by rw [hx]; decide
                  have hst1 := HokA.out hx
                  have Hst1 := Lib.hid hst1
                  clear hst1 hx
                  have hpl := (stTo_len (fun r hr => Nat.le_trans (Hpa.out r hr) hl) HST.out).1
                  obtain ⟨oV, cV, hv, _⟩ := Ps5.out.own.slice
                  subst hv
                  have hrowE : RowE wp 0 (.slice oN ns.length cN) (up ns) := RowE.of_own Hown.out
                  have HrowE := Lib.hid hrowE
                  clear hrowE
                  have hbs := Ps5.out.size
                  go_wp2_with (first | (go_at_call 129; refine (sure_ok _ _).mono ?_; rintro e w7 ⟨⟨v7, rfl⟩, rfl⟩) | (at_builtin; refine wpList_appR _ rfl _ _ rfl 0 (w3.heap.size + 1) _ p.2 rfl (Ps5.out.own.ext (((Ext.refl wp).alloc _).drew)) wp.heap.size (.slice oN ns.length cN) ns rfl (by go_simp) (HrowE.out.ext (((Ext.refl wp).alloc _).drew)) ?_ ?_ ?_))
                  · omega
                  · simp; omega
                  · intro v' w8 hown8 hBl
                    have hBe : Below (w3.heap.size + 1) wp w8 := Below.trans (((Ext.refl wp).alloc (.cells #[.slice oN ns.length cN] 27)).drew.mono hbs) hBl
                    have d1 := (hBe.cell (p := ⟨w.heap.size + 1 + 1, 1, none⟩) (by simp; omega)).trans c1
                    have d2 := (hBe.frozen (p := ⟨w.heap.size + 1 + 1, 1, none⟩) (by simp; omega)).trans f1
                    have Ps8 := Lib.hid (Ps5.out.setRows (by simp) hBe hown8)
                    obtain ⟨o8, c8, hv8, _⟩ := hown8.slice
                    subst hv8
                    clear hown8 hBl hBe c0 c1 f0 f1
                    go_wp2
                    go_roundg (g0 - 1)
                    case measure => omega
                    case rel => exact ⟨k + 1, (p.1, p.2 ++ [ns]), .slice o8 (p.2.length + 1) c8, by omega, by go_num, Hst1.out, by have := Ps8.out; rw [List.length_append, List.length_singleton] at this; exact this⟩
                · have hli : (lineIx x0 == 1) = false := by
                    rw [beq_eq_false_iff_ne]
                    unfold lineIx
                    rw [if_neg hx]
                    split <;> decide
                  have hpar := Lib.hid (HbadA.out hx)
                  clear hx
                  go_wp2_with (first | (go_at_call 129; refine (sure_bad _ _).mono ?_; rintro e w7 ⟨⟨s7, rfl⟩, rfl⟩))
                  exact ⟨rfl, par_bad hpar.out ⟨s7, rfl⟩, hEw.drew⟩
      · have hkk : k = R.length - 2 := by omega
        have hst1 := HST.out
        have hsm := stTo_small hst1
        obtain ⟨hp1, hp2⟩ := stTo_len (fun r hr => Nat.le_trans (Hpa.out r hr) hl) hst1
        have hpp : parse l = if textB p.1 p.2 = l then some p else none := by rw [Hpe.out, if_neg h3, ← hkk, hst1]; rfl
        obtain ⟨oV, cV, hv, v1, v2, v3, v4⟩ := Ps.out.own.slice
        subst hv
        have hsmall : Small p.1 p.2 := ⟨hsm.1, by omega, fun s hs => ⟨by have := hp2 s hs; omega, hsm.2 s hs⟩⟩
        have htx := fun W (hE : Ext wr W) => text_any p.1 p.2 oV cV W (v4.ext hE) hsmall
        have Htx := Lib.hid htx
        have Hpp := Lib.hid hpp
        have hrtr := Turned.keep' Ps.out.turned (by omega : w.heap.size ≠ w.heap.size + 1 + 1) Hrt.out
        have r0 : wr.cell? ⟨w.heap.size, 0, none⟩ = some (.int .i64 0) := by rw [cell_of_row _ _ 0 _ _ _ hrtr]; rfl
        have r1 : wr.cell? ⟨w.heap.size, 1, none⟩ = some (.slice none 0 0) := by rw [cell_of_row _ _ 1 _ _ _ hrtr]; rfl
        have q0 := frozen_of_row _ _ 0 _ _ hrtr
        have q1 := frozen_of_row _ _ 1 _ _ hrtr
        have Hrtr := Lib.hid hrtr
        have c0 := Ps.out.c0
        have c1 := Ps.out.c1
        clear hst1 hsm hp1 hp2 hpp v4 htx hrtr hkk
        by_cases he : textB p.1 p.2 = l
        · have heq : (textB p.1 p.2 == l) = true := by rw [beq_iff_eq]; exact he
          have hpa : parse l = some p := by rw [Hpp.out, if_pos he]
          have Hpar := Lib.hid hpa
          clear hpa he
          go_wp2_with (first | (go_at_call 108; refine (Htx.out _ (Ext.refl _)).mono ?_; rintro e w9 ⟨rfl, hE9⟩; have r0' := cell_ext hE9 r0; have r1' := cell_ext hE9 r1; have c0' := cell_ext hE9 c0; have c1' := cell_ext hE9 c1; have q0' := (hE9.frozen (World.block_lt_of_cell? _ _ r0)).trans q0; have q1' := (hE9.frozen (World.block_lt_of_cell? _ _ r1)).trans q1; have hrt9 := Lib.hid ((hE9.block _ (Array.getElem?_eq_some_iff.1 Hrtr.out).1).trans Hrtr.out); clear r0 r1 c0 c1 q0 q1) | (go_at_call 129; refine (sure_ok _ _).mono ?_; rintro e w7 ⟨⟨v7, rfl⟩, rfl⟩))
          refine bodyPost_ret (v := .agg #[.int .i64 p.1, .slice oV p.2.length cV]) (results_cell24 rfl _ _ w.heap.size _ _ (by simp) (by go_simp) (by go_simp)) (by simp) ⟨⟨fun n ss hn => ?_, fun hn => by rw [Hpar.out] at hn; cases hn⟩, ?_⟩
          · rw [Hpar.out] at hn
            have hnp : p = (n, ss) := Option.some.inj hn
            obtain ⟨rfl, rfl⟩ : n = p.1 ∧ ss = p.2 := by rw [hnp]; exact ⟨rfl, rfl⟩
            refine ⟨_, rfl, ?_⟩
            have o1 := (Ps.out.own.ext hE9).turned ((Turned.refl w.heap.size w7).set 0 (.int .i64 (p.1 : Nat))) (Nat.zero_le _) (by omega) (tag_set ⟨_, hrt9.out⟩ (by decide))
            have o2 := o1.turned ((Turned.refl w.heap.size _).set 1 (.slice oV p.2.length cV)) (Nat.zero_le _) (by omega) (tag_set (tag_cell _ _ ⟨_, hrt9.out⟩) (by decide))
            exact o2.low (by omega)
          · exact ext_own (ext_own (Ps.out.ext.trans hE9) ((Turned.refl w.heap.size _).set 0 _) (Nat.le_refl _)) ((Turned.refl w.heap.size _).set 1 _) (Nat.le_refl _)
        · have heq : (textB p.1 p.2 == l) = false := by rw [beq_eq_false_iff_ne]; exact he
          have hpa : parse l = none := by rw [Hpp.out, if_neg he]
          have Hpar := Lib.hid hpa
          clear hpa he
          go_wp2_with (first | (go_at_call 108; refine (Htx.out _ (Ext.refl _)).mono ?_; rintro e w9 ⟨rfl, hE9⟩) | (go_at_call 129; refine (sure_bad _ _).mono ?_; rintro e w7 ⟨⟨s7, rfl⟩, rfl⟩))
          exact ⟨rfl, par_bad Hpar.out ⟨s7, rfl⟩, Ps.out.ext.trans hE9⟩

end Go.Proofs.YtiehfpkcaoeieaaGreatDoor
/- Contract: strip.Read. No condition. -/
namespace Go.Proofs.YtiehfpkcaoeieaaGreatDoor
open Go.RowKit Go.My Go.StripM

set_option maxHeartbeats 1000000 in
theorem read1_ok (l : List UInt8) (m : Int) (k q : Nat) (x y : Value) (w : World) (hl : l.length ≤ 900) (hm : w.cell? ⟨1, 0, none⟩ = some (.int .i64 m)) (hk : w.cell? ⟨k, 0, none⟩ = some (.string (bs l)))
    (h0 : w.cell? ⟨q, 0, none⟩ = some x) (h1 : w.cell? ⟨q, 1, none⟩ = some y) (f0 : w.frozen? ⟨q, 0, none⟩ = false) (f1 : w.frozen? ⟨q, 1, none⟩ = false) (tg : ∃ c, w.heap[q]? = some (.cells c 24 (0, 0)))
    (n : Nat) (ss : List (List Nat)) (hp : parse l = some (n, ss)) :
    Calls Tryz.prog 109 #[.pointer (some ⟨k, 0, none⟩), .pointer (some ⟨q, 0, none⟩)] w fun e w' => (∃ v, e = .returned v) ∧ Turned q w w' ∧ ∃ v, w'.cell? ⟨q, 0, none⟩ = some (.int .i64 n) ∧ w'.cell? ⟨q, 1, none⟩ = some v ∧ OwnR w' 0 w.heap.size v ss := by
  have Hp := Lib.hid hp
  clear hp
  have hq := World.block_lt_of_cell? _ _ h0
  simp only at hq
  go_enter Tryz.func109, Tryz.ntmps109
  go_wp2_with (first | (go_at_call 110; refine (parsed_any l m _ hl hm).mono ?_; rintro e w1 ⟨⟨hpo, _⟩, hE⟩; obtain ⟨v, rfl, ho⟩ := hpo n ss Hp.out; obtain ⟨oV, cV, hv, _⟩ := ho.slice; subst hv; have Ho := Lib.hid ho; clear ho hpo; have d0 := cell_ext hE h0; have d1 := cell_ext hE h1; have g0 := (hE.frozen (by exact hq)).trans f0; have g1 := (hE.frozen (by exact hq)).trans f1; clear h0 h1 f0 f1))
  go_end0
  have tg1 : ∃ c, w1.heap[q]? = some (.cells c 24 (0, 0)) := by obtain ⟨c, hc⟩ := tg; exact ⟨c, (hE.block _ hq).trans hc⟩
  exact ⟨⟨_, rfl⟩, ((Turned.of_ext hE).set 0 _).set 1 _, .slice oV ss.length cV, by go_simp, by go_simp, (Ho.out.turned ((Turned.refl q w1).set 0 (.int .i64 n)) (Nat.zero_le _) hq (tag_set tg1 (by decide))).turned ((Turned.refl q _).set 1 _) (Nat.zero_le _) hq (tag_set (tag_cell _ _ tg1) (by decide))⟩

set_option maxHeartbeats 1000000 in
theorem read1_bad (l : List UInt8) (m : Int) (k q : Nat) (w : World) (hl : l.length ≤ 900) (hm : w.cell? ⟨1, 0, none⟩ = some (.int .i64 m)) (hk : w.cell? ⟨k, 0, none⟩ = some (.string (bs l))) (hp : parse l = none) :
    Calls Tryz.prog 109 #[.pointer (some ⟨k, 0, none⟩), .pointer (some ⟨q, 0, none⟩)] w fun e w' => NoText e ∧ Ext w w' := by
  have Hp := Lib.hid hp
  clear hp
  go_enter Tryz.func109, Tryz.ntmps109
  go_wp2_with (first | (go_at_call 110; refine (parsed_any l m _ hl hm).mono ?_; rintro e w1 ⟨⟨_, hpo⟩, hE⟩; obtain ⟨s, rfl⟩ := hpo Hp.out))
  exact ⟨rfl, ⟨s, rfl⟩, hE⟩

theorem enters109 (args : Array Value) (w : World) : (callFunc 109 args).run Tryz.prog w = .ok (.enter 109 args) w := by kernel_rfl

theorem results_cell24t {fn : Func} {p q : Tmp} (h : fn.results = #[.cell p 24, .tmp q]) (tmps : Array Value) (w : World) (b : Nat) (x y z : Value) (hp : tmps.getD p undef = .pointer (some ⟨b, 0, none⟩)) (hq : tmps.getD q undef = z)
    (h0 : w.cell? ⟨b, 0, none⟩ = some x) (h1 : w.cell? ⟨b, 1, none⟩ = some y) : (results fn tmps).run Tryz.prog w = .ok (.tuple #[.agg #[x, y], z]) w := by
  have hp' : tmps[p]?.getD undef = .pointer (some ⟨b, 0, none⟩) := by simpa using hp
  have hq' : tmps[q]?.getD undef = z := by simpa using hq
  have hagg : (isAgg 24).run Tryz.prog w = .ok true w := by kernel_rfl
  have hsz : (sizeOf 24).run Tryz.prog w = .ok 2 w := by kernel_rfl
  have hl : (loadCells ⟨b, 0, none⟩ 2).run Tryz.prog w = .ok #[x, y] w := run_loadCells_list (P := Tryz.prog) w ⟨b, 0, none⟩ [x, y] (fun j v hv => by
    rw [add_none]
    match j, hv with
    | 0, hv => simp at hv; subst hv; simpa using h0
    | 1, hv => simp at hv; subst hv; simpa using h1)
  simp [results, h, hp', hq', asAddr, loadVar, Sem.run_bind, hagg, hsz, hl]

/-- The board that is none. -/
abbrev noBoard : Value := .agg #[.int .i64 0, .slice none 0 0]

set_option maxHeartbeats 1000000 in
theorem read_long (l : List UInt8) (w : World) (hl : ¬ l.length ≤ 130) (hl2 : l.length ≤ 9223372036854775807) : Calls Tryz.prog 66 #[.string (bs l)] w fun e w' => e = .returned (.tuple #[noBoard, .int .i64 3]) ∧ Ext w w' := by
  have hb : (130 : Int) < (l.length : Int) := by omega
  go_enter Tryz.func66, Tryz.ntmps66
  go_wp2
  refine bodyPost_ret (v := .tuple #[noBoard, .int .i64 3]) (results_cell24t rfl _ _ (w.heap.size + 1) _ _ _ (by simp) (by simp) (by go_simp) (by go_simp)) (by simp) ⟨rfl, ((Ext.refl w).alloc _).alloc _⟩

theorem ext2 (w : World) (A B C : Obj) : Ext w (((w.alloc A).alloc B).alloc C) := (((Ext.refl w).alloc _).alloc _).alloc _
abbrev W3 (l : List UInt8) (w : World) : World := ((w.alloc (.cells #[.string (bs l)] 9)).alloc (.cells #[.int .i64 0, .slice none 0 0] 24)).alloc (.cells #[.int .i64 0, .slice none 0 0] 24)
theorem w3_res (l : List UInt8) (w : World) : (W3 l w).heap[w.heap.size + 1]? = some (.cells #[.int .i64 0, .slice none 0 0] 24 (0, 0)) := by
  have := heap_alloc_new (w.alloc (.cells #[.string (bs l)] 9)) (.cells #[.int .i64 0, .slice none 0 0] 24)
  rw [World.size_alloc] at this
  exact (Below.heap_alloc _ _ _ (by simp)).trans this
/-- The box of the result, as it was laid. -/
structure RB (w W : World) : Prop where
  r0 : W.cell? ⟨w.heap.size + 1, 0, none⟩ = some (.int .i64 0)
  r1 : W.cell? ⟨w.heap.size + 1, 1, none⟩ = some (.slice none 0 0)
  q0 : W.frozen? ⟨w.heap.size + 1, 0, none⟩ = false
  q1 : W.frozen? ⟨w.heap.size + 1, 1, none⟩ = false
  tag : ∃ c, W.heap[w.heap.size + 1]? = some (.cells c 24 (0, 0))
theorem RB.of {w W : World} (h : W.heap[w.heap.size + 1]? = some (.cells #[.int .i64 0, .slice none 0 0] 24 (0, 0))) : RB w W :=
  ⟨by rw [cell_of_row _ _ 0 _ _ _ h]; rfl, by rw [cell_of_row _ _ 1 _ _ _ h]; rfl, frozen_of_row _ _ 0 _ _ h, frozen_of_row _ _ 1 _ _ h, ⟨_, h⟩⟩
theorem RB.next {w W W' : World} (h : RB w W) (hE : Ext W W') : RB w W' := by
  have hb := World.block_lt_of_cell? _ _ h.r0
  exact ⟨cell_ext hE h.r0, cell_ext hE h.r1, (hE.frozen (by exact hb)).trans h.q0, (hE.frozen (by exact hb)).trans h.q1, by obtain ⟨c, hc⟩ := h.tag; exact ⟨c, (hE.block _ hb).trans hc⟩⟩

set_option maxHeartbeats 1000000 in
theorem read_text (l : List UInt8) (m : Int) (w : World) (hl : l.length ≤ 130) (hm : w.cell? ⟨1, 0, none⟩ = some (.int .i64 m)) (hp : parse l = none) : Calls Tryz.prog 66 #[.string (bs l)] w fun e w' => e = .returned (.tuple #[noBoard, .int .i64 4]) ∧ Ext w w' := by
  have hb : ¬ ((130 : Int) < (l.length : Int)) := by omega
  have hmf := makeFunc_run
  have hA : Calls Tryz.prog 74 #[.func (.func 109) #[] #[.pointer (some ⟨w.heap.size, 0, none⟩), .pointer (some ⟨w.heap.size + 1 + 1, 0, none⟩)]] (W3 l w) fun e w' => e = .returned (.int .i64 4) ∧ Ext (W3 l w) w' :=
    attempt_text_ext 109 _ _ enters109 (read1_bad l m w.heap.size (w.heap.size + 1 + 1) _ (by omega) (cell_ext ((ext2 w _ _ _).alloc _) hm) (by go_simp) hp)
  have HA := Lib.hid hA
  clear hA hp hm
  go_enter Tryz.func66, Tryz.ntmps66
  go_wp2_with (first | (go_at_call 74; refine HA.out.mono ?_; rintro e w1 ⟨rfl, hE⟩; obtain ⟨r0, r1, q0, q1, _⟩ := (RB.of (w3_res l w)).next hE))
  refine bodyPost_ret (v := .tuple #[noBoard, .int .i64 4]) (results_cell24t rfl _ _ (w.heap.size + 1) _ _ _ (by simp) (by simp) (by go_simp) (by go_simp)) (by simp) ⟨rfl, ?_⟩
  exact ext_own (ext_own ((ext2 w _ _ _).trans hE) ((Turned.refl (w.heap.size + 1) _).set 0 _) (by omega)) ((Turned.refl (w.heap.size + 1) _).set 1 _) (by omega)

theorem attempt_read (l : List UInt8) (m : Int) (w : World) (hl : l.length ≤ 130) (hm : w.cell? ⟨1, 0, none⟩ = some (.int .i64 m)) (n : Nat) (ss : List (List Nat)) (hp : parse l = some (n, ss)) :
    Calls Tryz.prog 74 #[.func (.func 109) #[] #[.pointer (some ⟨w.heap.size, 0, none⟩), .pointer (some ⟨w.heap.size + 1 + 1, 0, none⟩)]] (W3 l w) fun e w' => e = .returned (.int .i64 0) ∧ Ext w w' ∧ RB w w' ∧ w.heap.size + 3 ≤ w'.heap.size ∧
      ∃ v, w'.cell? ⟨w.heap.size + 1 + 1, 0, none⟩ = some (.int .i64 n) ∧ w'.cell? ⟨w.heap.size + 1 + 1, 1, none⟩ = some v ∧ OwnR w' 0 (w.heap.size + 3) v ss := by
  have hb3 := heap3 w (.cells #[.string (bs l)] 9) (.cells #[.int .i64 0, .slice none 0 0] 24) (.cells #[.int .i64 0, .slice none 0 0] 24)
  have hbA : ((W3 l w).alloc (.cells #[.int .i64 0] 28)).heap[w.heap.size + 1 + 1]? = some (.cells #[.int .i64 0, .slice none 0 0] 24 (0, 0)) := (Below.heap_alloc _ _ _ (by simp)).trans hb3
  refine (attempt_ok 109 _ _ (fun w1 => Ext w w1 ∧ RB w w1 ∧ w.heap.size + 4 ≤ w1.heap.size ∧ (∃ c, w1.heap[w.heap.size + 1 + 1 + 1]? = some (.cells c 28 (0, 0))) ∧ ∃ v, w1.cell? ⟨w.heap.size + 1 + 1, 0, none⟩ = some (.int .i64 n) ∧ w1.cell? ⟨w.heap.size + 1 + 1, 1, none⟩ = some v ∧ OwnR w1 0 (w.heap.size + 4) v ss) enters109
    ((read1_ok l m w.heap.size (w.heap.size + 1 + 1) (.int .i64 0) (.slice none 0 0) _ (by omega) (cell_ext ((ext2 w _ _ _).alloc _) hm) (by go_simp) (by rw [cell_of_row _ _ 0 _ _ _ hbA]; rfl) (by rw [cell_of_row _ _ 1 _ _ _ hbA]; rfl) (frozen_of_row _ _ 0 _ _ hbA) (frozen_of_row _ _ 1 _ _ hbA) ⟨_, hbA⟩ n ss hp).mono ?_)).mono ?_
  · rintro e w1 ⟨h1, h2, v, h3, h4, h5⟩
    have hsz := h2.size
    simp only [World.size_alloc] at hsz
    refine ⟨h1, h2.cell (by simp) (by go_simp), (h2.frozen (by simp) (by simp)).trans (by go_simp), ext_own ((ext2 w _ _ _).alloc _) h2 (by omega), ?_, by omega, ⟨_, Turned.keep' h2 (by omega) (by have := heap_alloc_new (W3 l w) (.cells #[.int .i64 0] 28); simpa only [World.size_alloc] using this)⟩, v, h3, h4, h5.low (by simp)⟩
    exact RB.of (Turned.keep' h2 (by omega) ((Below.heap_alloc _ _ _ (by simp)).trans (w3_res l w)))
  · rintro e w' ⟨h1, w1, ⟨h2, h3, h4, h9, v, h5, h6, h7⟩, h8⟩
    have hsz := h8.size
    refine ⟨h1, ext_own h2 h8 (by simp; omega), ?_, by omega, v, Turned.cell h8 (by simp) h5, Turned.cell h8 (by simp) h6, ?_⟩
    · obtain ⟨r0, r1, q0, q1, c, hc⟩ := h3
      exact ⟨Turned.cell h8 (by simp <;> omega) r0, Turned.cell h8 (by simp <;> omega) r1, (Turned.frozen h8 (by simp <;> omega) (by simp <;> omega)).trans q0, (Turned.frozen h8 (by simp <;> omega) (by simp <;> omega)).trans q1, c, Turned.keep' h8 (by simp <;> omega) hc⟩
    · exact (h7.turned h8 (Nat.zero_le _) (by simp) (tag_set (by simpa using h9) (by decide))).low (by omega)

set_option maxHeartbeats 1000000 in
theorem read_arg (l : List UInt8) (m : Int) (w : World) (hl : l.length ≤ 130) (hm : w.cell? ⟨1, 0, none⟩ = some (.int .i64 m)) (n : Nat) (ss : List (List Nat)) (hp : parse l = some (n, ss)) (hbd : boardB (n : Int) (upp ss) = false) :
    Calls Tryz.prog 66 #[.string (bs l)] w fun e w' => e = .returned (.tuple #[noBoard, .int .i64 2]) ∧ Ext w w' := by
  have hb : ¬ ((130 : Int) < (l.length : Int)) := by omega
  have hmf := makeFunc_run
  have hA := attempt_read l m w hl hm n ss hp
  have HA := Lib.hid hA
  clear hA hp hm
  go_enter Tryz.func66, Tryz.ntmps66
  go_wp2_with (first | (go_at_call 74; refine HA.out.mono ?_; rintro e w1 ⟨rfl, hE, hrb, hsz, v, k0, k1, ho⟩; obtain ⟨oV, cV, hv, v1, v2, v3, v4⟩ := ho.slice; subst hv; have Hrb := Lib.hid hrb; have Ho := Lib.hid ho; have V4 := Lib.hid v4; clear v4 hrb ho) | (go_at_call 73; have hib := isBoard_any (n : Int) (upp ss) oV cV w1 V4.out (by rw [upp_length]; unfold maxLen at v2; omega); rw [upp_length, hbd] at hib; refine hib.mono ?_; rintro e w2 ⟨rfl, hE2⟩; obtain ⟨r0, r1, q0, q1, tg⟩ := Hrb.out.next hE2; have k0' := cell_ext hE2 k0; have k1' := cell_ext hE2 k1; clear k0 k1))
  refine bodyPost_ret (v := .tuple #[noBoard, .int .i64 2]) (results_cell24t rfl _ _ (w.heap.size + 1) _ _ _ (by simp) (by simp) (by go_simp) (by go_simp)) (by simp) ⟨rfl, ?_⟩
  exact ext_own (ext_own (hE.trans hE2) ((Turned.refl (w.heap.size + 1) _).set 0 _) (by omega)) ((Turned.refl (w.heap.size + 1) _).set 1 _) (by omega)

set_option maxHeartbeats 1000000 in
theorem read_ok (l : List UInt8) (m : Int) (w : World) (hl : l.length ≤ 130) (hm : w.cell? ⟨1, 0, none⟩ = some (.int .i64 m)) (n : Nat) (ss : List (List Nat)) (hp : parse l = some (n, ss)) (hbd : boardB (n : Int) (upp ss) = true) :
    Calls Tryz.prog 66 #[.string (bs l)] w fun e w' => (∃ v, e = .returned (.tuple #[.agg #[.int .i64 n, v], .int .i64 0]) ∧ IsRows w' v (upp ss)) ∧ Ext w w' := by
  have hb : ¬ ((130 : Int) < (l.length : Int)) := by omega
  have hmf := makeFunc_run
  have hA := attempt_read l m w hl hm n ss hp
  have HA := Lib.hid hA
  clear hA hp hm
  go_enter Tryz.func66, Tryz.ntmps66
  go_wp2_with (first | (go_at_call 74; refine HA.out.mono ?_; rintro e w1 ⟨rfl, hE, hrb, hsz, v, k0, k1, ho⟩; obtain ⟨oV, cV, hv, v1, v2, v3, v4⟩ := ho.slice; subst hv; have Hrb := Lib.hid hrb; have Ho := Lib.hid ho; have V4 := Lib.hid v4; clear v4 hrb ho) | (go_at_call 73; have hib := isBoard_any (n : Int) (upp ss) oV cV w1 V4.out (by rw [upp_length]; unfold maxLen at v2; omega); rw [upp_length, hbd] at hib; refine hib.mono ?_; rintro e w2 ⟨rfl, hE2⟩; obtain ⟨r0, r1, q0, q1, tg⟩ := Hrb.out.next hE2; have k0' := cell_ext hE2 k0; have k1' := cell_ext hE2 k1; clear k0 k1))
  refine bodyPost_ret (v := .tuple #[.agg #[.int .i64 n, .slice oV ss.length cV], .int .i64 0]) (results_cell24t rfl _ _ (w.heap.size + 1) _ _ _ (by simp) (by simp) (by go_simp) (by go_simp)) (by simp) ⟨⟨_, rfl, ?_⟩, ?_⟩
  · have o1 := (Ho.out.ext hE2).turned ((Turned.refl (w.heap.size + 1) w2).set 0 (.int .i64 (n : Nat))) (Nat.zero_le _) (by omega) (tag_set tg (by decide))
    have o2 := o1.turned ((Turned.refl (w.heap.size + 1) _).set 1 (.slice oV ss.length cV)) (Nat.zero_le _) (by omega) (tag_set (tag_cell _ _ tg) (by decide))
    exact o2.rows
  · exact ext_own (ext_own (hE.trans hE2) ((Turned.refl (w.heap.size + 1) _).set 0 _) (by omega)) ((Turned.refl (w.heap.size + 1) _).set 1 _) (by omega)

end Go.Proofs.YtiehfpkcaoeieaaGreatDoor
