/- Contracts of the reference: Levels, Can. No condition beyond boards as defined. -/
import Derived.Test.YtiehfpkcaoeieaaGreatDoorRefAll
set_option linter.unusedVariables false
set_option linter.unusedSimpArgs false
namespace Go.Proofs.YtiehfpkcaoeieaaGreatDoor
open Go.RowKit Go.My Go.StripM

/-- The box of a board, and the row of the levels. -/
structure Lv (n : Nat) (ss : List (List Nat)) (oa : Option Addr) (cap : Nat) (w W : World) (l : List Nat) : Prop where
  bx : Bx n ss oa cap w W
  len : l.length = n
  cell : ∀ i, i < n → W.cell? ⟨w.heap.size + 1, i, none⟩ = some (.int .i64 (l.getD i 0 : Nat))
  froz : ∀ i, i < n → W.frozen? ⟨w.heap.size + 1, i, none⟩ = false
section
variable {n : Nat} {ss : List (List Nat)} {oa : Option Addr} {cap : Nat} {w W W' : World} {l : List Nat}
theorem Lv.next (h : Lv n ss oa cap w W l) (hE : Ext W W') : Lv n ss oa cap w W' l :=
  ⟨h.bx.next hE, h.len, fun i hi => cell_ext hE (h.cell i hi), fun i hi => (hE.frozen (World.block_lt_of_cell? _ _ (h.cell i hi))).trans (h.froz i hi)⟩
theorem Lv.drew (h : Lv n ss oa cap w W l) : Lv n ss oa cap w W.drew l := h.next (Ext.refl W).drew
theorem Lv.set (h : Lv n ss oa cap w W l) (hr : RowsAt w oa (upp ss)) {i : Nat} (hi : i < n) (v : Nat) : Lv n ss oa cap w (W.setCell ⟨w.heap.size + 1, i, none⟩ (.int .i64 v)) (l.set i v) := by
  have hX : Ext w (W.setCell ⟨w.heap.size + 1, i, none⟩ (.int .i64 v)) := ext_own h.bx.ext ((Turned.refl (w.heap.size + 1) W).set i _) (by omega)
  refine ⟨⟨hX, hr.ext hX, ?_, ?_⟩, by rw [List.length_set]; exact h.len, fun j hj => ?_, fun j hj => (World.frozen?_setCell _ _ _ _).trans (h.froz j hj)⟩
  · rw [World.cell?_setCell_other _ _ _ _ (by simp)]; exact h.bx.c0
  · rw [World.cell?_setCell_other _ _ _ _ (by simp)]; exact h.bx.c1
  · by_cases e : i = j
    · subst e
      rw [World.cell?_setCell_same _ _ _ (h.cell i hi), getD_set (by rw [h.len]; exact hi), if_pos rfl]
    · rw [World.cell?_setCell_other _ _ _ _ (fun h2 => e (by injection h2)), h.cell j hj, getD_set (by rw [h.len]; exact hi), if_neg (fun h2 => e h2.symm)]
theorem Lv.ints (h : Lv n ss oa cap w W l) : IntsAt W (some ⟨w.heap.size + 1, 0, none⟩) (up l) := by
  intro i x hx
  simp only [up, List.getElem?_map, Option.map_eq_some_iff] at hx
  obtain ⟨y, hy, rfl⟩ := hx
  have hi := (List.getElem?_eq_some_iff.1 hy).1
  have hc := h.cell i (by rw [← h.len]; exact hi)
  rw [List.getD_eq_getElem?_getD, hy] at hc
  exact ⟨_, 0, rfl, World.block_lt_of_cell? _ _ hc, by rw [Nat.zero_add]; exact hc⟩
end

theorem adj_snoc : ∀ (s : List Nat) (k : Nat) (h : k + 1 < s.length), adj (s.take (k + 2)) = adj (s.take (k + 1)) ++ [(s[k], s[k + 1])]
  | [], k, h => by simp at h
  | [_], k, h => by simp at h
  | a :: b :: s, 0, h => by simp [adj]
  | a :: b :: s, k + 1, h => by
    have ih := adj_snoc (b :: s) k (by simpa using h)
    simp only [List.take_succ_cons] at ih ⊢
    simp only [adj, ih]
    simp
theorem adj_snoc1 (s : List Nat) (j : Nat) (h1 : 1 ≤ j) (h : j < s.length) : adj (s.take (j + 1)) = adj (s.take j) ++ [(s[j - 1], s[j])] := by
  obtain ⟨k, rfl⟩ : ∃ k, j = k + 1 := ⟨j - 1, by omega⟩
  exact adj_snoc s k h
theorem pairs_take_succ {ss : List (List Nat)} {i : Nat} (hi : i < ss.length) : pairs (ss.take (i + 1)) = pairs (ss.take i) ++ adj ss[i] := by
  rw [List.take_succ_eq_append_getElem hi, pairs, List.flatMap_append]; simp [pairs]

theorem mk_row (n : Nat) (hn : n ≤ 6) (W : World) : (Instr.makeSlice 27 (.int .i64 n) (.int .i64 n)).run Tryz.prog W = .ok (.slice (some ⟨W.heap.size, 0, none⟩) n n) (W.alloc (.cells (Array.replicate n (.int .i64 0)) 3)) := by
  rcases (show n = 0 ∨ n = 1 ∨ n = 2 ∨ n = 3 ∨ n = 4 ∨ n = 5 ∨ n = 6 by omega) with rfl | rfl | rfl | rfl | rfl | rfl | rfl <;> kernel_rfl

theorem Lv.start {n : Nat} {ss : List (List Nat)} {oa : Option Addr} {cap : Nat} {w : World} (h : RowsAt w oa (upp ss)) :
    Lv n ss oa cap w ((w.alloc (.cells #[.int .i64 n, .slice oa ss.length cap] 24)).alloc (.cells (Array.replicate n (.int .i64 0)) 3)) (List.replicate n 0) := by
  have hq : (((w.alloc (.cells #[.int .i64 n, .slice oa ss.length cap] 24)).alloc (.cells (Array.replicate n (.int .i64 0)) 3))).heap[w.heap.size + 1]? = some (.cells (Array.replicate n (.int .i64 0)) 3 (0, 0)) := by
    have := heap_alloc_new (w.alloc (.cells #[.int .i64 n, .slice oa ss.length cap] 24)) (.cells (Array.replicate n (.int .i64 0)) 3)
    simpa only [World.size_alloc] using this
  refine ⟨(Bx.start h).next ((Ext.refl _).alloc _), by simp, fun i hi => ?_, fun i hi => ?_⟩
  · rw [World.cell?]
    simp only [hq]
    simp [hi, List.getD]
  · unfold World.frozen?
    simp only [hq]
    simp

/-- The row while it is filled with ones. -/
def onesTo (n i : Nat) : List Nat := List.replicate i 1 ++ List.replicate (n - i) 0
theorem onesTo_succ {n i : Nat} (h : i < n) : (onesTo n i).set i 1 = onesTo n (i + 1) := by
  unfold onesTo
  rw [List.set_append_right _ _ (by simp), List.length_replicate, Nat.sub_self]
  obtain ⟨m, hm⟩ : ∃ m, n - i = m + 1 := ⟨n - i - 1, by omega⟩
  rw [hm, show n - (i + 1) = m by omega, List.replicate_succ, List.set_cons_zero, List.replicate_succ', List.append_assoc]
  rfl

/-- No level is more than this. -/
def Small' (l : List Nat) (c : Nat) : Prop := ∀ i, l.getD i 0 ≤ c
theorem rx_small {st : List Nat × Bool} {p : Nat × Nat} {c : Nat} (h : Small' st.1 c) (hp : p.2 < st.1.length) : Small' (rx st p).1 (c + 1) := by
  unfold rx
  split
  · intro i
    simp only
    rw [getD_set hp]
    split
    · have := h p.1; omega
    · have := h i; omega
  · intro i; have := h i; omega
theorem rx_len (st : List Nat × Bool) (p : Nat × Nat) : (rx st p).1.length = st.1.length := by unfold rx; split <;> simp
theorem fold_rx_len (Q : List (Nat × Nat)) : ∀ st : List Nat × Bool, (Q.foldl rx st).1.length = st.1.length := by
  induction Q with
  | nil => intro st; rfl
  | cons p Q ih => intro st; rw [List.foldl_cons, ih, rx_len]

/-- What the walk of Levels holds after some pairs. -/
structure Lw (n : Nat) (ss : List (List Nat)) (oa : Option Addr) (cap : Nat) (w W : World) (st : List Nat × Bool) (c : Nat) : Prop where
  lv : Lv n ss oa cap w W st.1
  small : Small' st.1 c

def LevPost (q n : Nat) (o : Option (List Nat)) (e : Ending) (w' : World) : Prop :=
  match o with
  | some l => e = .returned (.tuple #[.slice (some ⟨q, 0, none⟩) n n, .bool true]) ∧ l.length = n ∧ IntsAt w' (some ⟨q, 0, none⟩) (up l)
  | none => e = .returned (.tuple #[.slice none 0 0, .bool false])

set_option maxRecDepth 100000 in
set_option maxHeartbeats 4000000 in
theorem levels_r (n : Nat) (ss : List (List Nat)) (oa : Option Addr) (cap : Nat) (w : World) (h : RowsAt w oa (upp ss)) (hn6 : n ≤ 6) (hl6 : ss.length ≤ 6) (hs6 : ∀ s ∈ ss, s.length ≤ 5) (hv : ∀ s ∈ ss, ∀ x ∈ s, x < n) :
    Calls Tryz.prog 88 #[.agg #[.int .i64 n, .slice oa ss.length cap]] w fun e w' => LevPost (w.heap.size + 1) n (levels n ss) e w' ∧ Ext w w' := by
  have hmk := mk_row n hn6
  have Hst := Lib.hid (Lv.start (n := n) (cap := cap) h)
  have H := Lib.hid h
  have Hs6 := Lib.hid hs6
  have Hv := Lib.hid hv
  clear h hs6 hv
  go_enter Tryz.func88, Tryz.ntmps88
  go_wp2
  go_loopg [5] n (fun g i wr => ∃ k : Nat, k + g = n ∧ i = .int .i64 k ∧ Lv n ss oa cap w wr (onesTo n k))
  case atStart => exact ⟨0, by simp, rfl, Hst.out⟩
  case round =>
    obtain ⟨k, hk, rfl, hlv⟩ := hrel
    clear Hst
    by_cases hlt : k < n
    · have ck := hlv.cell k hlt
      have fk := hlv.froz k hlt
      have hlv2 := hlv.set H.out hlt 1
      rw [onesTo_succ hlt] at hlv2
      have Hl2 := Lib.hid hlv2
      clear hlv hlv2
      go_wp2
      go_roundg (gk - 1)
      case measure => omega
      case rel => exact ⟨k + 1, by omega, by go_num, Hl2.out⟩
    · obtain rfl : k = n := by omega
      have hones : onesTo k k = List.replicate k 1 := by simp [onesTo]
      rw [hones] at hlv
      have Hlv := Lib.hid hlv
      clear hlv hones
      have hl7 : levT ss (k + 1) (List.replicate k 1) = levels k ss := rfl
      have Hl7 := Lib.hid hl7
      clear hl7
      go_wp2
      go_loopg [6] (k + 1) (fun g i wr => ∃ (t : Nat) (l : List Nat), t + g = k + 1 ∧ i = .int .i64 t ∧ Lv k ss oa cap w wr l ∧ levT ss (k + 1 - t) l = levels k ss ∧ Small' l (1 + t * 36))
      case atStart => exact ⟨0, _, by omega, rfl, Hlv.out, Hl7.out, fun i => by simp only [List.getD_eq_getElem?_getD, List.getElem?_replicate]; split <;> simp⟩
      case round =>
        clear Hlv Hl7
        obtain ⟨t, l, ht, rfl, hlv, hlev, hsm⟩ := hrel
        obtain ⟨g0, rfl⟩ : ∃ g0 : Nat, g0 = gk := ⟨_, rfl⟩
        have c0 := hlv.bx.c0
        have Hlv := Lib.hid hlv
        have Hlev := Lib.hid hlev
        have Hsm := Lib.hid hsm
        clear hlv hlev hsm
        by_cases htn : t ≤ k
        · have htI : (t : Int) ≤ (k : Int) := by omega
          go_wp2
          go_loopg [7, 8] ss.length (fun g c v wr => ∃ i : Nat, i + g = ss.length ∧ v = .int .i64 i ∧ c = .bool ((pairs (ss.take i)).foldl rx (l, false)).2 ∧ Lv k ss oa cap w wr ((pairs (ss.take i)).foldl rx (l, false)).1 ∧ Small' ((pairs (ss.take i)).foldl rx (l, false)).1 (1 + t * 36 + i * 6))
          case atStart => exact ⟨0, by simp, rfl, rfl, Hlv.out, fun j => by have := Hsm.out j; simpa [pairs] using this⟩
          case round =>
            clear c0 Hlv
            obtain ⟨i, hi, rfl, rfl, hlv, hsm⟩ := hrel
            obtain ⟨g1, rfl⟩ : ∃ g1 : Nat, g1 = gk := ⟨_, rfl⟩
            have c1 := hlv.bx.c1
            by_cases hil : i < ss.length
            · obtain ⟨s, hse⟩ : ∃ s, s = ss[i] := ⟨_, rfl⟩
              have hget : ss[i]? = some s := by simp [hil, hse]
              have hmem : s ∈ ss := List.mem_of_getElem? hget
              have hsl := Hs6.out s hmem
              have hsv := Hv.out s hmem
              have hps : pairs (ss.take (i + 1)) = pairs (ss.take i) ++ adj s := by rw [pairs_take_succ hil, hse]
              have Hps := Lib.hid hps
              have Hsv := Lib.hid hsv
              generalize hST : (pairs (ss.take i)).foldl rx (l, false) = ST at *
              have Hst := Lib.hid hST
              have Hlv := Lib.hid hlv
              have Hsm2 := Lib.hid hsm
              have Hget := Lib.hid hget
              clear hse hget hmem hsv hps hST hlv hsm
              obtain ⟨stl, stc⟩ := ST
              go_wp2
              go_loopg [7, 9] s.length (fun g c v wr => ∃ j : Nat, 1 ≤ j ∧ j + g = s.length + 1 ∧ v = .int .i64 j ∧ c = .bool ((adj (s.take j)).foldl rx (stl, stc)).2 ∧ Lv k ss oa cap w wr ((adj (s.take j)).foldl rx (stl, stc)).1 ∧ Small' ((adj (s.take j)).foldl rx (stl, stc)).1 (1 + t * 36 + i * 6 + j))
              case atStart =>
                have h1 : adj (s.take 1) = [] := by cases s <;> simp [adj]
                exact ⟨1, by omega, by omega, rfl, by rw [h1]; rfl, by rw [h1]; exact Hlv.out, by rw [h1]; intro j; have := Hsm2.out j; simp only [List.foldl_nil] at *; omega⟩
              case round =>
                clear Hlv c1
                obtain ⟨j, hj1, hj, rfl, rfl, hlv, hsm⟩ := hrel
                generalize hSU : (adj (s.take j)).foldl rx (stl, stc) = SU at *
                have Hsu := Lib.hid hSU
                have c1 := hlv.bx.c1
                by_cases hjl : j < s.length
                · obtain ⟨b, off, os, cs, hoa, _, hcell, _, _, _, hint⟩ := rows_get hlv.bx.rows Hget.out
                  subst hoa
                  obtain ⟨b1, off1, ho1, _, hx1⟩ := hint.at (k := j) (by rw [up_length]; exact hjl)
                  obtain ⟨b2, off2, ho2, _, hx2⟩ := hint.at (k := j - 1) (by rw [up_length]; omega)
                  subst ho1
                  obtain ⟨rfl, rfl⟩ : b2 = b1 ∧ off2 = off1 := by simpa using ho2.symm
                  have ev1 : (up s)[j]'(by rw [up_length]; exact hjl) = ((s[j] : Nat) : Int) := by simp [up]
                  have ev2 : (up s)[j - 1]'(by rw [up_length]; omega) = ((s[j - 1] : Nat) : Int) := by simp [up]
                  rw [ev1] at hx1
                  rw [ev2] at hx2
                  have hsn := adj_snoc1 s j hj1 hjl
                  have hv1 := Hsv.out _ (List.getElem_mem hjl)
                  have hv2 := Hsv.out _ (List.getElem_mem (show j - 1 < s.length by omega))
                  have hfold : (adj (s.take (j + 1))).foldl rx (stl, stc) = rx SU (s[j - 1], s[j]) := by
                    rw [hsn, List.foldl_append, hSU]; rfl
                  have Hfold := Lib.hid hfold
                  clear hfold hsn ev1 ev2 ho2 hint hSU
                  generalize s[j] = y at *
                  generalize s[j - 1] = x at *
                  obtain ⟨sl, sc⟩ := SU
                  replace hlv : Lv k ss _ cap w wr sl := hlv
                  replace hsm : Small' sl _ := hsm
                  have ly := hlv.cell y hv1
                  have lx := hlv.cell x hv2
                  have fy := hlv.froz y hv1
                  have hbx := hsm x
                  have hlen := hlv.len
                  have Hlv := Lib.hid hlv
                  have hsm3 := rx_small (st := (sl, sc)) (p := (x, y)) hsm (by rw [hlv.len]; exact hv1)
                  have Hsm3 := Lib.hid hsm3
                  have Hset := Lib.hid ((hlv.drew.drew).set H.out hv1 (sl.getD x 0 + 1))
                  clear hlv hsm hsm3
                  obtain ⟨X, hX⟩ : ∃ X, X = sl.getD x 0 := ⟨_, rfl⟩
                  obtain ⟨Y, hY⟩ : ∃ Y, Y = sl.getD y 0 := ⟨_, rfl⟩
                  rw [← hX] at lx hbx Hset
                  rw [← hY] at ly
                  have HX := Lib.hid hX
                  have HY := Lib.hid hY
                  clear hX hY
                  have e1 : IntKind.i64.wrap ((j : Int) - 1) = ((j - 1 : Nat) : Int) := by rw [IntWalk.i64_in _ (by omega)]; omega
                  have e2 : ((j - 1 : Nat) : Int) < (s.length : Int) := by omega
                  have e3 : (0 : Int) ≤ ((j - 1 : Nat) : Int) := by omega
                  go_wp2_with fail
                  refine wp_region_plan (.take 0 <| .take 1 <| .take 2 <| .take 3 <| .take 4 <| .take 5 <| .take 6 <| .take 7 <| .take 8 <| .take 9 <| .take 10 <| .take 11 <| .take 12 <| .take 13 <| .take 14 <| .take 15 <| .take 16 <| .take 17 <| .take 18 <| .done) (fun W => Ext wr W) mixed (by kernel_rfl) (by kernel_rfl) rfl (fun _ _ d _ _ h => by cases d <;> exact h) ((Ext.refl wr).drew) ?_
                  repeat (first | (refine plan_take (v := ?_) rfl rfl (fun W hW => ?_) ?_; rotate_left; (focus (have d1 := cell_ext hW c1; have d2 := cell_ext hW hcell; have d3 := cell_ext hW hx1; have d4 := cell_ext hW hx2; go_simp; first | exact rfl | (split <;> first | exact rfl | (exfalso; omega)) | done)); simp only [Act.put, List.setIfInBounds_toArray, List.set_cons_zero, List.set_cons_succ]) | (refine plan_skip rfl rfl ?_; simp only [Act.put, List.setIfInBounds_toArray, List.set_cons_zero, List.set_cons_succ]))
                  refine plan_done ?_
                  clear e1 e2 e3
                  have ly1 := cell_ext (Ext.refl wr).drew ly
                  have lx1 := cell_ext (Ext.refl wr).drew lx
                  go_wp2_with fail
                  refine wp_region_plan (.take 0 <| .take 1 <| .take 2 <| .take 3 <| .take 4 <| .take 5 <| .take 6 <| .take 7 <| .take 8 <| .done) (fun W => Ext wr.drew W) mixed (by kernel_rfl) (by kernel_rfl) rfl (fun _ _ d _ _ h => by cases d <;> exact h) ((Ext.refl wr.drew).drew) ?_
                  repeat (first | (refine plan_take (v := ?_) rfl rfl (fun W hW => ?_) ?_; rotate_left; (focus (have d1 := cell_ext hW ly1; have d2 := cell_ext hW lx1; go_simp; first | exact rfl | (split <;> first | exact rfl | (exfalso; omega)) | done)); simp only [Act.put, List.setIfInBounds_toArray, List.set_cons_zero, List.set_cons_succ]) | (refine plan_skip rfl rfl ?_; simp only [Act.put, List.setIfInBounds_toArray, List.set_cons_zero, List.set_cons_succ]))
                  refine plan_done ?_
                  have ly2 := cell_ext (Ext.refl wr.drew).drew ly1
                  have lx2 := cell_ext (Ext.refl wr.drew).drew lx1
                  have fy2 : wr.drew.drew.frozen? ⟨w.heap.size + 1, y, none⟩ = false := by
                    have := (Hlv.out.drew.drew).froz y hv1
                    exact this
                  by_cases hle : Y ≤ X
                  · have hrx : rx (sl, sc) (x, y) = (sl.set y (X + 1), true) := by unfold rx; rw [if_pos (by show sl.getD y 0 ≤ sl.getD x 0; rw [← HX.out, ← HY.out]; exact hle), HX.out]
                    rw [hrx] at Hfold Hsm3
                    have hleI : (Y : Int) ≤ (X : Int) := by omega
                    clear hle hrx
                    go_wp2
                    go_roundg (gk - 1)
                    case measure => omega
                    case rel => exact ⟨j + 1, by omega, by omega, by go_num, by rw [Hfold.out], by rw [Hfold.out]; exact Hset.out, by rw [Hfold.out]; exact Hsm3.out⟩
                  · have hrx : rx (sl, sc) (x, y) = (sl, sc) := by unfold rx; rw [if_neg (by show ¬ sl.getD y 0 ≤ sl.getD x 0; rw [← HX.out, ← HY.out]; exact hle)]
                    rw [hrx] at Hfold Hsm3
                    have hleI : ¬ ((Y : Int) ≤ (X : Int)) := by omega
                    clear hle hrx
                    go_wp2
                    go_roundg (gk - 1)
                    case measure => omega
                    case rel => exact ⟨j + 1, by omega, by omega, by go_num, by rw [Hfold.out], by rw [Hfold.out]; exact Hlv.out.drew.drew, by rw [Hfold.out]; exact Hsm3.out⟩
                · have htake : s.take j = s := List.take_of_length_le (by omega)
                  rw [htake] at Hsu
                  have hnx : (pairs (ss.take (i + 1))).foldl rx (l, false) = SU := by rw [Hps.out, List.foldl_append, Hst.out]; exact Hsu.out
                  have Hnx := Lib.hid hnx
                  have Hlv := Lib.hid hlv
                  have Hsm4 := Lib.hid hsm
                  obtain ⟨b, off, os, cs, hoa, _, hcell, _, _, _, _⟩ := rows_get hlv.bx.rows Hget.out
                  subst hoa
                  clear hnx hlv hsm hSU
                  go_wp2
                  go_roundg (g1 - 1)
                  case measure => omega
                  case rel => exact ⟨i + 1, by omega, by go_num, by rw [Hnx.out], by rw [Hnx.out]; exact Hlv.out, by rw [Hnx.out]; intro z; have := Hsm4.out z; omega⟩
            · have htake : ss.take i = ss := List.take_of_length_le (by omega)
              rw [htake] at hlv hsm
              have hturn : turn ss l = (pairs ss).foldl rx (l, false) := rfl
              obtain ⟨m, hm⟩ : ∃ m, k + 1 - t = m + 1 := ⟨k - t, by omega⟩
              have hlv7 := Hlev.out
              rw [hm, levT, hturn] at hlv7
              rw [htake]
              generalize (pairs ss).foldl rx (l, false) = ST at *
              obtain ⟨stl, stc⟩ := ST
              have Hlv := Lib.hid hlv
              have Hsm5 := Lib.hid hsm
              have Hlv7 := Lib.hid hlv7
              clear hlv hsm hlv7 hturn
              cases stc
              · have hz := Hlv7.out
                simp only [Bool.false_eq_true, if_false] at hz
                have Hz := Lib.hid hz.symm
                clear hz
                go_wp2
                go_ret2
                exact ⟨by rw [Hz.out]; exact ⟨rfl, Hlv.out.len, Hlv.out.ints⟩, Hlv.out.bx.ext⟩
              · have hz := Hlv7.out
                simp only [if_true] at hz
                have Hz := Lib.hid hz
                clear hz
                go_wp2
                go_roundg (g0 - 1)
                case measure => omega
                case rel => exact ⟨t + 1, stl, by omega, by go_num, Hlv.out, by rw [show k + 1 - (t + 1) = m by omega]; exact Hz.out, by intro z; have := Hsm5.out z; omega⟩
        · have htk : t = k + 1 := by omega
          subst htk
          have hz : levels k ss = none := by rw [← Hlev.out, Nat.sub_self]; rfl
          have htI : ¬ (((k + 1 : Nat) : Int) ≤ (k : Int)) := by omega
          have Hz := Lib.hid hz
          have HX := Lib.hid Hlv.out.bx.ext
          clear hz
          go_wp2
          go_ret2
          exact ⟨by rw [Hz.out]; exact rfl, HX.out⟩

end Go.Proofs.YtiehfpkcaoeieaaGreatDoor
