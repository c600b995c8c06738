/- Contract of the reference: Next. No condition beyond boards as defined. -/
import Derived.Test.YtiehfpkcaoeieaaGreatDoorRefWord
set_option linter.unusedVariables false
set_option linter.unusedSimpArgs false
namespace Go.Proofs.YtiehfpkcaoeieaaGreatDoor
open Go.RowKit Go.My Go.StripM

/-- The best of some triples, as the reference holds it. -/
def nxI : List (Nat × Nat × Nat) → Int × Int × Int
  | [] => (0, 0, -1)
  | t :: ts => ((bestT t ts).1, (bestT t ts).2.1, (bestT t ts).2.2)
theorem nxI_snoc (P : List (Nat × Nat × Nat)) (x : Nat × Nat × Nat) : nxI (P ++ [x]) = if (nxI P).2.2 < 0 ∨ (x.2.2 : Int) < (nxI P).2.2 then ((x.1 : Int), (x.2.1 : Int), (x.2.2 : Int)) else nxI P := by
  cases P with
  | nil => simp [nxI, bestT]
  | cons t ts =>
    have h1 : bestT t (ts ++ [x]) = if x.2.2 < (bestT t ts).2.2 then x else bestT t ts := by rw [bestT, List.foldl_append]; rfl
    rw [List.cons_append, nxI, h1]
    by_cases h : x.2.2 < (bestT t ts).2.2
    · rw [if_pos h, if_pos (.inr (by simp only [nxI]; omega))]
    · rw [if_neg h, if_neg (by simp only [nxI]; omega), nxI]
theorem results_tmp3 {fn : Func} {t u v : Tmp} (h : fn.results = #[.tmp t, .tmp u, .tmp v]) (tmps : Array Value) (P : Program) (w : World) :
    (results fn tmps).run P w = .ok (.tuple #[tmps.getD t undef, tmps.getD u undef, tmps.getD v undef]) w := by
  simp [results, h]
theorem nxI_range : ∀ (P : List (Nat × Nat × Nat)) (c : Nat), (∀ x ∈ P, x.2.2 ≤ c) → -1 ≤ (nxI P).2.2 ∧ (nxI P).2.2 ≤ c
  | [], c, _ => by simp [nxI] <;> omega
  | t :: ts, c, h => by
    have := h _ (bestT_mem ts t)
    simp only [nxI]
    omega

set_option maxRecDepth 100000 in
set_option maxHeartbeats 4000000 in
theorem next_r (n : Nat) (ss : List (List Nat)) (oa : Option Addr) (cap : Nat) (w : World) (h : RowsAt w oa (upp ss)) (g : Good n ss) (h2 : 2 ≤ n) :
    Calls Tryz.prog 44 #[.agg #[.int .i64 n, .slice oa ss.length cap]] w fun e w' => e = .returned (.tuple #[.int .i64 (nextOf n ss).1, .int .i64 (nextOf n ss).2.1, .int .i64 (nextOf n ss).2.2]) ∧ Ext w w' := by
  have hE1 := (Ext.refl w).alloc (.cells #[.int .i64 n, .slice oa ss.length cap] 24)
  have Ha := Lib.hid (all_cnt n ss oa cap _ (h.ext hE1) g)
  have hc7 := cnt_720 g.le g.valid
  have Q90 := Lib.hid (fun (W : World) (ol : Option Addr) (cl a b : Nat) (hr : RowsAt W ol (upp (all n ss))) (ha : a < n) (hb : b < n) => firsts_r n g.le (all n ss) ol (cnt n ss) cl a b W (cnt_all g.valid).symm hr (by omega) (fun o ho => (mem_all.1 ho).1) ha hb)
  have Hx := Lib.hid (fun a b (ha : a < n) (hb : b < n) (hne : a ≠ b) => (firsts_cnt (n := n) (ss := ss) g.valid ha hb hne))
  have Hle := Lib.hid (fun a b (ha : a < n) (hb : b < n) (hne : a ≠ b) => cnt_with_le g (pair_names ha hb hne))
  have hn6 := g.le
  have Hrng := Lib.hid (fun (P : List (Nat × Nat × Nat)) (hP : ∀ x ∈ P, x.2.2 ≤ cnt n ss) => nxI_range P (cnt n ss) hP)
  have Htr : Hid (∀ a b, a < n → b < n → a ≠ b → (trip n ss a b).2.2 ≤ cnt n ss) := Lib.hid (fun a b ha hb hne => by have := cnt_with_le g (pair_names ha hb hne); simp only [trip]; omega)
  have hfin : nxI (allT n ss n) = (((nextOf n ss).1 : Int), ((nextOf n ss).2.1 : Int), ((nextOf n ss).2.2 : Int)) := by
    have hm : trip n ss 0 1 ∈ allT n ss n := mem_allT.2 ⟨0, 1, by omega, by omega, rfl⟩
    unfold nextOf
    cases hT : allT n ss n with
    | nil => rw [hT] at hm; cases hm
    | cons t ts => simp [nxI]
  have Hfin := Lib.hid hfin
  clear h g hfin
  obtain ⟨c, hcc⟩ : ∃ c, c = cnt n ss := ⟨_, rfl⟩
  rw [← hcc] at Ha hc7 Q90 Hx Hle Hrng Htr
  have Hcc := Lib.hid hcc
  clear hcc
  go_enter Tryz.func44, Tryz.ntmps44
  go_wp2_with (first | (go_at_call 27; refine Ha.out.mono ?_; rintro e w1 ⟨⟨ol, cl, rfl, hcl, hro⟩, hE2⟩; have Hro := Lib.hid hro; clear hro))
  go_loopg [6, 7, 8, 9] n (fun g u v x i wr => ∃ k : Nat, k + g = n ∧ i = .int .i64 k ∧ u = .int .i64 (nxI (allT n ss k)).1 ∧ v = .int .i64 (nxI (allT n ss k)).2.1 ∧ x = .int .i64 (nxI (allT n ss k)).2.2 ∧ Ext w1 wr ∧ ∀ y ∈ allT n ss k, y.2.2 ≤ c)
  case atStart => exact ⟨0, by simp, rfl, rfl, rfl, rfl, Ext.refl _, fun y hy => by simp [allT] at hy⟩
  case round =>
    obtain ⟨i, hi, rfl, rfl, rfl, rfl, hE, hall⟩ := hrel
    obtain ⟨g0, rfl⟩ : ∃ g0 : Nat, g0 = gk := ⟨_, rfl⟩
    have hE3 := hE2.trans hE
    have c0 : wr.cell? ⟨w.heap.size, 0, none⟩ = some (.int .i64 n) := cell_ext hE3 (by go_simp)
    have Hall := Lib.hid hall
    clear hall
    by_cases hin : i < n
    · have hst : allT n ss i ++ rowT n ss i (i + 1) = allT n ss i := by rw [rowT_start, List.append_nil]
      have Hst := Lib.hid hst
      have hend := allT_succ n ss i
      have Hend := Lib.hid hend
      clear hst hend
      generalize hP : allT n ss i = P at *
      clear hP
      go_wp2
      go_loopg [6, 7, 8, 10] n (fun g u v x k wr => ∃ j : Nat, i + 1 ≤ j ∧ j + g = n + i + 1 ∧ j ≤ n ∧ k = .int .i64 j ∧ u = .int .i64 (nxI (P ++ rowT n ss i j)).1 ∧ v = .int .i64 (nxI (P ++ rowT n ss i j)).2.1 ∧ x = .int .i64 (nxI (P ++ rowT n ss i j)).2.2 ∧ Ext w1 wr ∧ ∀ y ∈ P ++ rowT n ss i j, y.2.2 ≤ c)
      case atStart => exact ⟨i + 1, by omega, by omega, by omega, by go_num, by rw [Hst.out], by rw [Hst.out], by rw [Hst.out], hE, by rw [Hst.out]; exact Hall.out⟩
      case round =>
        clear c0 hE hE3
        obtain ⟨j, hj1, hj2, hjn, rfl, rfl, rfl, rfl, hE, hall⟩ := hrel
        have hE3 := hE2.trans hE
        have c0 : wr.cell? ⟨w.heap.size, 0, none⟩ = some (.int .i64 n) := cell_ext hE3 (by go_simp)
        have hrng := Hrng.out _ hall
        by_cases hlt : j < n
        · have hf := Q90.out wr ol cl i j (Hro.out.ext hE) hin hlt
          rw [Hx.out i j hin hlt (by omega)] at hf
          have hxle := Hle.out i j hin hlt (by omega)
          have htr := Htr.out i j hin hlt (by omega)
          have hnx := nxI_snoc (P ++ rowT n ss i j) (trip n ss i j)
          rw [List.append_assoc, ← rowT_succ n ss i j (by omega)] at hnx
          have hall2 : ∀ y ∈ P ++ rowT n ss i (j + 1), y.2.2 ≤ c := by
            rw [rowT_succ n ss i j (by omega), ← List.append_assoc]
            intro y hy
            rcases List.mem_append.1 hy with hy | hy
            · exact hall y hy
            · simp only [List.mem_singleton] at hy; rw [hy]; exact htr
          have Hall2 := Lib.hid hall2
          have Hf := Lib.hid hf
          simp only [trip, ← Hcc.out] at hnx
          clear hall hall2 hf htr
          generalize cnt n (ss ++ [[i, j]]) = X at *
          generalize hO : nxI (P ++ rowT n ss i j) = O at *
          generalize hM : max X (c - X) = M at *
          have hMi : max (X : Int) ((c : Int) - (X : Int)) = (M : Int) := by omega
          clear hO hM
          obtain ⟨o1, o2, o3⟩ := O
          simp only at hrng hnx
          by_cases hbr : o3 < 0
          · rw [if_pos (.inl hbr)] at hnx
            have Hnx := Lib.hid hnx
            clear hnx
            go_wp2_with (first | (go_at_call 90; refine Hf.out.mono ?_; rintro e w2 ⟨rfl, hE4⟩))
            go_roundg (gk - 1)
            case measure => omega
            case rel => exact ⟨j + 1, by omega, by omega, by omega, by go_num, by rw [Hnx.out], by rw [Hnx.out], by rw [Hnx.out], hE.trans hE4, Hall2.out⟩
          · by_cases hbr2 : (M : Int) < o3
            · rw [if_pos (.inr hbr2)] at hnx
              have Hnx := Lib.hid hnx
              clear hnx
              go_wp2_with (first | (go_at_call 90; refine Hf.out.mono ?_; rintro e w2 ⟨rfl, hE4⟩))
              go_roundg (gk - 1)
              case measure => omega
              case rel => exact ⟨j + 1, by omega, by omega, by omega, by go_num, by rw [Hnx.out], by rw [Hnx.out], by rw [Hnx.out], hE.trans hE4, Hall2.out⟩
            · rw [if_neg (by omega)] at hnx
              have Hnx := Lib.hid hnx
              clear hnx
              go_wp2_with (first | (go_at_call 90; refine Hf.out.mono ?_; rintro e w2 ⟨rfl, hE4⟩))
              go_roundg (gk - 1)
              case measure => omega
              case rel => exact ⟨j + 1, by omega, by omega, by omega, by go_num, by rw [Hnx.out], by rw [Hnx.out], by rw [Hnx.out], hE.trans hE4, Hall2.out⟩
        · obtain rfl : j = n := by omega
          have hnx : nxI (allT j ss (i + 1)) = nxI (P ++ rowT j ss i j) := by rw [Hend.out]
          have Hnx := Lib.hid hnx
          have Hall2 : Hid (∀ y ∈ allT j ss (i + 1), y.2.2 ≤ c) := Lib.hid (by rw [Hend.out]; exact hall)
          clear hnx hall
          generalize nxI (P ++ rowT j ss i j) = O at *
          obtain ⟨o1, o2, o3⟩ := O
          go_wp2
          go_roundg (g0 - 1)
          case measure => omega
          case rel => exact ⟨i + 1, by omega, by go_num, by rw [Hnx.out], by rw [Hnx.out], by rw [Hnx.out], hE, Hall2.out⟩
    · obtain rfl : i = n := by omega
      have hz := Hfin.out
      generalize nxI (allT i ss i) = O at *
      subst hz
      go_wp2
      refine bodyPost_ret (results_tmp3 rfl _ _ _) (by simp) ⟨by simp, hE1.trans hE3⟩

end Go.Proofs.YtiehfpkcaoeieaaGreatDoor
