/- Contract of the reference: Clash. No condition beyond boards as defined. -/
import Derived.Test.YtiehfpkcaoeieaaGreatDoorRefCh
set_option linter.unusedVariables false
set_option linter.unusedSimpArgs false
namespace Go.Proofs.YtiehfpkcaoeieaaGreatDoor
open Go.RowKit Go.My Go.StripM

theorem lists_pick : ∀ m : Fin 7, ∀ l ∈ listsOf m.1, (List.range m.1).filter (fun i => decide (i ∈ l) == true) = l ∧ (∀ i ∈ l, i < m.1) ∧ l.length ≤ 6 := by decide +kernel
theorem chs_lists {m d : Nat} (hm : m ≤ 6) (hd : d ≤ m) {l : List Nat} (h : l ∈ chs m d []) : l ∈ listsOf m := by
  rw [listsOf_chs hm]
  exact List.mem_flatMap.2 ⟨d, List.mem_range.2 (by omega), h⟩
theorem pick_only {ss : List (List Nat)} {l : List Nat} (hm : ss.length ≤ 6) (h : l ∈ listsOf ss.length) : pickTo ss l true ss.length = onlyN ss l := by
  have := (lists_pick ⟨ss.length, by omega⟩ l h).1
  simp only at this
  rw [pickTo, this, onlyN]
theorem lists_lt {m : Nat} (hm : m ≤ 6) {l : List Nat} (h : l ∈ listsOf m) : (∀ i ∈ l, i < m) ∧ l.length ≤ 6 := (lists_pick ⟨m, by omega⟩ l h).2
theorem only_mem {ss : List (List Nat)} {l : List Nat} (h : ∀ i ∈ l, i < ss.length) {s : List Nat} (hs : s ∈ onlyN ss l) : s ∈ ss := by
  obtain ⟨i, hi, rfl⟩ := List.mem_map.1 hs
  have := h i hi
  simp only [List.getD, List.getElem?_eq_getElem this, Option.getD_some]
  exact List.getElem_mem this
theorem find_congr {α : Type} {p q : α → Bool} : ∀ {L : List α}, (∀ x ∈ L, p x = q x) → L.find? p = L.find? q
  | [], _ => rfl
  | x :: L, h => by
    rw [List.find?_cons, List.find?_cons, h x List.mem_cons_self, find_congr fun y hy => h y (List.mem_cons_of_mem _ hy)]
theorem some_none {α : Type} {f : Nat → Option α} : ∀ {N : Nat}, (∀ d, d < N → f d = none) → (List.range N).findSome? f = none
  | 0, _ => rfl
  | N + 1, h => by
    rw [List.range_succ, List.findSome?_append, some_none fun d hd => h d (by omega)]
    simp [h N (by omega)]
theorem some_at {α : Type} {f : Nat → Option α} {d : Nat} {x : α} (h0 : ∀ d', d' < d → f d' = none) (hd : f d = some x) : ∀ {N : Nat}, d < N → (List.range N).findSome? f = some x
  | 0, h => by omega
  | N + 1, h => by
    rw [List.range_succ, List.findSome?_append]
    by_cases e : d = N
    · subst e
      rw [some_none h0]
      simp [hd]
    · rw [some_at h0 hd (N := N) (by omega)]; rfl
theorem find_at {p : List Nat → Bool} : ∀ {L : List (List Nat)} {k : Nat} (hk : k < L.length), (∀ i (_ : i < k) l, L[i]? = some l → p l = false) → p L[k] = true → L.find? p = some L[k]
  | [], k, hk, _, _ => by simp at hk
  | x :: L, 0, _, _, h => by simp only [List.getElem_cons_zero] at h ⊢; rw [List.find?_cons, h]
  | x :: L, k + 1, hk, h0, h => by
    simp only [List.getElem_cons_succ] at h ⊢
    rw [List.find?_cons, h0 0 (by omega) x rfl]
    exact find_at (by simpa using hk) (fun i hi l hl => h0 (i + 1) (by omega) l (by simpa using hl)) h
theorem find_no {p : List Nat → Bool} {L : List (List Nat)} (h : ∀ i (_ : i < L.length) l, L[i]? = some l → p l = false) : L.find? p = none := by
  rw [List.find?_eq_none]
  intro x hx
  obtain ⟨i, hi⟩ := List.mem_iff_getElem?.1 hx
  rw [h i (List.getElem?_eq_some_iff.1 hi).1 x hi]
  simp
theorem clash_chs {n : Nat} {ss : List (List Nat)} (hm : ss.length ≤ 6) : clashOf n ss = (List.range (ss.length + 1)).findSome? fun d => (chs ss.length d []).find? fun l => cyc n (onlyN ss l) := by
  rw [clashOf, clashIn, find_chs hm]
  have : ∀ N, N ≤ ss.length + 1 → (List.range N).findSome? (fun d => (chs ss.length d []).find? fun l => cycP n ss l true) = (List.range N).findSome? fun d => (chs ss.length d []).find? fun l => cyc n (onlyN ss l) := by
    intro N
    induction N with
    | zero => intro _; rfl
    | succ N ih =>
      intro hN
      rw [List.range_succ, List.findSome?_append, List.findSome?_append, ih (by omega)]
      simp only [List.findSome?_cons, List.findSome?_nil]
      rw [find_congr (q := fun l => cyc n (onlyN ss l)) fun l hl => by rw [cycP, pick_only hm (chs_lists hm (by omega) hl)]]
  exact this _ (Nat.le_refl _)

def ClashR (o : Option (List Nat)) (e : Ending) (w' : World) : Prop :=
  match o with
  | some l => ∃ ol cl, e = .returned (.tuple #[.slice ol l.length cl, .bool true]) ∧ IntsAt w' ol (up l)
  | none => e = .returned (.tuple #[.slice none 0 0, .bool false])

/-- Can of some spots alone. -/
theorem canOnly_r {n : Nat} {ss : List (List Nat)} (g : Good n ss) {l : List Nat} (hl : l ∈ listsOf ss.length) (o2 : Option Addr) (c2 : Nat) (W : World) (hr : RowsAt W o2 (upp (onlyN ss l))) :
    Calls Tryz.prog 36 #[.agg #[.int .i64 n, .slice o2 l.length c2]] W fun e w' => e = .returned (.bool (!cyc n (onlyN ss l))) ∧ Ext W w' := by
  have h6 := lists_lt g.len hl
  have := can_r n (onlyN ss l) o2 c2 W hr g.le (by rw [onlyN_len]; exact h6.2) (fun s hs => g.spots5 s (only_mem h6.1 hs)) (fun s hs => g.valid s (only_mem h6.1 hs))
  rw [onlyN_len] at this
  exact this

set_option maxRecDepth 100000 in
set_option maxHeartbeats 4000000 in
theorem clash_r (n : Nat) (ss : List (List Nat)) (oa : Option Addr) (cap : Nat) (w : World) (h : RowsAt w oa (upp ss)) (g : Good n ss) :
    Calls Tryz.prog 47 #[.agg #[.int .i64 n, .slice oa ss.length cap]] w fun e w' => ClashR (clashOf n ss) e w' ∧ Ext w w' := by
  have hE0 := (Ext.refl w).alloc (.cells #[.int .i64 n, .slice oa ss.length cap] 24)
  have H := Lib.hid h
  have G := Lib.hid g
  have hm := g.len
  have Hc := Lib.hid (clash_chs (n := n) hm)
  clear h g
  go_enter Tryz.func47, Tryz.ntmps47
  go_wp2
  go_loopg [4] (ss.length + 1) (fun g i wr => ∃ d : Nat, d + g = ss.length + 1 ∧ i = .int .i64 d ∧ Ext (w.alloc (.cells #[.int .i64 n, .slice oa ss.length cap] 24)) wr ∧ ∀ d', d' < d → (chs ss.length d' []).find? (fun l => cyc n (onlyN ss l)) = none)
  case atStart => exact ⟨0, by omega, rfl, Ext.refl _, fun d' h => by omega⟩
  case round =>
    obtain ⟨d, hd, rfl, hE, hno⟩ := hrel
    obtain ⟨g0, rfl⟩ : ∃ g0 : Nat, g0 = gk := ⟨_, rfl⟩
    have Hno := Lib.hid hno
    have c0 : wr.cell? ⟨w.heap.size, 0, none⟩ = some (.int .i64 n) := cell_ext hE (by go_simp)
    have c1 : wr.cell? ⟨w.heap.size, 1, none⟩ = some (.slice oa ss.length cap) := cell_ext hE (by go_simp)
    clear hno
    by_cases hdm : d ≤ ss.length
    · have hdI : (d : Int) ≤ (ss.length : Int) := by omega
      have hch := chosen_r ss.length hm d (by omega) 0 d [] 0 none 0 wr rfl (by simp) (Nat.zero_le _) (RowE.of_own (B := 0) (Own.nil _ _ _)) (fun x hx => by cases hx)
      have Hch := Lib.hid hch
      have hlb := chs_big ss.length d []
      have hpw : ss.length ^ d ≤ 6 ^ 6 := Nat.le_trans (Nat.pow_le_pow_left hm d) (Nat.pow_le_pow_right (by decide) (by omega))
      have h66 : (6 : Nat) ^ 6 = 46656 := by decide
      have Hmem := Lib.hid (fun l (hl : l ∈ chs ss.length d []) => chs_lists hm hdm hl)
      obtain ⟨L, hL⟩ : ∃ L, L = chs ss.length d [] := ⟨_, rfl⟩
      have hLb : L.length ≤ 46656 := by rw [hL]; omega
      have HL := Lib.hid hL
      rw [← hL] at Hch Hmem
      clear hch hlb hpw h66 hL
      go_wp2_with (first | (go_at_call 98; refine Hch.out.mono ?_; rintro e w3 ⟨v3, rfl, hout, hE3⟩; obtain ⟨o1, p1, rfl, hp1, hp2, hp3, hrow⟩ := hout.at; have Hrow := Lib.hid hrow; clear hout hrow))
      go_loopg [6] L.length (fun g i wr => ∃ k : Nat, k + g = L.length ∧ i = .int .i64 k ∧ Ext w3 wr ∧ ∀ i (_ : i < k) l, L[i]? = some l → cyc n (onlyN ss l) = false)
      case atStart => exact ⟨0, by simp, rfl, Ext.refl _, fun i h => by omega⟩
      case round =>
        clear c0 c1
        obtain ⟨k, hk, rfl, hE4, hfree⟩ := hrel
        have hEr := (hE.trans hE3).trans hE4
        have c0 : wr.cell? ⟨w.heap.size, 0, none⟩ = some (.int .i64 n) := cell_ext hEr (by go_simp)
        have c1 : wr.cell? ⟨w.heap.size, 1, none⟩ = some (.slice oa ss.length cap) := cell_ext hEr (by go_simp)
        have Hfree := Lib.hid hfree
        clear hfree
        by_cases hlt : k < L.length
        · obtain ⟨l, hlk⟩ : ∃ l, L[k]? = some l := ⟨L[k], by simp [hlt]⟩
          obtain ⟨b, off, oc, cc, hoo, hcell, hre⟩ := Hrow.out k l hlk
          subst hoo
          have hcl := cell_ext hE4 hcell
          obtain ⟨hoi, _, hocc, hocm⟩ := rowE_ints hre
          have hmem := Hmem.out l (List.mem_of_getElem? hlk)
          have hl6 := lists_lt hm hmem
          have Hoi := Lib.hid (hoi.ext hE4)
          have hon := only_r n ss oa cap l oc cc wr.drew (H.out.ext ((hE0.trans hEr).trans (Ext.refl wr).drew)) (hoi.ext (hE4.trans (Ext.refl wr).drew)) (by omega) (by omega) hl6.1
          have Hon := Lib.hid hon
          have Hcan := Lib.hid (fun o2 c2 W (hr : RowsAt W o2 (upp (onlyN ss l))) => canOnly_r G.out hmem o2 c2 W hr)
          have Hlk := Lib.hid hlk
          clear hon hcell hre hoi hlk
          cases hcy : cyc n (onlyN ss l)
          · simp only [hcy] at Hcan
            have Hcy := Lib.hid hcy
            clear hcy
            go_wp2_with fail
            refine wp_region_plan (.take 0 <| .take 1 <| .take 2 <| .take 3 <| .take 4 <| .only 5 <| .only 6 <| .take 7 <| .done) (fun W => Ext wr W) mixed (by kernel_rfl) (by kernel_rfl) rfl (fun _ _ d _ _ h => by cases d <;> exact h) ((Ext.refl wr).drew) ?_
            repeat (first | (refine plan_take (v := ?_) rfl rfl (fun W hW => ?_) ?_; rotate_left; (focus (have e0 := cell_ext hW c0; have e1 := cell_ext hW c1; have e2 := cell_ext hW hcl; go_simp; first | exact rfl | (split <;> first | exact rfl | (exfalso; omega)) | done)); simp only [Act.put, List.setIfInBounds_toArray, List.set_cons_zero, List.set_cons_succ]) | (refine plan_skip rfl rfl ?_; simp only [Act.put, List.setIfInBounds_toArray, List.set_cons_zero, List.set_cons_succ]))
            refine plan_walk rfl ?_; intro K hK
            go_wp2_with (first | (go_at_call 51; refine Hon.out.mono ?_; rintro e w5 ⟨o2, c2, rfl, _, _, _, hr2, hE5⟩))
            refine hK _ _ ((Ext.refl wr).drew.trans hE5) ?_
            refine plan_walk rfl ?_; intro K hK
            go_wp2_with (first | (go_at_call 36; refine (Hcan.out o2 c2 _ hr2).mono ?_; rintro e w6 ⟨rfl, hE6⟩))
            refine hK _ _ (((Ext.refl wr).drew.trans hE5).trans hE6) ?_
            repeat (first | (refine plan_take (v := ?_) rfl rfl (fun W hW => ?_) ?_; rotate_left; (focus (skip; go_simp; first | exact rfl | (split <;> first | exact rfl | (exfalso; omega)) | done)); simp only [Act.put, List.setIfInBounds_toArray, List.set_cons_zero, List.set_cons_succ]) | (refine plan_skip rfl rfl ?_; simp only [Act.put, List.setIfInBounds_toArray, List.set_cons_zero, List.set_cons_succ]))
            refine plan_done ?_
            have hX := ((Ext.refl wr).drew.trans hE5).trans hE6
            go_wp2
            go_roundg (gk - 1)
            case measure => omega
            case rel => exact ⟨k + 1, by omega, by go_num, hE4.trans hX, fun i hi l' hl' => by
              by_cases e : i = k
              · subst e
                rw [Hlk.out] at hl'
                cases hl'
                exact Hcy.out
              · exact Hfree.out i (by omega) l' hl'⟩
          · simp only [hcy] at Hcan
            have hfound : clashOf n ss = some l := by
              rw [Hc.out]
              refine some_at Hno.out ?_ (by omega)
              rw [← HL.out]
              have hlg : L[k] = l := by have := Hlk.out; simp [hlt] at this; exact this
              rw [← hlg]
              exact find_at hlt Hfree.out (by rw [hlg]; exact hcy)
            have Hfound := Lib.hid hfound
            clear hcy hfound
            go_wp2_with fail
            refine wp_region_plan (.take 0 <| .take 1 <| .take 2 <| .take 3 <| .take 4 <| .only 5 <| .only 6 <| .take 7 <| .done) (fun W => Ext wr W) mixed (by kernel_rfl) (by kernel_rfl) rfl (fun _ _ d _ _ h => by cases d <;> exact h) ((Ext.refl wr).drew) ?_
            repeat (first | (refine plan_take (v := ?_) rfl rfl (fun W hW => ?_) ?_; rotate_left; (focus (have e0 := cell_ext hW c0; have e1 := cell_ext hW c1; have e2 := cell_ext hW hcl; go_simp; first | exact rfl | (split <;> first | exact rfl | (exfalso; omega)) | done)); simp only [Act.put, List.setIfInBounds_toArray, List.set_cons_zero, List.set_cons_succ]) | (refine plan_skip rfl rfl ?_; simp only [Act.put, List.setIfInBounds_toArray, List.set_cons_zero, List.set_cons_succ]))
            refine plan_walk rfl ?_; intro K hK
            go_wp2_with (first | (go_at_call 51; refine Hon.out.mono ?_; rintro e w5 ⟨o2, c2, rfl, _, _, _, hr2, hE5⟩))
            refine hK _ _ ((Ext.refl wr).drew.trans hE5) ?_
            refine plan_walk rfl ?_; intro K hK
            go_wp2_with (first | (go_at_call 36; refine (Hcan.out o2 c2 _ hr2).mono ?_; rintro e w6 ⟨rfl, hE6⟩))
            refine hK _ _ (((Ext.refl wr).drew.trans hE5).trans hE6) ?_
            repeat (first | (refine plan_take (v := ?_) rfl rfl (fun W hW => ?_) ?_; rotate_left; (focus (skip; go_simp; first | exact rfl | (split <;> first | exact rfl | (exfalso; omega)) | done)); simp only [Act.put, List.setIfInBounds_toArray, List.set_cons_zero, List.set_cons_succ]) | (refine plan_skip rfl rfl ?_; simp only [Act.put, List.setIfInBounds_toArray, List.set_cons_zero, List.set_cons_succ]))
            refine plan_done ?_
            have hX := ((Ext.refl wr).drew.trans hE5).trans hE6
            have hcl2 := cell_ext hX hcl
            go_wp2
            go_ret2
            exact ⟨by rw [Hfound.out]; exact ⟨_, _, rfl, Hoi.out.ext hX⟩, (hE0.trans hEr).trans hX⟩
        · have hnone : (chs ss.length d []).find? (fun l => cyc n (onlyN ss l)) = none := by
            rw [← HL.out]
            exact find_no fun i hi l hl => Hfree.out i (by omega) l hl
          have Hnone := Lib.hid hnone
          clear hnone
          go_wp2
          go_roundg (g0 - 1)
          case measure => omega
          case rel => exact ⟨d + 1, by omega, by go_num, hEr, fun d' hd' => by
            by_cases e : d' = d
            · subst e; exact Hnone.out
            · exact Hno.out d' (by omega)⟩
    · have hdm' : ¬ ((d : Int) ≤ (ss.length : Int)) := by omega
      have hz : clashOf n ss = none := by rw [Hc.out]; exact some_none fun d' hd' => Hno.out d' (by omega)
      have Hz := Lib.hid hz
      clear hz
      go_wp2
      go_ret2
      exact ⟨by rw [Hz.out]; exact rfl, hE0.trans hE⟩

end Go.Proofs.YtiehfpkcaoeieaaGreatDoor
