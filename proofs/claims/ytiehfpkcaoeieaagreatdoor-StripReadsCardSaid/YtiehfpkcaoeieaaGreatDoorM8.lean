/- Contracts and mathematics, joined: Clash, Wrongs, Blame, Same. Conditions stand with each. -/
import Derived.Test.YtiehfpkcaoeieaaGreatDoorM7
import Derived.Test.YtiehfpkcaoeieaaGreatDoorM3
set_option linter.unusedVariables false
set_option linter.unusedSimpArgs false
/- Contracts: strip.Clash, wrongs, strip.Wrong. No condition. -/
namespace Go.Proofs.YtiehfpkcaoeieaaGreatDoor
open Go.RowKit Go.My Go.StripM

theorem listsOf_len {m : Nat} (hm : m ≤ 6) : (listsOf m).length ≤ 64 := (outQ_facts m hm (2 ^ m) (Nat.le_refl _)).1
theorem listsOf_mem {m : Nat} (hm : m ≤ 6) {l : List Nat} (h : l ∈ listsOf m) : l.length ≤ 6 := ((outQ_facts m hm (2 ^ m) (Nat.le_refl _)).2.2.2 l h).1
theorem pickTo_mem {ss : List (List Nat)} {l : List Nat} {is : Bool} {s : List Nat} (h : s ∈ pickTo ss l is ss.length) : s ∈ ss := by
  simp only [pickTo, List.mem_map, List.mem_filter, List.mem_range] at h
  obtain ⟨i, ⟨hi, _⟩, rfl⟩ := h
  simp only [List.getD, List.getElem?_eq_getElem hi, Option.getD_some]
  exact List.getElem_mem hi
theorem Good.valid_pick {n : Nat} {ss : List (List Nat)} (g : Good n ss) (l : List Nat) (is : Bool) : Valid n (pickTo ss l is ss.length) := fun s hs => g.valid s (pickTo_mem hs)

/-- Some spots alone, or all but some: whether they contradict each other. -/
def cycP (n : Nat) (ss : List (List Nat)) (l : List Nat) (is : Bool) : Bool := cyc n (pickTo ss l is ss.length)

theorem Bx.picked {n : Nat} {ss : List (List Nat)} {oa : Option Addr} {cap : Nat} {w W : World} (h : Bx n ss oa cap w W) (g : Good n ss) {l : List Nat} {ob : Option Addr} {cb : Nat} (hs : IntsAt W ob (up l)) (hl : l.length ≤ 6) (is : Bool) :
    Calls Tryz.prog 97 #[.agg #[.int .i64 n, .slice oa ss.length cap], .slice ob l.length cb, .bool is] W fun e w' =>
      ∃ oa' m' cap', m' = (pickTo ss l is ss.length).length ∧ e = .returned (.agg #[.int .i64 n, .slice oa' m' cap']) ∧ RowsAt w' oa' (upp (pickTo ss l is ss.length)) ∧ Bx n ss oa cap w w' ∧ Ext W w' := by
  refine (picked_any n ss oa cap l ob cb is W h.rows (by have := g.len; omega) hs (by omega)).mono ?_
  rintro e w' ⟨oa', cap', h1, _, _, h2, h3⟩
  exact ⟨oa', _, cap', rfl, h1, h2, h.next h3, h3⟩
theorem Bx.canPick {n : Nat} {ss : List (List Nat)} {oa : Option Addr} {cap : Nat} {w W : World} (h : Bx n ss oa cap w W) (g : Good n ss) {l : List Nat} {is : Bool} {oa' : Option Addr} {m' cap' : Nat} (hm : m' = (pickTo ss l is ss.length).length) (hr : RowsAt W oa' (upp (pickTo ss l is ss.length))) :
    Calls Tryz.prog 96 #[.agg #[.int .i64 n, .slice oa' m' cap']] W fun e w' => e = .returned (.bool (!cycP n ss l is)) ∧ Bx n ss oa cap w w' ∧ Ext W w' := by
  subst hm
  exact (can_any n (pickTo ss l is ss.length) oa' cap' W hr (by have := pickTo_len ss l is ss.length; have := g.len; omega) g.le (g.valid_pick l is)).mono fun e w' ⟨h1, h2⟩ => ⟨h1, h.next h2, h2⟩
theorem Bx.lists {n : Nat} {ss : List (List Nat)} {oa : Option Addr} {cap : Nat} {w W : World} (h : Bx n ss oa cap w W) (g : Good n ss) (hcap : ss.length ≤ cap) (hc2 : cap ≤ maxLen) :
    Calls Tryz.prog 95 #[.agg #[.int .i64 n, .slice oa ss.length cap]] W fun e w' => ∃ ol cl, e = .returned (.slice ol (listsOf ss.length).length cl) ∧ (listsOf ss.length).length ≤ cl ∧ cl ≤ maxLen ∧ RowsAt w' ol (upp (listsOf ss.length)) ∧ Bx n ss oa cap w w' := by
  refine (lists_any n ss.length oa cap W g.len hcap hc2).mono ?_
  rintro e w' ⟨v, h1, h2, h3⟩
  obtain ⟨ol, cl, k1, k2, k3, _, k4⟩ := h2.slice
  exact ⟨ol, cl, by rw [h1, k1], k2, k3, k4, h.next h3⟩

/-- The fewest spots that contradict each other, among some lists. -/
def clashIn (n : Nat) (ss : List (List Nat)) (L : List (List Nat)) : Option (List Nat) := L.find? fun l => cycP n ss l true
def clashOf (n : Nat) (ss : List (List Nat)) : Option (List Nat) := clashIn n ss (listsOf ss.length)

/-- What Clash hands back. -/
def ClashPost (o : Option (List Nat)) (e : Ending) (w' : World) : Prop :=
  match o with
  | some l => ∃ v, e = .returned (.tuple #[v, .int .i64 0]) ∧ IsInts w' v (up l)
  | none => e = .returned (.tuple #[.slice none 0 0, .int .i64 5])

set_option maxHeartbeats 1000000 in
theorem clash_bad (n : Int) (ls : List (List Int)) (oa : Option Addr) (cap : Nat) (w : World) (h : RowsAt w oa ls) (hl : ls.length ≤ 9223372036854775807) (hbad : boardB n ls = false) :
    Calls Tryz.prog 46 #[.agg #[.int .i64 n, .slice oa ls.length cap]] w fun e w' => e = .returned (.tuple #[.slice none 0 0, .int .i64 2]) ∧ Ext w w' := by
  have bx := Lib.hid (BxI.start (n := n) (cap := cap) h)
  clear h
  go_enter Tryz.func46, Tryz.ntmps46
  go_wp2_with (first | (go_at_call 73; refine (bx.out.board hl).mono ?_; rw [hbad]; rintro e w1 ⟨rfl, b1⟩))
  go_ret2
  exact ⟨rfl, b1.ext⟩

set_option maxRecDepth 100000 in
set_option maxHeartbeats 1000000 in
theorem clash_any (n : Nat) (ss : List (List Nat)) (oa : Option Addr) (cap : Nat) (w : World) (h : RowsAt w oa (upp ss)) (g : Good n ss) (hcap : ss.length ≤ cap) (hc2 : cap ≤ maxLen) :
    Calls Tryz.prog 46 #[.agg #[.int .i64 n, .slice oa ss.length cap]] w fun e w' =>
      ClashPost (clashOf n ss) e w' ∧ Ext w w' := by
  have bx := Lib.hid (Bx.start (n := n) (cap := cap) h)
  have G := Lib.hid g
  have hL1 := listsOf_len g.len
  have hL2 := Lib.hid (fun l hl => listsOf_mem (l := l) g.len hl)
  clear h g
  go_enter Tryz.func46, Tryz.ntmps46
  go_wp2_with (first | (go_at_call 73; refine (bx.out.board G.out).mono ?_; rintro e w1 ⟨rfl, b1⟩; have c0 := b1.c0; have c1 := b1.c1; have B1 := Lib.hid b1; clear b1) | (go_at_call 95; refine (B1.out.lists G.out hcap hc2).mono ?_; rintro e w2 ⟨ol, cl, rfl, k1, k2, k3, b2⟩; have K3 := Lib.hid k3; have B2 := Lib.hid b2; clear k3 b2 c0 c1))
  have hof : clashOf n ss = clashIn n ss (listsOf ss.length) := rfl
  have Hof := Lib.hid hof; clear hof
  generalize hLL : listsOf ss.length = L at *
  clear hLL
  go_loopg [12] L.length (fun g v wr => ∃ k : Nat, k + g = L.length ∧ v = .int .i64 k ∧ Bx n ss oa cap w wr ∧ RowsAt wr ol (upp L) ∧ clashOf n ss = clashIn n ss (L.drop k))
  case atStart => exact ⟨0, by simp, rfl, B2.out, K3.out, by rw [Hof.out]; rfl⟩
  case round =>
    clear K3 B2 B1 bx Hof
    obtain ⟨k, hk, rfl, b3, hr3, hcl⟩ := hrel
    have B3 := Lib.hid b3
    have Hcl := Lib.hid hcl
    have c0 := b3.c0
    have c1 := b3.c1
    clear b3 hcl
    by_cases hlt : k < L.length
    · obtain ⟨b, off, ox, cx, hoa, hbl, hcx, x1, x2, x3, x4⟩ := rows_up hr3 hlt
      subst hoa
      have hx6 := hL2.out L[k] (List.getElem_mem hlt)
      have hdrop : L.drop k = L[k] :: L.drop (k + 1) := List.drop_eq_getElem_cons hlt
      have hstep : clashOf n ss = if cycP n ss L[k] true then some L[k] else clashIn n ss (L.drop (k + 1)) := by
        rw [Hcl.out, clashIn, hdrop, List.find?_cons]
        cases cycP n ss L[k] true <;> rfl
      have X4 := Lib.hid x4
      have Hr3 := Lib.hid hr3
      obtain ⟨x, hx⟩ : ∃ x, x = L[k] := ⟨_, rfl⟩
      rw [← hx] at hcx x1 X4 hstep hx6
      have hstepx := hstep
      clear hdrop hstep x4 hr3
      have hxi : IsInts wr (.slice ox x.length cx) (up x) := ⟨ox, cx, by rw [up_length], by rw [up_length]; exact x1, x2, x3, X4.out⟩
      have Hxi := Lib.hid hxi
      clear hxi hx
      cases hcy : cycP n ss x true
      · rw [hcy, if_neg (by simp)] at hstepx
        have Hstep := Lib.hid hstepx
        have Hcy := Lib.hid hcy
        clear hcy hstepx
        go_wp2_with (first | (go_at_call 97; refine (B3.out.picked G.out X4.out hx6 true).mono ?_; rintro e w4 ⟨oa', m', cap', hm', rfl, hr4, b4, hE4⟩; have Hm' := Lib.hid hm'; have B4 := Lib.hid b4; have Hr4 := Lib.hid hr4; clear hm' b4 hr4) | (go_at_call 96; refine (B4.out.canPick G.out Hm'.out Hr4.out).mono ?_; rw [Hcy.out]; rintro e w5 ⟨rfl, b5, hE5⟩))
        go_roundg (gk - 1)
        case measure => omega
        case rel => exact ⟨k + 1, by omega, by go_num, b5, Hr3.out.ext (hE4.trans hE5), Hstep.out⟩
      · rw [hcy, if_pos rfl] at hstepx
        have Hstep := Lib.hid hstepx
        have Hcy := Lib.hid hcy
        clear hcy hstepx
        go_wp2_with (first | (go_at_call 97; refine (B3.out.picked G.out X4.out hx6 true).mono ?_; rintro e w4 ⟨oa', m', cap', hm', rfl, hr4, b4, hE4⟩; have Hm' := Lib.hid hm'; have B4 := Lib.hid b4; have Hr4 := Lib.hid hr4; clear hm' b4 hr4) | (go_at_call 96; refine (B4.out.canPick G.out Hm'.out Hr4.out).mono ?_; rw [Hcy.out]; rintro e w5 ⟨rfl, b5, hE5⟩))
        go_ret2
        refine ⟨?_, b5.ext⟩
        rw [Hstep.out]
        exact ⟨_, rfl, Hxi.out.ext (hE4.trans hE5)⟩
    · have hdrop : L.drop k = [] := List.drop_eq_nil_of_le (by omega)
      have hnone : clashOf n ss = none := by rw [Hcl.out, hdrop]; rfl
      have Hno := Lib.hid hnone
      clear hdrop hnone
      go_wp2
      go_ret2
      refine ⟨?_, B3.out.ext⟩
      rw [Hno.out]
      exact rfl

end Go.Proofs.YtiehfpkcaoeieaaGreatDoor
/- Contracts: wrongs, strip.Wrong. No condition. -/
namespace Go.Proofs.YtiehfpkcaoeieaaGreatDoor
open Go.RowKit Go.My Go.StripM

/-- The lists without which the others do not contradict each other, the shortest alone. -/
def wrIn (n : Nat) (ss : List (List Nat)) : List (List Nat) → List (List Nat) → List (List Nat)
  | acc, [] => acc
  | acc, l :: L => if acc ≠ [] ∧ (acc.headD []).length < l.length then acc else if cycP n ss l false then wrIn n ss acc L else wrIn n ss (acc ++ [l]) L
def wrongsOf (n : Nat) (ss : List (List Nat)) : List (List Nat) := wrIn n ss [] (listsOf ss.length)

set_option maxRecDepth 100000 in
set_option maxHeartbeats 1000000 in
theorem wrongs_any (n : Nat) (ss : List (List Nat)) (oa : Option Addr) (cap : Nat) (w : World) (h : RowsAt w oa (upp ss)) (g : Good n ss) (hcap : ss.length ≤ cap) (hc2 : cap ≤ maxLen) :
    Calls Tryz.prog 99 #[.agg #[.int .i64 n, .slice oa ss.length cap]] w fun e w' =>
      ∃ ol cl, e = .returned (.slice ol (wrongsOf n ss).length cl) ∧ (wrongsOf n ss).length ≤ cl ∧ cl ≤ maxLen ∧ (wrongsOf n ss).length ≤ 64 ∧ RowsAt w' ol (upp (wrongsOf n ss)) ∧ Ext w w' := by
  have bx := Lib.hid (Bx.start (n := n) (cap := cap) h)
  have G := Lib.hid g
  have hL1 := listsOf_len g.len
  have hL2 := Lib.hid (fun l hl => listsOf_mem (l := l) g.len hl)
  clear h g
  go_enter Tryz.func99, Tryz.ntmps99
  go_wp2_with (first | (go_at_call 95; refine (bx.out.lists G.out hcap hc2).mono ?_; rintro e w2 ⟨ol, cl, rfl, k1, k2, k3, b2⟩; have K3 := Lib.hid k3; have B2 := Lib.hid b2; clear k3 b2))
  have hof : wrongsOf n ss = wrIn n ss [] (listsOf ss.length) := rfl
  have Hof := Lib.hid hof; clear hof
  generalize hLL : listsOf ss.length = L at *
  clear hLL
  have b2w := B2.out.ext
  go_loopg [3, 9] L.length (fun g v i wr => ∃ (k : Nat) (acc : List (List Nat)), k + g = L.length ∧ i = .int .i64 k ∧ acc.length ≤ k ∧ Bx n ss oa cap w wr ∧ Ext w2 wr ∧ OwnR wr w2.heap.size w2.heap.size v acc ∧ wrongsOf n ss = wrIn n ss acc (L.drop k))
  case atStart => exact ⟨0, [], by simp, rfl, Nat.le_refl _, B2.out, Ext.refl _, OwnR.nil _ (Nat.le_refl _), by rw [Hof.out]; rfl⟩
  case round =>
    clear bx Hof
    obtain ⟨k, acc, hk, rfl, hak, b3, hE2, hown, hwr⟩ := hrel
    have B3 := Lib.hid b3
    have Hwr := Lib.hid hwr
    have c0 := b3.c0
    have c1 := b3.c1
    clear b3 hwr
    obtain ⟨oq, cq, hv, a1, a2, a3, a4⟩ := hown.slice
    subst hv
    have Hown := Lib.hid hown
    have A4 := Lib.hid a4
    clear hown a4
    by_cases hlt : k < L.length
    · obtain ⟨b, off, ox, cx, hoa, hcx, x1, x2, hrow⟩ := rows_e K3.out hE2 hlt (base := w2.heap.size) (Nat.le_refl _)
      subst hoa
      have hx6 := hL2.out L[k] (List.getElem_mem hlt)
      have hdrop : L.drop k = L[k] :: L.drop (k + 1) := List.drop_eq_getElem_cons hlt
      have hstep : wrongsOf n ss = if acc ≠ [] ∧ (acc.headD []).length < L[k].length then acc else if cycP n ss L[k] false then wrIn n ss acc (L.drop (k + 1)) else wrIn n ss (acc ++ [L[k]]) (L.drop (k + 1)) := by
        rw [Hwr.out, hdrop, wrIn]
      obtain ⟨x, hx⟩ : ∃ x, x = L[k] := ⟨_, rfl⟩
      rw [← hx] at hcx x1 hrow hstep hx6
      have X4 := Lib.hid (show IntsAt wr ox (up x) by obtain ⟨ox', cx', e1, _, _, _, e2⟩ := hrow.ints; simp only [Value.slice.injEq] at e1; rw [e1.1]; exact e2)
      have Hrow := Lib.hid hrow
      have hstepx := hstep
      clear hdrop hstep hrow hx
      by_cases hacc : acc.length = 0
      · have hnil : acc = [] := List.eq_nil_of_length_eq_zero hacc
        rw [if_neg (fun h => h.1 hnil)] at hstepx
        subst hnil
        clear hacc
        cases hcy : cycP n ss x false
        · rw [hcy, if_neg (by simp)] at hstepx
          have Hstep := Lib.hid hstepx
          have Hcy := Lib.hid hcy
          clear hcy hstepx
          go_wp2_with (first | (go_at_call 97; refine (B3.out.picked G.out X4.out hx6 false).mono ?_; rintro e w4 ⟨oa', m', cap', hm', rfl, hr4, b4, hE4⟩; have Hm' := Lib.hid hm'; have B4 := Lib.hid b4; have Hr4 := Lib.hid hr4; clear hm' b4 hr4) | (go_at_call 96; refine (B4.out.canPick G.out Hm'.out Hr4.out).mono ?_; rw [Hcy.out]; rintro e w5 ⟨rfl, b5, hE5⟩; have B5 := Lib.hid b5; clear b5) | (at_builtin; refine wpList_appR _ rfl _ _ rfl w2.heap.size w2.heap.size _ [] rfl ((Hown.out.ext (hE4.trans hE5)).ext ((Ext.refl _).alloc _)) w5.heap.size (.slice ox x.length cx) x rfl (by go_simp) ((Hrow.out.ext (hE4.trans hE5)).ext ((Ext.refl _).alloc _)) ?_ ?_ ?_))
          · omega
          · have := (hE2.trans (hE4.trans hE5)).size; simp; omega
          · intro v6 w6 hown6 hBl6
            have Ho6 := Lib.hid hown6; clear hown6
            have hE6 : Ext w2 w6 := ((hE2.trans (hE4.trans hE5)).alloc _).below hBl6 (Nat.le_refl _)
            go_wp2
            go_roundg (gk - 1)
            case measure => omega
            case rel => exact ⟨k + 1, [] ++ [x], by omega, by go_num, by simp, B2.out.next hE6, hE6, Ho6.out, Hstep.out⟩
        · rw [hcy, if_pos rfl] at hstepx
          have Hstep := Lib.hid hstepx
          have Hcy := Lib.hid hcy
          clear hcy hstepx
          go_wp2_with (first | (go_at_call 97; refine (B3.out.picked G.out X4.out hx6 false).mono ?_; rintro e w4 ⟨oa', m', cap', hm', rfl, hr4, b4, hE4⟩; have Hm' := Lib.hid hm'; have B4 := Lib.hid b4; have Hr4 := Lib.hid hr4; clear hm' b4 hr4) | (go_at_call 96; refine (B4.out.canPick G.out Hm'.out Hr4.out).mono ?_; rw [Hcy.out]; rintro e w5 ⟨rfl, b5, hE5⟩; have B5 := Lib.hid b5; clear b5))
          go_roundg (gk - 1)
          case measure => omega
          case rel => exact ⟨k + 1, [], by omega, by go_num, by omega, B5.out, hE2.trans (hE4.trans hE5), Hown.out.ext (hE4.trans hE5), Hstep.out⟩
      · have hne : acc ≠ [] := fun h => hacc (by rw [h]; rfl)
        have hpos : 0 < acc.length := by omega
        obtain ⟨b0, off0, o0, c00, hoq, _, hcc0, hce, hcm, _, _⟩ := rows_up A4.out hpos
        subst hoq
        rw [Nat.add_zero] at hcc0
        have hhead : (acc.headD []).length = acc[0].length := by
          match acc, hne with
          | a :: _, _ => rfl
        rw [hhead] at hstepx
        have hl00 : acc[0].length ≤ 9223372036854775807 := by unfold maxLen at hcm; omega
        by_cases hgt : acc[0].length < x.length
        · rw [if_pos ⟨hne, hgt⟩] at hstepx
          have Hstep := Lib.hid hstepx
          clear hne hstepx hhead
          go_wp2
          go_ret
          rw [Hstep.out]
          exact ⟨_, _, rfl, a1, a2, by omega, A4.out, B3.out.ext⟩
        · rw [if_neg (fun h => hgt h.2)] at hstepx
          clear hne hhead
          cases hcy : cycP n ss x false
          · rw [hcy, if_neg (by simp)] at hstepx
            have Hstep := Lib.hid hstepx
            have Hcy := Lib.hid hcy
            clear hcy hstepx
            go_wp2_with (first | (go_at_call 97; refine (B3.out.picked G.out X4.out hx6 false).mono ?_; rintro e w4 ⟨oa', m', cap', hm', rfl, hr4, b4, hE4⟩; have Hm' := Lib.hid hm'; have B4 := Lib.hid b4; have Hr4 := Lib.hid hr4; clear hm' b4 hr4) | (go_at_call 96; refine (B4.out.canPick G.out Hm'.out Hr4.out).mono ?_; rw [Hcy.out]; rintro e w5 ⟨rfl, b5, hE5⟩; have B5 := Lib.hid b5; clear b5) | (at_builtin; refine wpList_appR _ rfl _ _ rfl w2.heap.size w2.heap.size _ acc rfl ((Hown.out.ext (hE4.trans hE5)).ext ((Ext.refl _).alloc _)) w5.heap.size (.slice ox x.length cx) x rfl (by go_simp) ((Hrow.out.ext (hE4.trans hE5)).ext ((Ext.refl _).alloc _)) ?_ ?_ ?_))
            · omega
            · have := (hE2.trans (hE4.trans hE5)).size; simp; omega
            · intro v6 w6 hown6 hBl6
              have Ho6 := Lib.hid hown6; clear hown6
              have hE6 : Ext w2 w6 := ((hE2.trans (hE4.trans hE5)).alloc _).below hBl6 (Nat.le_refl _)
              go_wp2
              go_roundg (gk - 1)
              case measure => omega
              case rel => exact ⟨k + 1, acc ++ [x], by omega, by go_num, by simp; omega, B2.out.next hE6, hE6, Ho6.out, Hstep.out⟩
          · rw [hcy, if_pos rfl] at hstepx
            have Hstep := Lib.hid hstepx
            have Hcy := Lib.hid hcy
            clear hcy hstepx
            go_wp2_with (first | (go_at_call 97; refine (B3.out.picked G.out X4.out hx6 false).mono ?_; rintro e w4 ⟨oa', m', cap', hm', rfl, hr4, b4, hE4⟩; have Hm' := Lib.hid hm'; have B4 := Lib.hid b4; have Hr4 := Lib.hid hr4; clear hm' b4 hr4) | (go_at_call 96; refine (B4.out.canPick G.out Hm'.out Hr4.out).mono ?_; rw [Hcy.out]; rintro e w5 ⟨rfl, b5, hE5⟩; have B5 := Lib.hid b5; clear b5))
            go_roundg (gk - 1)
            case measure => omega
            case rel => exact ⟨k + 1, acc, by omega, by go_num, by omega, B5.out, hE2.trans (hE4.trans hE5), Hown.out.ext (hE4.trans hE5), Hstep.out⟩
    · have hdrop : L.drop k = [] := List.drop_eq_nil_of_le (by omega)
      have hfin : wrongsOf n ss = acc := by rw [Hwr.out, hdrop]; rfl
      have Hfin := Lib.hid hfin
      clear hdrop hfin
      go_wp2
      go_ret
      rw [Hfin.out]
      exact ⟨_, _, rfl, a1, a2, by omega, A4.out, B3.out.ext⟩


set_option maxHeartbeats 1000000 in
theorem wrong_bad (n : Int) (ls : List (List Int)) (oa : Option Addr) (cap : Nat) (w : World) (h : RowsAt w oa ls) (hl : ls.length ≤ 9223372036854775807) (hbad : boardB n ls = false) :
    Calls Tryz.prog 49 #[.agg #[.int .i64 n, .slice oa ls.length cap]] w fun e w' => e = .returned (.tuple #[.slice none 0 0, .int .i64 2]) ∧ Ext w w' := by
  have bx := Lib.hid (BxI.start (n := n) (cap := cap) h)
  clear h
  go_enter Tryz.func49, Tryz.ntmps49
  go_wp2_with (first | (go_at_call 73; refine (bx.out.board hl).mono ?_; rw [hbad]; rintro e w1 ⟨rfl, b1⟩))
  go_ret2
  exact ⟨rfl, b1.ext⟩

theorem Bx.wrongs {n : Nat} {ss : List (List Nat)} {oa : Option Addr} {cap : Nat} {w W : World} (h : Bx n ss oa cap w W) (g : Good n ss) (hcap : ss.length ≤ cap) (hc2 : cap ≤ maxLen) :
    Calls Tryz.prog 99 #[.agg #[.int .i64 n, .slice oa ss.length cap]] W fun e w' =>
      ∃ ol cl, e = .returned (.slice ol (wrongsOf n ss).length cl) ∧ (wrongsOf n ss).length ≤ cl ∧ cl ≤ maxLen ∧ (wrongsOf n ss).length ≤ 64 ∧ RowsAt w' ol (upp (wrongsOf n ss)) ∧ Bx n ss oa cap w w' := by
  refine (wrongs_any n ss oa cap W h.rows g hcap hc2).mono ?_
  rintro e w' ⟨ol, cl, h1, h2, h3, h4, h5, h6⟩
  exact ⟨ol, cl, h1, h2, h3, h4, h5, h.next h6⟩

set_option maxHeartbeats 1000000 in
/-- There is such a list: the one of all spots. -/
theorem wrong_any (n : Nat) (ss : List (List Nat)) (oa : Option Addr) (cap : Nat) (w : World) (h : RowsAt w oa (upp ss)) (g : Good n ss) (hcap : ss.length ≤ cap) (hc2 : cap ≤ maxLen) (hsome : 0 < (wrongsOf n ss).length) :
    Calls Tryz.prog 49 #[.agg #[.int .i64 n, .slice oa ss.length cap]] w fun e w' => (∃ v, e = .returned (.tuple #[v, .int .i64 0]) ∧ IsInts w' v (up (wrongsOf n ss)[0])) ∧ Ext w w' := by
  have bx := Lib.hid (Bx.start (n := n) (cap := cap) h)
  have G := Lib.hid g
  clear h g
  generalize hW : wrongsOf n ss = R at hsome
  have HW := Lib.hid hW; clear hW
  have hws := fun W (b : Bx n ss oa cap w W) => Bx.wrongs b G.out hcap hc2
  rw [HW.out] at hws
  have Hws := Lib.hid hws; clear hws
  go_enter Tryz.func49, Tryz.ntmps49
  go_wp2_with (first | (go_at_call 73; refine (bx.out.board G.out).mono ?_; rintro e w1 ⟨rfl, b1⟩; have c0 := b1.c0; have c1 := b1.c1; have B1 := Lib.hid b1; clear b1) | (go_at_call 99; refine (Hws.out _ B1.out).mono ?_; rintro e w2 ⟨ol, cl, rfl, k1, k2, k3, k4, b2⟩; have B2 := Lib.hid b2; obtain ⟨b, off, ox, cx, hoa, _, hcx, x1, x2, x3, x4⟩ := rows_up k4 hsome; subst hoa; rw [Nat.add_zero] at hcx; have Hx := Lib.hid (show IsInts w2 (.slice ox R[0].length cx) (up R[0]) from ⟨ox, cx, by rw [up_length], by rw [up_length]; exact x1, x2, x3, x4⟩); clear b2 k4 x3 x4))
  go_ret2
  exact ⟨⟨_, rfl, Hx.out⟩, B2.out.ext⟩

end Go.Proofs.YtiehfpkcaoeieaaGreatDoor
/- Contract: strip.Blame. No condition. -/
namespace Go.Proofs.YtiehfpkcaoeieaaGreatDoor
open Go.RowKit Go.My Go.StripM

theorem i38 : (Tryz.prog.info? 38).map (fun i => (i.zero, i.size, i.bytes)) = some (some (.int .i64 0), 1, 8) := by kernel_rfl

/-- How many of the first k lists have a number. -/
def manyTo (R : List (List Nat)) (i k : Nat) : Nat := ((R.take k).filter fun l => decide (i ∈ l)).length
theorem manyTo_succ (R : List (List Nat)) (i k : Nat) (hk : k < R.length) : manyTo R i (k + 1) = manyTo R i k + if i ∈ R[k] then 1 else 0 := by
  unfold manyTo
  rw [List.take_succ_eq_append_getElem hk, List.filter_append, List.length_append]
  by_cases h : i ∈ R[k] <;> simp [h]
theorem manyTo_le (R : List (List Nat)) (i k : Nat) : manyTo R i k ≤ k := by
  unfold manyTo
  have := List.length_filter_le (fun l => decide (i ∈ l)) (R.take k)
  rw [List.length_take] at this; omega
/-- Whether each of the first k spots must be wrong. -/
def blameTo (R : List (List Nat)) (k : Nat) : List Int := (List.range k).map fun i => wordI (manyTo R i R.length) R.length
theorem blameTo_succ (R : List (List Nat)) (k : Nat) : blameTo R (k + 1) = blameTo R k ++ [wordI (manyTo R k R.length) R.length] := by
  simp [blameTo, List.range_succ]

set_option maxHeartbeats 1000000 in
theorem blame_bad (n : Int) (ls : List (List Int)) (oa : Option Addr) (cap : Nat) (w : World) (h : RowsAt w oa ls) (hl : ls.length ≤ 9223372036854775807) (hbad : boardB n ls = false) :
    Calls Tryz.prog 53 #[.agg #[.int .i64 n, .slice oa ls.length cap]] w fun e w' => e = .returned (.tuple #[.slice none 0 0, .int .i64 2]) ∧ Ext w w' := by
  have bx := Lib.hid (BxI.start (n := n) (cap := cap) h)
  clear h
  go_enter Tryz.func53, Tryz.ntmps53
  go_wp2_with (first | (go_at_call 73; refine (bx.out.board hl).mono ?_; rw [hbad]; rintro e w1 ⟨rfl, b1⟩))
  go_ret2
  exact ⟨rfl, b1.ext⟩

set_option maxRecDepth 100000 in
set_option maxHeartbeats 1000000 in
theorem blame_any (n : Nat) (ss : List (List Nat)) (oa : Option Addr) (cap : Nat) (w : World) (h : RowsAt w oa (upp ss)) (g : Good n ss) (hcap : ss.length ≤ cap) (hc2 : cap ≤ maxLen) :
    Calls Tryz.prog 53 #[.agg #[.int .i64 n, .slice oa ss.length cap]] w fun e w' => (∃ v, e = .returned (.tuple #[v, .int .i64 0]) ∧ IsInts w' v (blameTo (wrongsOf n ss) ss.length)) ∧ Ext w w' := by
  have bx := Lib.hid (Bx.start (n := n) (cap := cap) h)
  have G := Lib.hid g
  have hm6 := g.len
  clear h g
  generalize hW : wrongsOf n ss = R
  have HW := Lib.hid hW; clear hW
  have hws := fun W (b : Bx n ss oa cap w W) => Bx.wrongs b G.out hcap hc2
  rw [HW.out] at hws
  have Hws := Lib.hid hws; clear hws
  go_enter Tryz.func53, Tryz.ntmps53
  go_wp2_with (first | (go_at_call 73; refine (bx.out.board G.out).mono ?_; rintro e w1 ⟨rfl, b1⟩; have c0 := b1.c0; have c1 := b1.c1; have B1 := Lib.hid b1; clear b1) | (go_at_call 99; refine (Hws.out _ B1.out).mono ?_; rintro e w2 ⟨ol, cl, rfl, k1, k2, k3, k4, b2⟩; have B2 := Lib.hid b2; have K4 := Lib.hid k4; clear c0 c1; have c0 := b2.c0; have c1 := b2.c1; clear b2 k4))
  clear c0 c1
  go_loopg [5, 18] ss.length (fun g v i wr => ∃ k : Nat, k + g = ss.length ∧ i = .int .i64 k ∧ Ext w2 wr ∧ Own wr w2.heap.size 38 v ((blameTo R k).map (Value.int .i64)))
  case atStart => exact ⟨0, by simp, rfl, Ext.refl _, Own.nil _ _ _⟩
  case round =>
    obtain ⟨k, hk, rfl, hE, hown⟩ := hrel
    have Hown := Lib.hid hown
    clear hown
    obtain ⟨wo, rfl⟩ : ∃ wo : World, wo = wr := ⟨_, rfl⟩
    obtain ⟨g0, rfl⟩ : ∃ g0 : Nat, g0 = gk := ⟨_, rfl⟩
    by_cases hlt : k < ss.length
    · go_wp2
      go_loopg [7, 23] R.length (fun g c i wr => ∃ j : Nat, j + g = R.length ∧ i = .int .i64 j ∧ c = .int .i64 (manyTo R k j : Nat) ∧ wr = wo)
      case atStart => exact ⟨0, by simp, rfl, by simp [manyTo], rfl⟩
      case round =>
        obtain ⟨j, hj, rfl, rfl, rfl⟩ := hrel
        by_cases hjl : j < R.length
        · obtain ⟨b, off, ox, cx, hoa, _, hcx, x1, x2, x3, x4⟩ := rows_up (K4.out.ext hE) hjl
          subst hoa
          have hcont := contains_any (up R[j]) ox R[j].length cx k wr (up_length _) x4 (by rw [up_length]; unfold maxLen at x2; omega)
          rw [mem_up] at hcont
          have hms := manyTo_succ R k j hjl
          have hml := manyTo_le R k j
          by_cases hin : k ∈ R[j]
          · rw [decide_eq_true hin] at hcont
            rw [if_pos hin] at hms
            have Hms := Lib.hid hms
            have Hcont := Lib.hid hcont
            clear hms hcont hin x3 x4
            go_wp2_with (first | (go_at_call 100; refine Hcont.out.mono ?_; rintro e w3 ⟨rfl, rfl⟩))
            go_roundg (gk - 1)
            case measure => omega
            case rel => exact ⟨j + 1, by omega, by go_num, by rw [Hms.out]; go_num, rfl⟩
          · rw [decide_eq_false hin] at hcont
            rw [if_neg hin] at hms
            have Hms := Lib.hid hms
            have Hcont := Lib.hid hcont
            clear hms hcont hin x3 x4
            go_wp2_with (first | (go_at_call 100; refine Hcont.out.mono ?_; rintro e w3 ⟨rfl, rfl⟩))
            go_roundg (gk - 1)
            case measure => omega
            case rel => exact ⟨j + 1, by omega, by go_num, by rw [Hms.out]; rfl, rfl⟩
        · have hjj : j = R.length := by omega
          have hbs : blameTo R (k + 1) = blameTo R k ++ [wordI (manyTo R k j) R.length] := by rw [blameTo_succ, hjj]
          have Hbs := Lib.hid hbs
          have hjl' : ¬ (j : Int) < (R.length : Int) := by omega
          clear hjj hbs hjl
          go_wp2_with (first | (go_at_call 84; refine (word_any (manyTo R k j) R.length _).mono ?_; rintro e w3 ⟨rfl, hE3⟩) | (at_builtin; refine wpList_app1 _ rfl _ _ 63 rfl 38 Tryz.underlying63 (.int .i64 0) 8 i38 rfl (by decide) w2.heap.size _ _ rfl ((Hown.out.ext hE3).ext ((Ext.refl w3).alloc _)) w3.heap.size (.int .i64 (wordI (manyTo R k j) R.length)) rfl (by go_simp) rfl ?_ ?_ ?_))
          · simp [blameTo]; omega
          · have := (hE.trans hE3).size; simp; omega
          · intro v' w6 hown6 hBl6 _
            have Ho6 := Lib.hid hown6
            have hE6 : Ext w2 w6 := ((hE.trans hE3).alloc _).below hBl6 (Nat.le_refl _)
            clear hown6 hBl6
            go_wp2
            go_roundg (g0 - 1)
            case measure => omega
            case rel => exact ⟨k + 1, by omega, by go_num, hE6, by rw [Hbs.out]; simpa using Ho6.out⟩
    · have hkk : k = ss.length := by omega
      have Hk := Lib.hid hkk; clear hkk
      go_wp2
      go_ret2
      have := Hown.out
      rw [Hk.out] at this
      exact ⟨⟨_, rfl, this.ints⟩, B2.out.ext.trans hE⟩

end Go.Proofs.YtiehfpkcaoeieaaGreatDoor
/- Contract: strip.Same. No condition. -/
namespace Go.Proofs.YtiehfpkcaoeieaaGreatDoor
open Go.RowKit Go.My Go.StripM

/-- One cell of a slice of the call's own. -/
theorem _root_.Go.My.Own.cellAt {w : World} {B : Nat} {e : TypeId} {v : Value} {xs : List Value} (h : Own w B e v xs) {i : Nat} (hi : i < xs.length) (u : Value) :
    ∃ g cap, v = .slice (some ⟨g, 0, none⟩) xs.length cap ∧ B ≤ g ∧ g < w.heap.size ∧ xs.length ≤ cap ∧ cap ≤ maxLen ∧ w.cell? ⟨g, i, none⟩ = some xs[i] ∧ w.frozen? ⟨g, i, none⟩ = false ∧ Own (w.setCell ⟨g, i, none⟩ u) B e v (xs.set i u) := by
  rcases h.2 with ⟨_, h2⟩ | ⟨g, cap, cur, hv, hb, hg, hn, hc, hs, ht⟩
  · omega
  · refine ⟨g, cap, hv, hb, (Array.getElem?_eq_some_iff.1 hg).1, hn, hc, ?_, frozen_of_row _ _ i _ _ hg, ?_⟩
    · rw [cell_of_row w g i cur e (0, 0) hg]
      have : xs[i]? = some xs[i] := by simp [hi]
      rw [← this, ← ht, List.getElem?_take, if_pos (by omega)]
      simp
    · refine ⟨by simp, .inr ⟨g, cap, cur.setIfInBounds i u, by rw [List.length_set]; exact hv, hb, heap_setCell_same _ _ _ _ _ _ hg, by rw [List.length_set]; exact hn, hc, by simp [hs], ?_⟩⟩
      rw [List.length_set, Array.toList_setIfInBounds, List.take_set, ht]

/-- One name in place of another one. -/
def rep (one other : Nat) (l : List Nat) : List Nat := l.map fun x => if x = other then one else x
theorem rep_none {one other : Nat} {l : List Nat} (h : other ∉ l) : rep one other l = l := by
  have : rep one other l = l.map id := List.map_congr_left fun x hx => by
    have : ¬ x = other := fun e => h (by rw [← e]; exact hx)
    rw [if_neg this]; rfl
  rw [this, List.map_id]
theorem rep_set {one other : Nat} {l : List Nat} (hd : l.Nodup) (h : other ∈ l) : l.set (l.idxOf other) one = rep one other l := by
  induction l with
  | nil => cases h
  | cons y l ih =>
    by_cases e : y = other
    · subst e
      have hn : y ∉ l := (List.nodup_cons.1 hd).1
      have := rep_none (one := one) hn
      simp only [rep, List.map_cons, if_true] at *
      simp [List.idxOf_cons_self, this]
    · have hm : other ∈ l := by
        rcases List.mem_cons.1 h with h | h
        · exact absurd h.symm e
        · exact h
      have := ih (List.nodup_cons.1 hd).2 hm
      simp only [rep, List.map_cons, if_neg e]
      have hi : (y :: l).idxOf other = l.idxOf other + 1 := by
        rw [List.idxOf_cons]
        have : (y == other) = false := by simpa using e
        simp [this]
      rw [hi]
      simp only [rep] at this
      rw [List.set_cons_succ, this]

def bothIn (ss : List (List Nat)) (one other : Nat) : Bool := ss.any fun s => decide (other ∈ s) && decide (one ∈ s)
def sameOf (n : Nat) (ss : List (List Nat)) (one other : Nat) : Bool := !bothIn ss one other && !cyc n (ss.map (rep one other))

theorem rep_ok {n one other : Nat} {s : List Nat} (h : namesOk n s) (h1 : one < n) (h2 : (decide (other ∈ s) && decide (one ∈ s)) = false) : namesOk n (rep one other s) := by
  by_cases ho : other ∈ s
  · have hn : one ∉ s := by simpa [ho] using h2
    refine ⟨?_, fun x hx => ?_⟩
    · unfold rep
      rw [List.nodup_iff_pairwise_ne, List.pairwise_map]
      refine List.Pairwise.imp_of_mem ?_ (List.nodup_iff_pairwise_ne.1 h.1)
      intro a b ha hb hne
      split <;> split
      · rename_i e1 e2; exact absurd (e1.trans e2.symm) hne
      · exact fun e => hn (e ▸ hb)
      · exact fun e => hn (e ▸ ha)
      · exact hne
    · simp only [rep, List.mem_map] at hx
      obtain ⟨y, hy, rfl⟩ := hx
      split
      · exact h1
      · exact h.2 y hy
  · rw [rep_none ho]; exact h

set_option maxRecDepth 100000 in
set_option maxHeartbeats 1000000 in
theorem same_bad (n : Int) (ls : List (List Int)) (oa : Option Addr) (cap : Nat) (one other : Int) (w : World) (h : RowsAt w oa ls) (hl : ls.length ≤ 9223372036854775807)
    (hbad : (boardB n ls && (inB one 0 (n - 1) && (inB other 0 (n - 1) && !(one == other)))) = false) :
    Calls Tryz.prog 59 #[.agg #[.int .i64 n, .slice oa ls.length cap], .int .i64 one, .int .i64 other] w fun e w' => e = .returned (.tuple #[.bool false, .int .i64 2]) ∧ Ext w w' := by
  have bx := Lib.hid (BxI.start (n := n) (cap := cap) h)
  clear h
  cases hb : boardB n ls
  · clear hbad
    go_enter Tryz.func59, Tryz.ntmps59
    go_wp2_with (first | (go_at_call 73; refine (bx.out.board hl).mono ?_; rw [hb]; rintro e w1 ⟨rfl, b1⟩))
    go_ret2
    exact ⟨rfl, b1.ext⟩
  · rw [hb] at hbad
    have hn := board_small hb
    cases h1 : inB one 0 (n - 1)
    · clear hbad
      go_enter Tryz.func59, Tryz.ntmps59
      go_wp2_with (first | (go_at_call 73; refine (bx.out.board hl).mono ?_; rw [hb]; rintro e w1 ⟨rfl, b1⟩; have c0 := b1.c0; have c1 := b1.c1) | (go_at_call 83; refine (b1.name hn _ one).mono ?_; rw [h1]; rintro e w2 ⟨rfl, b2⟩))
      go_ret2
      exact ⟨rfl, b2.ext⟩
    · rw [h1] at hbad
      cases h2 : inB other 0 (n - 1)
      · clear hbad
        go_enter Tryz.func59, Tryz.ntmps59
        go_wp2_with (first | (go_at_call 73; refine (bx.out.board hl).mono ?_; rw [hb]; rintro e w1 ⟨rfl, b1⟩; have c0 := b1.c0; have c1 := b1.c1; have B1 := Lib.hid b1; clear b1) | (go_at_call 83; refine (B1.out.name hn _ one).mono ?_; rw [h1]; rintro e w2 ⟨rfl, b2⟩; clear c0 c1 B1; have c0 := b2.c0; have c1 := b2.c1; have B2 := Lib.hid b2; clear b2) | (go_at_call 83; refine (B2.out.name hn _ other).mono ?_; rw [h2]; rintro e w3 ⟨rfl, b3⟩))
        go_ret2
        exact ⟨rfl, b3.ext⟩
      · rw [h2] at hbad
        have h3 : (one == other) = true := by simpa using hbad
        clear hbad
        go_enter Tryz.func59, Tryz.ntmps59
        go_wp2_with (first | (go_at_call 73; refine (bx.out.board hl).mono ?_; rw [hb]; rintro e w1 ⟨rfl, b1⟩; have c0 := b1.c0; have c1 := b1.c1; have B1 := Lib.hid b1; clear b1) | (go_at_call 83; refine (B1.out.name hn _ one).mono ?_; rw [h1]; rintro e w2 ⟨rfl, b2⟩; clear c0 c1 B1; have c0 := b2.c0; have c1 := b2.c1; have B2 := Lib.hid b2; clear b2) | (go_at_call 83; refine (B2.out.name hn _ other).mono ?_; rw [h2]; rintro e w3 ⟨rfl, b3⟩))
        go_ret2
        exact ⟨rfl, b3.ext⟩

theorem up_idx (l : List Nat) (x : Nat) : (up l).idxOf (x : Int) = l.idxOf x := by
  induction l with
  | nil => rfl
  | cons y l ih =>
    simp only [up, List.map_cons] at *
    rw [List.idxOf_cons, List.idxOf_cons, ih]
    by_cases e : y = x
    · subst e; simp
    · have h1 : ((y : Int) == (x : Int)) = false := by simpa using (by omega : ¬ (y : Int) = x)
      have h2 : (y == x) = false := by simpa using e
      rw [h1, h2]
theorem up_mem {l : List Nat} {x : Nat} : (x : Int) ∈ up l ↔ x ∈ l := by
  simp only [up, List.mem_map]
  exact ⟨fun ⟨a, h, e⟩ => by rw [Int.ofNat.inj e] at h; exact h, fun h => ⟨x, h, rfl⟩⟩
theorem index_in {l : List Nat} {x : Nat} (h : x ∈ l) : indexI (up l) x = (l.idxOf x : Nat) := by rw [indexI, if_pos (up_mem.2 h), up_idx]
theorem index_out {l : List Nat} {x : Nat} (h : x ∉ l) : indexI (up l) x = -1 := by rw [indexI, if_neg (fun k => h (up_mem.1 k))]
theorem rep_len (one other : Nat) (l : List Nat) : (rep one other l).length = l.length := by simp [rep]
theorem up_set (l : List Nat) (i x : Nat) : (up l).set i (x : Int) = up (l.set i x) := by simp [up, List.map_set]
theorem both_succ {ss : List (List Nat)} {one other k : Nat} (hk : k < ss.length) (h : bothIn (ss.take k) one other = false) (h2 : (decide (other ∈ ss[k]) && decide (one ∈ ss[k])) = false) : bothIn (ss.take (k + 1)) one other = false := by
  rw [bothIn, List.take_succ_eq_append_getElem hk, List.any_append] at *
  rw [h]; simpa using h2
theorem both_at {ss : List (List Nat)} {one other k : Nat} (hk : k < ss.length) (h1 : other ∈ ss[k]) (h2 : one ∈ ss[k]) : bothIn ss one other = true :=
  List.any_eq_true.2 ⟨ss[k], List.getElem_mem hk, by simp [h1, h2]⟩
theorem rep_valid {n one other : Nat} {ss : List (List Nat)} (hv : Valid n ss) (h1 : one < n) (h : bothIn ss one other = false) : Valid n (ss.map (rep one other)) := by
  intro s hs
  obtain ⟨l, hl, rfl⟩ := List.mem_map.1 hs
  rw [bothIn, List.any_eq_false] at h
  exact rep_ok (hv l hl) h1 (by simpa using h l hl)

/-- The box of a board, and that it was laid. -/
structure Sx (n : Nat) (ss : List (List Nat)) (oa : Option Addr) (cap : Nat) (w W : World) : Prop where
  bx : Bx n ss oa cap w W
  ext0 : Ext (w.alloc (.cells #[.int .i64 n, .slice oa ss.length cap] 24)) W
theorem Sx.start {n : Nat} {ss : List (List Nat)} {oa : Option Addr} {cap : Nat} {w : World} (h : RowsAt w oa (upp ss)) : Sx n ss oa cap w (w.alloc (.cells #[.int .i64 n, .slice oa ss.length cap] 24)) := ⟨Bx.start h, Ext.refl _⟩
theorem Sx.next {n : Nat} {ss : List (List Nat)} {oa : Option Addr} {cap : Nat} {w W W' : World} (h : Sx n ss oa cap w W) (hE : Ext W W') : Sx n ss oa cap w W' := ⟨h.bx.next hE, h.ext0.trans hE⟩
theorem Sx.board {n : Nat} {ss : List (List Nat)} {oa : Option Addr} {cap : Nat} {w W : World} (h : Sx n ss oa cap w W) (g : Good n ss) :
    Calls Tryz.prog 73 #[.agg #[.int .i64 n, .slice oa ss.length cap]] W fun e w' => e = .returned (.bool true) ∧ Sx n ss oa cap w w' := by
  have := isBoard_any n (upp ss) oa cap W h.bx.rows (by rw [upp_length]; have := g.len; omega)
  rw [g.isB, upp_length] at this
  exact this.mono fun e w' ⟨h1, h2⟩ => ⟨h1, h.next h2⟩
theorem Sx.name {n : Nat} {ss : List (List Nat)} {oa : Option Addr} {cap : Nat} {w W : World} (h : Sx n ss oa cap w W) (g : Good n ss) (s : Value) (x : Nat) (hx : x < n) :
    Calls Tryz.prog 83 #[.agg #[.int .i64 n, s], .int .i64 x] W fun e w' => e = .returned (.bool true) ∧ Sx n ss oa cap w w' :=
  (isName_any n x s W (by omega) (by have := g.le; omega)).mono fun e w' ⟨h1, h2⟩ => ⟨by rw [h1]; congr 2; simp [inB]; omega, h.next h2⟩
theorem Sx.frozen1 {n : Nat} {ss : List (List Nat)} {oa : Option Addr} {cap : Nat} {w W : World} (h : Sx n ss oa cap w W) : W.frozen? ⟨w.heap.size, 1, none⟩ = false := (h.ext0.frozen (by simp)).trans (by go_simp)
theorem Sx.tag {n : Nat} {ss : List (List Nat)} {oa : Option Addr} {cap : Nat} {w W : World} (h : Sx n ss oa cap w W) : ∃ c, W.heap[w.heap.size]? = some (.cells c 24 (0, 0)) := ⟨_, (h.ext0.block w.heap.size (by simp)).trans (heap_alloc_new w _)⟩

set_option maxRecDepth 100000 in
set_option maxHeartbeats 1000000 in
theorem same_any (n : Nat) (ss : List (List Nat)) (oa : Option Addr) (cap : Nat) (one other : Nat) (w : World) (h : RowsAt w oa (upp ss)) (g : Good n ss) (h1 : one < n) (h2 : other < n) (hne : one ≠ other) :
    Calls Tryz.prog 59 #[.agg #[.int .i64 n, .slice oa ss.length cap], .int .i64 one, .int .i64 other] w fun e w' => e = .returned (.tuple #[.bool (sameOf n ss one other), .int .i64 0]) ∧ Ext w w' := by
  have bx := Lib.hid (Sx.start (n := n) (cap := cap) h)
  have G := Lib.hid g
  have H := Lib.hid h
  have hm6 := g.len
  have h3 : ((one : Int) == (other : Int)) = false := by simpa using (by omega : ¬ (one : Int) = other)
  have hv6 := Lib.hid (fun l (hl : l ∈ ss) => (nodup_le n l (g.valid l hl).1 (g.valid l hl).2))
  have hnn := g.le
  clear h g hne
  go_enter Tryz.func59, Tryz.ntmps59
  go_wp2_with (first | (go_at_call 73; refine (bx.out.board G.out).mono ?_; rintro e w1 ⟨rfl, b1⟩; have c0 := b1.bx.c0; have c1 := b1.bx.c1; have B1 := Lib.hid b1; clear b1) | (go_at_call 83; refine (B1.out.name G.out _ one h1).mono ?_; rintro e w2 ⟨rfl, b2⟩; clear c0 c1 B1; have c0 := b2.bx.c0; have c1 := b2.bx.c1; have B2 := Lib.hid b2; clear b2) | (go_at_call 83; refine (B2.out.name G.out _ other h2).mono ?_; rintro e w3 ⟨rfl, b3⟩; clear c0 c1 B2; have c0 := b3.bx.c0; have c1 := b3.bx.c1; have B3 := Lib.hid b3; clear b3))
  clear c0 c1
  have hw3 : w.heap.size < w3.heap.size := World.block_lt_of_cell? _ _ B3.out.bx.c0
  go_loopg [8, 35] ss.length (fun g v i wr => ∃ k : Nat, k + g = ss.length ∧ i = .int .i64 k ∧ Ext w3 wr ∧ OwnR wr w.heap.size w3.heap.size v ((ss.take k).map (rep one other)) ∧ bothIn (ss.take k) one other = false)
  case atStart => exact ⟨0, by simp, rfl, Ext.refl _, OwnR.nil _ (by omega), by simp [bothIn]⟩
  case round =>
    obtain ⟨k, hk, rfl, hE, hown, hbo⟩ := hrel
    have Hown := Lib.hid hown
    have Hbo := Lib.hid hbo
    clear hown hbo
    obtain ⟨wo, rfl⟩ : ∃ wo : World, wo = wr := ⟨_, rfl⟩
    have Bo := Lib.hid (B3.out.next hE)
    have c0 := Bo.out.bx.c0
    have c1 := Bo.out.bx.c1
    by_cases hlt : k < ss.length
    · obtain ⟨b, off, ox, cx, hoa, hcx, x1, x2, hrow⟩ := rows_e H.out Bo.out.bx.ext hlt (base := w.heap.size) (Nat.le_refl _)
      subst hoa
      have hlen6 := hv6.out _ (List.getElem_mem hlt)
      have hb1 := Lib.hid (fun (p : other ∈ ss[k]) (q : one ∈ ss[k]) => both_at hlt p q)
      have hb2 := Lib.hid (fun q => both_succ hlt Hbo.out q)
      have htk : (ss.take (k + 1)).map (rep one other) = (ss.take k).map (rep one other) ++ [rep one other ss[k]] := by rw [List.take_succ_eq_append_getElem hlt, List.map_append]; rfl
      have Htk := Lib.hid htk
      have hvk := Lib.hid (G.out.valid _ (List.getElem_mem hlt)).1
      obtain ⟨x, hx⟩ : ∃ x, x = ss[k] := ⟨_, rfl⟩
      rw [← hx] at hcx x1 hrow hlen6 hb1 hb2 Htk hvk
      have X4 := Lib.hid (show IntsAt wo ox (up x) by obtain ⟨ox', cx', e1, _, _, _, e2⟩ := hrow.ints; simp only [Value.slice.injEq] at e1; rw [e1.1]; exact e2)
      have xn : Hid (ox = none → cx = 0) := Lib.hid (by obtain ⟨ox', cx', e1, _, _, e3, _⟩ := hrow.ints; simp only [Value.slice.injEq] at e1; rw [e1.1, e1.2.2]; exact e3)
      clear htk hrow hx
      have htl : ((ss.take k).map (rep one other)).length = k := by rw [List.length_map, List.length_take]; omega
      have hix := sindex_any (up x) ox cx (other : Int) wo X4.out (by rw [up_length]; omega)
      have hco := contains_any (up x) ox x.length cx (one : Int) wo (up_length x) X4.out (by rw [up_length]; omega)
      have hcl := clone_ints X4.out (by omega) xn.out x1
      rw [up_length] at hix
      rw [mem_up] at hco
      by_cases hin : other ∈ x
      · rw [index_in hin] at hix
        have hil := List.idxOf_lt_length_of_mem hin
        by_cases hin1 : one ∈ x
        · rw [decide_eq_true hin1] at hco
          have hso : sameOf n ss one other = false := by rw [sameOf, hb1.out hin hin1]; rfl
          have Hso := Lib.hid hso
          have Hix := Lib.hid hix
          have Hco := Lib.hid hco
          clear hix hco hin hin1 hso
          go_wp2_with (first | (go_at_call 102; refine Hix.out.mono ?_; rintro e w5 ⟨rfl, rfl⟩) | (go_at_call 100; refine Hco.out.mono ?_; rintro e w6 ⟨rfl, rfl⟩))
          go_ret2
          rw [Hso.out]
          exact ⟨rfl, Bo.out.bx.ext⟩
        · rw [decide_eq_false hin1] at hco
          have hbb := hb2.out (by simp [hin1])
          have hrs := rep_set (one := one) hvk.out hin
          have Hrs := Lib.hid hrs
          have Hbb := Lib.hid hbb
          have Hix := Lib.hid hix
          have Hco := Lib.hid hco
          have Hcl := Lib.hid hcl
          clear hix hco hin hin1 hcl hbb hrs
          generalize hI : x.idxOf other = I at *
          clear hI
          go_wp2_with (first | (go_at_call 102; refine Hix.out.mono ?_; rintro e w5 ⟨rfl, rfl⟩) | (go_at_call 100; refine Hco.out.mono ?_; rintro e w6 ⟨rfl, rfl⟩) | (go_at_call 103; refine Hcl.out.mono ?_; rintro e w4 ⟨v4, rfl, hown4, hE4⟩; obtain ⟨g0, cx4, hv4, q1, q2, q3, q4, q5, q6, q7⟩ := hown4.cellAt (i := I) (by rw [List.length_map, up_length]; exact hil) (.int .i64 one); simp only [List.length_map, up_length, List.getElem_map] at hv4 q3 q5; subst hv4; have Q7 := Lib.hid q7; clear q7 hown4) | (at_builtin; refine wpList_appR _ rfl _ _ rfl w.heap.size w3.heap.size _ ((ss.take k).map (rep one other)) rfl ?_ _ (.slice (some ⟨g0, 0, none⟩) x.length cx4) (rep one other x) rfl (by go_simp) ?_ ?_ ?_ ?_))
          · exact Hown.out.ext ((ext_own hE4 ((Turned.refl g0 w4).set I _) q1).trans ((Ext.refl _).alloc _))
          · have := Q7.out
            rw [← List.map_set, up_set, Hrs.out] at this
            have := (RowE.of_own (base := w.heap.size) this).ext ((Ext.refl _).alloc (.cells #[.slice (some ⟨g0, 0, none⟩) x.length cx4] 27))
            exact this
          · omega
          · have := (hE.trans (ext_own hE4 ((Turned.refl g0 w4).set I (.int .i64 one)) q1)).size; simp at this ⊢; omega
          · intro v' w7 hown7 hBl
            have Ho7 := Lib.hid hown7; clear hown7
            have hE7 : Ext w3 w7 := ((hE.trans (ext_own hE4 ((Turned.refl g0 w4).set I (.int .i64 one)) q1)).alloc _).below hBl (Nat.le_refl _)
            go_wp2
            go_roundg (gk - 1)
            case measure => omega
            case rel => exact ⟨k + 1, by omega, by go_num, hE7, by rw [Htk.out, List.map_take]; exact Ho7.out, Hbb.out⟩
      · rw [index_out hin] at hix
        have hbb := hb2.out (by simp [hin])
        have hrn := rep_none (one := one) hin
        have Hrn := Lib.hid hrn
        have Hbb := Lib.hid hbb
        have Hix := Lib.hid hix
        have Hcl := Lib.hid hcl
        clear hix hco hin hcl hbb hrn
        go_wp2_with (first | (go_at_call 102; refine Hix.out.mono ?_; rintro e w5 ⟨rfl, rfl⟩) | (go_at_call 103; refine Hcl.out.mono ?_; rintro e w4 ⟨v4, rfl, hown4, hE4⟩; have Q7 := Lib.hid hown4; obtain ⟨o4, cx4, hv4, _⟩ := hown4.slice; simp only [List.length_map, up_length] at hv4; subst hv4; clear hown4) | (at_builtin; refine wpList_appR _ rfl _ _ rfl w.heap.size w3.heap.size _ ((ss.take k).map (rep one other)) rfl ?_ _ (.slice o4 x.length cx4) (rep one other x) rfl (by go_simp) ?_ ?_ ?_ ?_))
        · exact Hown.out.ext (hE4.trans ((Ext.refl _).alloc _))
        · rw [Hrn.out]
          exact (RowE.of_own (base := w.heap.size) Q7.out).ext ((Ext.refl _).alloc (.cells #[.slice o4 x.length cx4] 27))
        · omega
        · have := (hE.trans hE4).size; simp at this ⊢; omega
        · intro v' w7 hown7 hBl
          have Ho7 := Lib.hid hown7; clear hown7
          have hE7 : Ext w3 w7 := ((hE.trans hE4).alloc _).below hBl (Nat.le_refl _)
          go_wp2
          go_roundg (gk - 1)
          case measure => omega
          case rel => exact ⟨k + 1, by omega, by go_num, hE7, by rw [Htk.out, List.map_take]; exact Ho7.out, Hbb.out⟩
    · have hkk : k = ss.length := by omega
      have hsl := Hown.out
      have hbn := Hbo.out
      rw [hkk, List.take_length] at hsl hbn
      have hval := Lib.hid (rep_valid G.out.valid h1 hbn)
      have hso : sameOf n ss one other = !cyc n (ss.map (rep one other)) := by rw [sameOf, hbn]; rfl
      have Hso := Lib.hid hso
      have hml : (ss.map (rep one other)).length = ss.length := List.length_map ..
      have hml6 : (ss.map (rep one other)).length ≤ 1000 := by omega
      obtain ⟨oa3, cap3, hv3, e1, e2, e3, _⟩ := hsl.slice
      rw [hml] at hv3
      subst hv3
      have f1 := Bo.out.frozen1
      have hT := (Turned.refl w.heap.size wo).set 1 (.slice oa3 ss.length cap3)
      have hh := hsl.turned hT (Nat.le_refl _) hw3 (tag_set Bo.out.tag (by decide))
      obtain ⟨oa4, cap4, hv4, _, _, _, hr4⟩ := hh.slice
      simp only [Value.slice.injEq] at hv4
      rw [← hv4.1] at hr4
      have hcan := can_any n (ss.map (rep one other)) oa3 cap3 _ hr4 hml6 hnn hval.out
      rw [hml] at hcan
      have Hcan := Lib.hid hcan
      have hEe := Lib.hid (ext_own Bo.out.bx.ext hT (Nat.le_refl _))
      clear hcan hr4 hv4 hh hT hsl hbn hkk e1 e2 e3 hso hml hml6 Hown
      go_wp2_with (first | (go_at_call 96; refine Hcan.out.mono ?_; rintro e w8 ⟨rfl, hE8⟩))
      go_ret2
      rw [Hso.out]
      exact ⟨rfl, hEe.out.trans hE8⟩

end Go.Proofs.YtiehfpkcaoeieaaGreatDoor
