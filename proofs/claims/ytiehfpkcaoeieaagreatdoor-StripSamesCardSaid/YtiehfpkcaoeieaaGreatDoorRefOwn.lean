/- Contracts of the reference: Owners, Merged, Same. No condition beyond boards as defined. -/
import Derived.Test.YtiehfpkcaoeieaaGreatDoorRefWr2
set_option linter.unusedVariables false
set_option linter.unusedSimpArgs false
namespace Go.Proofs.YtiehfpkcaoeieaaGreatDoor
open Go.RowKit Go.My Go.StripM

theorem levels_n (n : Nat) (ss : List (List Nat)) (oa : Option Addr) (cap : Nat) (w : World) (h : RowsAt w oa (upp ss)) (g : Good n ss) :
    Calls Tryz.prog 88 #[.agg #[.int .i64 n, .slice oa ss.length cap]] w fun e w' => LevPost (w.heap.size + 1) n (levels n ss) e w' ∧ Ext w w' :=
  levels_r n ss oa cap w h g.le g.len g.spots5 (fun s hs x hx => (g.valid s hs).2 x hx)

set_option maxRecDepth 100000 in
set_option maxHeartbeats 2000000 in
theorem owners_r (n : Nat) (ss : List (List Nat)) (oa : Option Addr) (cap : Nat) (w : World) (h : RowsAt w oa (upp ss)) (g : Good n ss) :
    Calls Tryz.prog 61 #[.agg #[.int .i64 n, .slice oa ss.length cap]] w fun e w' => e = .returned (.int .i64 ((if cyc n ss = true then 0 else ownersOf n ss : Nat) : Int)) ∧ Ext w w' := by
  have hE0 := (Ext.refl w).alloc (.cells #[.int .i64 n, .slice oa ss.length cap] 24)
  have hlev := levels_n n ss oa cap _ (h.ext hE0) g
  cases hc : cyc n ss
  · obtain ⟨l, hl, hll, hch, _⟩ := levels_some g.valid hc
    have hmx := owners_levels g.le g.valid hl
    have hsm : ∀ i, i < n → l.getD i 0 ≤ n := fun i hi => chTo_le g.valid hc hi (hch i hi)
    rw [hl] at hlev
    rw [← hmx]
    have Hlev := Lib.hid hlev
    have Hsm := Lib.hid hsm
    have hn6 := g.le
    clear hlev hl h g hc hmx hch hsm
    go_enter Tryz.func61, Tryz.ntmps61
    go_wp2_with (first | (go_at_call 88; refine Hlev.out.mono ?_; rintro e w1 ⟨⟨rfl, _, hint⟩, hE2⟩; have Hint := Lib.hid hint; clear hint))
    go_loopg [5, 6] n (fun g v i wr => ∃ k : Nat, k + g = n ∧ i = .int .i64 k ∧ v = .int .i64 (mx (l.take k) : Nat) ∧ wr = w1)
    case atStart => exact ⟨0, by simp, rfl, rfl, rfl⟩
    case round =>
      obtain ⟨k, hk, rfl, rfl, rfl⟩ := hrel
      by_cases hlt : k < n
      · have hkl : k < l.length := by omega
        obtain ⟨b, off, hob, _, hc⟩ := Hint.out.at (k := k) (by rw [up_length]; exact hkl)
        rw [show (up l)[k]'(by rw [up_length]; exact hkl) = ((l[k] : Nat) : Int) by simp [up]] at hc
        obtain ⟨rfl, rfl⟩ : (w.alloc (.cells #[.int .i64 n, .slice oa ss.length cap] 24)).heap.size + 1 = b ∧ 0 = off := by injection hob with h1; injection h1 with h2 h3 h4; exact ⟨h2, h3⟩
        rw [Nat.zero_add] at hc
        have hmx : mx (l.take (k + 1)) = max (mx (l.take k)) l[k] := by rw [List.take_succ_eq_append_getElem hkl, mx_append]
        have Hmx := Lib.hid hmx
        have hc2 : wr.cell? ⟨w.heap.size + 1 + 1, k, none⟩ = some (.int .i64 l[k]) := by simpa using hc
        clear hmx hob hc
        generalize l[k] = y at *
        generalize mx (l.take k) = M at *
        go_wp2
        go_roundg (gk - 1)
        case measure => omega
        case rel => exact ⟨k + 1, by omega, by go_num, by rw [Hmx.out]; first | rfl | (congr 1; omega), rfl⟩
      · obtain rfl : k = n := by omega
        have htk : l.take k = l := List.take_of_length_le (by omega)
        rw [htk]
        go_wp2
        go_ret
        exact ⟨rfl, hE0.trans hE2⟩
  · rw [levels_none g.valid hc] at hlev
    have Hlev := Lib.hid hlev
    clear hlev h g hc
    go_enter Tryz.func61, Tryz.ntmps61
    go_wp2_with (first | (go_at_call 88; refine Hlev.out.mono ?_; rintro e w1 ⟨hpost, hE2⟩; obtain rfl : e = .returned (.tuple #[.slice none 0 0, .bool false]) := hpost))
    go_loopg [5, 6] 0 (fun g v i wr => i = .int .i64 0 ∧ v = .int .i64 0 ∧ wr = w1)
    case atStart => exact ⟨rfl, rfl, rfl⟩
    case round =>
      obtain ⟨rfl, rfl, rfl⟩ := hrel
      go_wp2
      go_ret
      exact ⟨rfl, hE0.trans hE2⟩

/-- What the walk of Merged holds. -/
structure Oz (n : Nat) (ss : List (List Nat)) (oa : Option Addr) (cap : Nat) (w W : World) (v : Value) (M : List (List Nat)) : Prop where
  ext : Ext ((w.alloc (.cells #[.int .i64 n, .slice oa ss.length cap] 24)).alloc (.cells #[.int .i64 0, .slice none 0 0] 24)) W
  p0 : W.cell? ⟨w.heap.size + 2, 0, none⟩ = some (.int .i64 n)
  p1 : W.cell? ⟨w.heap.size + 2, 1, none⟩ = some v
  f1 : W.frozen? ⟨w.heap.size + 2, 1, none⟩ = false
  tag : ∃ c, W.heap[w.heap.size + 2]? = some (.cells c 24 (0, 0))
  own : OwnR W w.heap.size (w.heap.size + 3) v M
  lt : w.heap.size + 3 ≤ W.heap.size
theorem Oz.step {n : Nat} {ss : List (List Nat)} {oa : Option Addr} {cap : Nat} {w wr W1 w2 : World} {v v2 : Value} {M M2 : List (List Nat)} (h : Oz n ss oa cap w wr v M) (hX1 : Ext wr W1) (hBl : Below (w.heap.size + 3) W1 w2)
    (hown : OwnR w2 w.heap.size (w.heap.size + 3) v2 M2) : Oz n ss oa cap w (w2.setCell ⟨w.heap.size + 2, 1, none⟩ v2) v2 M2 := by
  have hlt := h.lt
  have hsz := hX1.size
  have hsz2 := hBl.size
  have q0 := cell_below hBl (Nat.lt_succ_self _) (cell_ext hX1 h.p0)
  have q1 := cell_below hBl (Nat.lt_succ_self _) (cell_ext hX1 h.p1)
  have g1 : w2.frozen? ⟨w.heap.size + 2, 1, none⟩ = false := (hBl.frozen (Nat.lt_succ_self _)).trans ((hX1.frozen (World.block_lt_of_cell? _ _ h.p1)).trans h.f1)
  have tg : ∃ c, w2.heap[w.heap.size + 2]? = some (.cells c 24 (0, 0)) := by
    obtain ⟨c, hc⟩ := h.tag
    exact ⟨c, (hBl.block _ (Nat.lt_succ_self _)).trans ((hX1.block _ (Array.getElem?_eq_some_iff.1 hc).1).trans hc)⟩
  have hT := (Turned.refl (w.heap.size + 2) w2).set 1 v2
  have hE : Ext ((w.alloc (.cells #[.int .i64 n, .slice oa ss.length cap] 24)).alloc (.cells #[.int .i64 0, .slice none 0 0] 24)) w2 := (h.ext.trans hX1).below hBl (by simp)
  refine ⟨ext_own hE hT (by simp), ?_, World.cell?_setCell_same _ _ _ q1, (World.frozen?_setCell _ _ _ _).trans g1, tag_cell _ _ tg, ?_, by simp [World.setCell]; omega⟩
  · rw [World.cell?_setCell_other _ _ _ _ (by simp)]; exact q0
  · exact hown.turned hT (by omega) (by omega) (tag_set tg (by decide))

def MergedR (n : Nat) (ss : List (List Nat)) (one other : Nat) (e : Ending) (w' : World) : Prop :=
  if bothIn ss one other = true then e = .returned (.tuple #[.agg #[.int .i64 0, .slice none 0 0], .bool false])
  else ∃ o2 c2, e = .returned (.tuple #[.agg #[.int .i64 n, .slice o2 ss.length c2], .bool true]) ∧ RowsAt w' o2 (upp (ss.map (rep one other)))

set_option maxRecDepth 100000 in
set_option maxHeartbeats 8000000 in
theorem merged_r (n : Nat) (ss : List (List Nat)) (oa : Option Addr) (cap one other : Nat) (w : World) (h : RowsAt w oa (upp ss)) (g : Good n ss) (h1 : one < n) (h2 : other < n) :
    Calls Tryz.prog 107 #[.agg #[.int .i64 n, .slice oa ss.length cap], .int .i64 one, .int .i64 other] w fun e w' => MergedR n ss one other e w' ∧ Ext w w' := by
  have hE2 : Ext w ((w.alloc (.cells #[.int .i64 n, .slice oa ss.length cap] 24)).alloc (.cells #[.int .i64 0, .slice none 0 0] 24)) := ((Ext.refl w).alloc _).alloc _
  have H := Lib.hid h
  have hls := g.len
  have H5 := Lib.hid g.spots5
  have hn6 := g.le
  clear h g
  go_enter Tryz.func107, Tryz.ntmps107
  go_wp2
  go_loopg [9] ss.length (fun g i wr => ∃ (k : Nat) (v : Value), k + g = ss.length ∧ i = .int .i64 k ∧ Oz n ss oa cap w wr v ((ss.map (rep one other)).take k) ∧ bothIn (ss.take k) one other = false)
  case atStart =>
    refine ⟨0, .slice none 0 0, by simp, rfl, ⟨(Ext.refl _).alloc _, by go_simp, by go_simp, by go_simp, ?_, OwnR.nil _ (by omega), by simp⟩, by simp [bothIn]⟩
    have := heap_alloc_new ((w.alloc (.cells #[.int .i64 n, .slice oa ss.length cap] 24)).alloc (.cells #[.int .i64 0, .slice none 0 0] 24)) (.cells #[.int .i64 n, .slice none 0 0] 24)
    exact ⟨_, by simpa only [World.size_alloc] using this⟩
  case round =>
    obtain ⟨k, v, hk, rfl, ho, hbo⟩ := hrel
    obtain ⟨g0, rfl⟩ : ∃ g0 : Nat, g0 = gk := ⟨_, rfl⟩
    obtain ⟨wo, rfl⟩ : ∃ wo : World, wo = wr := ⟨_, rfl⟩
    have Ho := Lib.hid ho
    have Hbo := Lib.hid hbo
    have p1 := ho.p1
    have hlq := ho.lt
    have hEr := ho.ext
    have c1 : wo.cell? ⟨w.heap.size, 1, none⟩ = some (.slice oa ss.length cap) := cell_ext hEr (by go_simp)
    clear ho hbo
    by_cases hlt : k < ss.length
    · obtain ⟨b2, off2, o2, c2, hoa, hb2, hc2, e1, e2, e3, e4⟩ := rows_up H.out hlt
      subst hoa
      have hEw := hE2.trans hEr
      have hc2r := cell_ext hEw hc2
      have hints := e4.ext hEw
      have hs5 := H5.out _ (List.getElem_mem hlt)
      have hl1 := listed_any (up ss[k]) o2 ss[k].length c2 one wo (up_length _) hints (by rw [up_length]; omega)
      have hl2 := listed_any (up ss[k]) o2 ss[k].length c2 other wo (up_length _) hints (by rw [up_length]; omega)
      rw [mem_up] at hl1 hl2
      have Hints := Lib.hid hints
      have hboth := both_succ (one := one) (other := other) hlt Hbo.out
      have hbat := both_at (ss := ss) (one := one) (other := other) hlt
      have htake : (ss.map (rep one other)).take (k + 1) = (ss.map (rep one other)).take k ++ [rep one other ss[k]] := by rw [List.take_succ_eq_append_getElem (by rw [List.length_map]; exact hlt), List.getElem_map]
      have Htake := Lib.hid htake
      have T52 := Lib.hid trivial
      clear hc2 e3 e4 hints htake
      by_cases hin1 : one ∈ ss[k]
      · rw [decide_eq_true hin1] at hl1
        by_cases hin2 : other ∈ ss[k]
        · rw [decide_eq_true hin2] at hl2
          have Hl1 := Lib.hid hl1
          have Hl2 := Lib.hid hl2
          have hb := hbat hin2 hin1
          have Hb := Lib.hid hb
          have r0 : wo.cell? ⟨w.heap.size + 1, 0, none⟩ = some (.int .i64 0) := cell_ext hEr (by go_simp)
          have r1 : wo.cell? ⟨w.heap.size + 1, 1, none⟩ = some (.slice none 0 0) := cell_ext hEr (by go_simp)
          have g0 : wo.frozen? ⟨w.heap.size + 1, 0, none⟩ = false := (hEr.frozen (by simp)).trans (by go_simp)
          have g1 : wo.frozen? ⟨w.heap.size + 1, 1, none⟩ = false := (hEr.frozen (by simp)).trans (by go_simp)
          have HEw := Lib.hid hEw
          clear hl1 hl2 hb hboth hbat hin1 hin2 hEw hEr
          generalize ss[k] = s at *
          go_wp2_with (first | (go_at_call 52; have t0 := T52; clear t0 T52; refine Hl1.out.mono ?_; rintro e w1 ⟨rfl, rfl⟩) | (go_at_call 52; refine Hl2.out.mono ?_; rintro e w1 ⟨rfl, rfl⟩))
          refine bodyPost_ret (v := .tuple #[.agg #[.int .i64 0, .slice none 0 0], .bool false]) (results_cell24t rfl _ _ (w.heap.size + 1) _ _ _ (by simp) (by simp) (by go_simp) (by go_simp)) (by simp) ⟨?_, ?_⟩
          · rw [MergedR, if_pos Hb.out]
          · exact ext_own (ext_own HEw.out ((Turned.refl (w.heap.size + 1) _).set 0 _) (by omega)) ((Turned.refl (w.heap.size + 1) _).set 1 _) (by omega)
        · rw [decide_eq_false hin2] at hl2
          have Hl1 := Lib.hid hl1
          have Hl2 := Lib.hid hl2
          have Hbn := Lib.hid (hboth (by simp [hin2]))
          clear hl1 hl2 hboth hbat hin1 hin2 hEw
          generalize ss[k] = s at *
          go_wp2_with (first | (go_at_call 52; have t0 := T52; clear t0 T52; refine Hl1.out.mono ?_; rintro e w1 ⟨rfl, rfl⟩) | (go_at_call 52; refine Hl2.out.mono ?_; rintro e w1 ⟨rfl, rfl⟩))
          go_loopg [10, 11] s.length (fun g u i wr => ∃ j : Nat, j + g = s.length ∧ i = .int .i64 j ∧ Ext wo wr ∧ My.Own wr wo.heap.size 3 u ((up ((rep one other s).take j)).map (Value.int .i64)))
          case atStart => exact ⟨0, by simp, rfl, Ext.refl _, Own.nil _ _ _⟩
          case round =>
            obtain ⟨j, hj, rfl, hE, hown⟩ := hrel
            have Hown := Lib.hid hown
            have c1' := cell_ext hE c1
            have hc2' := cell_ext hE hc2r
            have hszr := hE.size
            clear hown
            by_cases hjl : j < s.length
            · obtain ⟨b3, off3, ho3, _, hx⟩ := (Hints.out.ext hE).at (k := j) (by rw [up_length]; exact hjl)
              subst ho3
              rw [show (up s)[j]'(by rw [up_length]; exact hjl) = ((s[j] : Nat) : Int) by simp [up]] at hx
              have hjr : j < (rep one other s).length := by rw [rep_len]; exact hjl
              have hget : (rep one other s)[j] = if s[j] = other then one else s[j] := by simp [rep]
              have htk : (rep one other s).take (j + 1) = (rep one other s).take j ++ [if s[j] = other then one else s[j]] := by rw [List.take_succ_eq_append_getElem hjr, hget]
              have hlen9 : ((up ((rep one other s).take j)).map (Value.int .i64)).length ≤ 5 := by rw [List.length_map, up_length, List.length_take]; omega
              clear hjr hget
              by_cases hxo : s[j] = other
              · rw [if_pos hxo] at htk
                have Htk := Lib.hid htk
                have hxI : ((s[j] : Nat) : Int) = (other : Int) := by rw [hxo]
                rw [hxI] at hx
                clear htk hxo hxI
                go_wp2_with (first | (at_builtin; refine wpList_app1 _ rfl _ _ 27 rfl 3 Tryz.underlying27 (.int .i64 0) 8 i3 rfl (by decide) wo.heap.size _ _ rfl (Hown.out.ext ((Ext.refl _).alloc _)) wr.heap.size (.int .i64 one) rfl (by go_simp) rfl ?_ ?_ ?_))
                · omega
                · simp; omega
                · intro v' w8 hown8 hBl _
                  have Ho8 := Lib.hid hown8; clear hown8
                  go_wp2
                  go_roundg (gk - 1)
                  case measure => omega
                  case rel => exact ⟨j + 1, by omega, by go_num, (hE.alloc _).below hBl (Nat.le_refl _), by rw [Htk.out, up_snoc, List.map_append]; exact Ho8.out⟩
              · rw [if_neg hxo] at htk
                have Htk := Lib.hid htk
                have hxI : ¬ (((s[j] : Nat) : Int) = (other : Int)) := by omega
                have hxb : (((s[j] : Nat) : Int) == (other : Int)) = false := by simpa using hxI
                clear htk
                generalize s[j] = x at *
                go_wp2_with (first | (at_builtin; refine wpList_app1 _ rfl _ _ 27 rfl 3 Tryz.underlying27 (.int .i64 0) 8 i3 rfl (by decide) wo.heap.size _ _ rfl (Hown.out.ext ((Ext.refl _).alloc _)) wr.heap.size (.int .i64 x) rfl (by go_simp) rfl ?_ ?_ ?_))
                · omega
                · simp; omega
                · intro v' w8 hown8 hBl _
                  have Ho8 := Lib.hid hown8; clear hown8
                  go_wp2
                  go_roundg (gk - 1)
                  case measure => omega
                  case rel => exact ⟨j + 1, by omega, by go_num, (hE.alloc _).below hBl (Nat.le_refl _), by rw [Htk.out, up_snoc, List.map_append]; exact Ho8.out⟩
            · obtain rfl : j = s.length := by omega
              have hfull := Hown.out
              rw [List.take_of_length_le (by rw [rep_len]; exact Nat.le_refl _)] at hfull
              have hre : RowE wr w.heap.size _ (up (rep one other s)) := RowE.of_own hfull
              obtain ⟨o10, c10, hv10, _⟩ := hre.ints
              rw [up_length, rep_len] at hv10
              subst hv10
              have Hre := Lib.hid hre
              have hp1 := cell_ext hE p1
              clear hfull hre Hown
              go_wp2_with (first | (at_builtin; refine wpList_appR _ rfl _ _ rfl w.heap.size (w.heap.size + 3) _ ((ss.map (rep one other)).take k) rfl (Ho.out.own.ext (hE.alloc _)) wr.heap.size (.slice o10 s.length c10) (rep one other s) rfl (by go_simp) (Hre.out.ext ((Ext.refl _).alloc _)) ?_ ?_ ?_))
              · rw [List.length_take, List.length_map]; omega
              · simp; omega
              · intro v2 w2 hown2 hBl
                obtain ⟨o9, c9, L9, hv9⟩ : ∃ o9 c9 L9, v2 = Value.slice o9 L9 c9 := by obtain ⟨x9, y9, h9, _⟩ := hown2.slice; exact ⟨x9, y9, _, h9⟩
                subst hv9
                have hX1 : Ext wo (wr.alloc (.cells #[.slice o10 s.length c10] 27)) := hE.alloc _
                have hoz := Ho.out.step hX1 hBl hown2
                rw [← Htake.out] at hoz
                have Hoz := Lib.hid hoz
                have q1 := cell_below hBl (Nat.lt_succ_self _) (cell_ext hX1 p1)
                have g1 : w2.frozen? ⟨w.heap.size + 2, 1, none⟩ = false := (hBl.frozen (Nat.lt_succ_self _)).trans ((hX1.frozen (World.block_lt_of_cell? _ _ p1)).trans Ho.out.f1)
                clear hoz hown2
                go_wp2
                go_roundg (g0 - 1)
                case measure => omega
                case rel => exact ⟨k + 1, _, by omega, by go_num, Hoz.out, Hbn.out⟩
      · rw [decide_eq_false hin1] at hl1
        have Hl1 := Lib.hid hl1
        have Hbn := Lib.hid (hboth (by simp [hin1]))
        clear hl1 hl2 hboth hbat hin1 hEw
        generalize ss[k] = s at *
        go_wp2_with (first | (go_at_call 52; refine Hl1.out.mono ?_; rintro e w1 ⟨rfl, rfl⟩))
        go_loopg [10, 11] s.length (fun g u i wr => ∃ j : Nat, j + g = s.length ∧ i = .int .i64 j ∧ Ext wo wr ∧ My.Own wr wo.heap.size 3 u ((up ((rep one other s).take j)).map (Value.int .i64)))
        case atStart => exact ⟨0, by simp, rfl, Ext.refl _, Own.nil _ _ _⟩
        case round =>
          obtain ⟨j, hj, rfl, hE, hown⟩ := hrel
          have Hown := Lib.hid hown
          have c1' := cell_ext hE c1
          have hc2' := cell_ext hE hc2r
          have hszr := hE.size
          clear hown
          by_cases hjl : j < s.length
          · obtain ⟨b3, off3, ho3, _, hx⟩ := (Hints.out.ext hE).at (k := j) (by rw [up_length]; exact hjl)
            subst ho3
            rw [show (up s)[j]'(by rw [up_length]; exact hjl) = ((s[j] : Nat) : Int) by simp [up]] at hx
            have hjr : j < (rep one other s).length := by rw [rep_len]; exact hjl
            have hget : (rep one other s)[j] = if s[j] = other then one else s[j] := by simp [rep]
            have htk : (rep one other s).take (j + 1) = (rep one other s).take j ++ [if s[j] = other then one else s[j]] := by rw [List.take_succ_eq_append_getElem hjr, hget]
            have hlen9 : ((up ((rep one other s).take j)).map (Value.int .i64)).length ≤ 5 := by rw [List.length_map, up_length, List.length_take]; omega
            clear hjr hget
            by_cases hxo : s[j] = other
            · rw [if_pos hxo] at htk
              have Htk := Lib.hid htk
              have hxI : ((s[j] : Nat) : Int) = (other : Int) := by rw [hxo]
              rw [hxI] at hx
              clear htk hxo hxI
              go_wp2_with (first | (at_builtin; refine wpList_app1 _ rfl _ _ 27 rfl 3 Tryz.underlying27 (.int .i64 0) 8 i3 rfl (by decide) wo.heap.size _ _ rfl (Hown.out.ext ((Ext.refl _).alloc _)) wr.heap.size (.int .i64 one) rfl (by go_simp) rfl ?_ ?_ ?_))
              · omega
              · simp; omega
              · intro v' w8 hown8 hBl _
                have Ho8 := Lib.hid hown8; clear hown8
                go_wp2
                go_roundg (gk - 1)
                case measure => omega
                case rel => exact ⟨j + 1, by omega, by go_num, (hE.alloc _).below hBl (Nat.le_refl _), by rw [Htk.out, up_snoc, List.map_append]; exact Ho8.out⟩
            · rw [if_neg hxo] at htk
              have Htk := Lib.hid htk
              have hxI : ¬ (((s[j] : Nat) : Int) = (other : Int)) := by omega
              have hxb : (((s[j] : Nat) : Int) == (other : Int)) = false := by simpa using hxI
              clear htk
              generalize s[j] = x at *
              go_wp2_with (first | (at_builtin; refine wpList_app1 _ rfl _ _ 27 rfl 3 Tryz.underlying27 (.int .i64 0) 8 i3 rfl (by decide) wo.heap.size _ _ rfl (Hown.out.ext ((Ext.refl _).alloc _)) wr.heap.size (.int .i64 x) rfl (by go_simp) rfl ?_ ?_ ?_))
              · omega
              · simp; omega
              · intro v' w8 hown8 hBl _
                have Ho8 := Lib.hid hown8; clear hown8
                go_wp2
                go_roundg (gk - 1)
                case measure => omega
                case rel => exact ⟨j + 1, by omega, by go_num, (hE.alloc _).below hBl (Nat.le_refl _), by rw [Htk.out, up_snoc, List.map_append]; exact Ho8.out⟩
          · obtain rfl : j = s.length := by omega
            have hfull := Hown.out
            rw [List.take_of_length_le (by rw [rep_len]; exact Nat.le_refl _)] at hfull
            have hre : RowE wr w.heap.size _ (up (rep one other s)) := RowE.of_own hfull
            obtain ⟨o10, c10, hv10, _⟩ := hre.ints
            rw [up_length, rep_len] at hv10
            subst hv10
            have Hre := Lib.hid hre
            have hp1 := cell_ext hE p1
            clear hfull hre Hown
            go_wp2_with (first | (at_builtin; refine wpList_appR _ rfl _ _ rfl w.heap.size (w.heap.size + 3) _ ((ss.map (rep one other)).take k) rfl (Ho.out.own.ext (hE.alloc _)) wr.heap.size (.slice o10 s.length c10) (rep one other s) rfl (by go_simp) (Hre.out.ext ((Ext.refl _).alloc _)) ?_ ?_ ?_))
            · rw [List.length_take, List.length_map]; omega
            · simp; omega
            · intro v2 w2 hown2 hBl
              obtain ⟨o9, c9, L9, hv9⟩ : ∃ o9 c9 L9, v2 = Value.slice o9 L9 c9 := by obtain ⟨x9, y9, h9, _⟩ := hown2.slice; exact ⟨x9, y9, _, h9⟩
              subst hv9
              have hX1 : Ext wo (wr.alloc (.cells #[.slice o10 s.length c10] 27)) := hE.alloc _
              have hoz := Ho.out.step hX1 hBl hown2
              rw [← Htake.out] at hoz
              have Hoz := Lib.hid hoz
              have q1 := cell_below hBl (Nat.lt_succ_self _) (cell_ext hX1 p1)
              have g1 : w2.frozen? ⟨w.heap.size + 2, 1, none⟩ = false := (hBl.frozen (Nat.lt_succ_self _)).trans ((hX1.frozen (World.block_lt_of_cell? _ _ p1)).trans Ho.out.f1)
              clear hoz hown2
              go_wp2
              go_roundg (g0 - 1)
              case measure => omega
              case rel => exact ⟨k + 1, _, by omega, by go_num, Hoz.out, Hbn.out⟩
    · obtain rfl : k = ss.length := by omega
      have r0 : wo.cell? ⟨w.heap.size + 1, 0, none⟩ = some (.int .i64 0) := cell_ext hEr (by go_simp)
      have r1 : wo.cell? ⟨w.heap.size + 1, 1, none⟩ = some (.slice none 0 0) := cell_ext hEr (by go_simp)
      have g0 : wo.frozen? ⟨w.heap.size + 1, 0, none⟩ = false := (hEr.frozen (by simp)).trans (by go_simp)
      have g1 : wo.frozen? ⟨w.heap.size + 1, 1, none⟩ = false := (hEr.frozen (by simp)).trans (by go_simp)
      have hown := Ho.out.own
      have hbz := Hbo.out
      rw [List.take_of_length_le (Nat.le_refl _)] at hbz
      rw [List.take_of_length_le (by rw [List.length_map]; exact Nat.le_refl _)] at hown
      obtain ⟨o3, c3, hv3, q1, q2, q3, _⟩ := hown.slice
      rw [List.length_map] at hv3 q1
      subst hv3
      have p0 := Ho.out.p0
      have tg1 : ∃ c, wo.heap[w.heap.size + 1]? = some (.cells c 24 (0, 0)) := ⟨_, (hEr.block (w.heap.size + 1) (by simp)).trans (by have := heap_alloc_new (w.alloc (.cells #[.int .i64 n, .slice oa ss.length cap] 24)) (.cells #[.int .i64 0, .slice none 0 0] 24); simpa only [World.size_alloc] using this)⟩
      have Hown := Lib.hid hown
      have HE := Lib.hid (hE2.trans hEr)
      have Tg := Lib.hid tg1
      have Hbz := Lib.hid hbz
      clear hown q3 hEr tg1 hbz
      go_wp2
      refine bodyPost_ret (v := .tuple #[.agg #[.int .i64 n, .slice o3 ss.length c3], .bool true]) (results_cell24t rfl _ _ (w.heap.size + 1) _ _ _ (by simp) (by simp) (by go_simp) (by go_simp)) (by simp) ⟨?_, ?_⟩
      · rw [MergedR, if_neg (by rw [Hbz.out]; decide)]
        have hh := (Hown.out.turned ((Turned.refl (w.heap.size + 1) wo).set 0 (.int .i64 n)) (by omega) (by omega) (tag_set Tg.out (by decide))).turned ((Turned.refl (w.heap.size + 1) _).set 1 (.slice o3 ss.length c3)) (by omega) (by omega) (tag_set (tag_cell _ _ Tg.out) (by decide))
        obtain ⟨o4, c4, hv4, _, _, _, hr4⟩ := hh.slice
        simp only [Value.slice.injEq] at hv4
        rw [← hv4.1] at hr4
        exact ⟨o3, c3, rfl, hr4⟩
      · exact ext_own (ext_own HE.out ((Turned.refl (w.heap.size + 1) _).set 0 _) (by omega)) ((Turned.refl (w.heap.size + 1) _).set 1 _) (by omega)

end Go.Proofs.YtiehfpkcaoeieaaGreatDoor
