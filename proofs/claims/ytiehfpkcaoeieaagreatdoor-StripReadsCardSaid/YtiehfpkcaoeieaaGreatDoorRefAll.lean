/- Contracts of the reference: orders, All. No condition beyond boards as defined. -/
import Derived.Test.YtiehfpkcaoeieaaGreatDoorApp
set_option linter.unusedVariables false
set_option linter.unusedSimpArgs false
namespace Go.Proofs.YtiehfpkcaoeieaaGreatDoor
open Go.RowKit Go.My Go.StripM

def ordsTo (n k : Nat) (now : List Nat) (i : Nat) : List (List Nat) := (List.range i).flatMap fun x => if x ∈ now then [] else ords n k (now ++ [x])
theorem ordsTo_succ (n k : Nat) (now : List Nat) (i : Nat) : ordsTo n k now (i + 1) = ordsTo n k now i ++ if i ∈ now then [] else ords n k (now ++ [i]) := by simp [ordsTo, List.range_succ]
theorem ords_len (n : Nat) : ∀ (k : Nat) (now : List Nat), (ords n k now).length ≤ n ^ k
  | 0, now => by simp [ords]
  | k + 1, now => by
    have : ∀ i, (ordsTo n k now i).length ≤ i * n ^ k := by
      intro i
      induction i with
      | zero => simp [ordsTo]
      | succ i ih =>
        rw [ordsTo_succ, List.length_append, Nat.succ_mul]
        have : (if i ∈ now then [] else ords n k (now ++ [i])).length ≤ n ^ k := by
          split
          · exact Nat.zero_le _
          · exact ords_len n k _
        omega
    have := this n
    rw [Nat.pow_succ, Nat.mul_comm]
    exact this
theorem ordsTo_len (n k : Nat) (now : List Nat) (i : Nat) : (ordsTo n k now i).length ≤ i * n ^ k := by
  induction i with
  | zero => simp [ordsTo]
  | succ i ih =>
    rw [ordsTo_succ, List.length_append, Nat.succ_mul]
    have : (if i ∈ now then [] else ords n k (now ++ [i])).length ≤ n ^ k := by
      split
      · exact Nat.zero_le _
      · exact ords_len n k _
    omega
theorem ords_ne {n : Nat} : ∀ {k : Nat} {now : List Nat}, now.length + k = n → ords n k now ≠ []
  | 0, now, _ => by simp [ords]
  | k + 1, now, h => by
    obtain ⟨x, hx, hn⟩ : ∃ x, x < n ∧ x ∉ now := by
      apply Classical.byContradiction
      intro hc
      have : ∀ x ∈ List.range n, x ∈ now := fun x hx => Classical.byContradiction fun hm => hc ⟨x, List.mem_range.1 hx, hm⟩
      have := sub_len List.nodup_range this
      rw [List.length_range] at this
      omega
    have ih := ords_ne (n := n) (k := k) (now := now ++ [x]) (by simp; omega)
    intro he
    rw [ords, List.flatMap_eq_nil_iff] at he
    have := he x (List.mem_range.2 hx)
    rw [if_neg hn] at this
    exact ih this

theorem appE {w w1 : World} {b : Nat} {v : Value} (h : w.cell? ⟨b, 0, none⟩ = some v) (hE : Ext w w1) : w1.cell? ⟨b, 0, none⟩ = some v := cell_ext hE h
theorem rowE_ints {w : World} {B : Nat} {ob : Option Addr} {cb : Nat} {l : List Nat} (h : RowE w B (.slice ob l.length cb) (up l)) : IntsAt w ob (up l) ∧ (ob = none → cb = 0) ∧ l.length ≤ cb ∧ cb ≤ maxLen := by
  obtain ⟨oa, cap, h1, h2, h3, h4, h5⟩ := h.ints
  rw [up_length] at h1 h2
  cases h1
  exact ⟨h5, h4, h2, h3⟩

set_option maxRecDepth 100000 in
set_option maxHeartbeats 2000000 in
theorem orders_r (n : Nat) (sv : Value) (hn6 : n ≤ 6) (B : Nat) : ∀ (k : Nat) (now : List Nat) (len : Nat) (ob : Option Addr) (cb : Nat) (w : World), len = now.length → now.length + k = n → B ≤ w.heap.size → RowE w B (.slice ob now.length cb) (up now) →
    Calls Tryz.prog 80 #[.agg #[.int .i64 n, sv], .slice ob len cb] w fun e w' => ∃ v, e = .returned v ∧ OutR w' B v (ords n k now) ∧ Ext w w' := by
  intro k
  induction k with
  | zero =>
    intro now len ob cb w hln hk hB hrow
    subst hln
    have hlen : now.length = n := by omega
    have Hrow := Lib.hid hrow
    have HB := Lib.hid hB
    clear hrow hk hB
    subst hlen
    go_enter Tryz.func80, Tryz.ntmps80
    go_wp2
    go_ret
    have hE : Ext w ((w.alloc (.cells #[.int .i64 now.length, sv] 24)).alloc (.cells #[.slice ob now.length cb] 27)) := ((Ext.refl w).alloc _).alloc _
    refine ⟨_, rfl, ⟨_, 1, [.slice ob now.length cb], rfl, Nat.le_refl _, by decide, (fun h => by cases h), rfl, ?_, ?_⟩, hE⟩
    · intro ad he i u hu
      cases he
      match i, hu with
      | 0, hu => simp at hu; subst hu; rw [add_none]; go_simp
    · intro i s hs
      match i, hs with
      | 0, hs => simp [ords] at hs; subst hs; exact ⟨_, rfl, Hrow.out.ext hE⟩
  | succ k ih =>
    intro now len ob cb w hln hk hB hrow
    subst hln
    have h0 : ((now.length : Int) == (n : Int)) = false := by simpa using (by omega : ¬ (now.length : Int) = (n : Int))
    have hll : now.length ≤ 6 := by omega
    have Hk := Lib.hid hk
    obtain ⟨hints, hnb, hcb, hcm⟩ := rowE_ints hrow
    have Hi := Lib.hid hints
    have Hnb := Lib.hid hnb
    have HB := Lib.hid hB
    have IH := Lib.hid ih
    clear hrow hints hnb hB ih hk
    go_enter Tryz.func80, Tryz.ntmps80
    go_wp2
    go_loopg [5, 6] n (fun g v i wr => ∃ j : Nat, j + g = n ∧ i = .int .i64 j ∧ Ext (w.alloc (.cells #[.int .i64 n, sv] 24)) wr ∧ OwnR wr B (w.heap.size + 1) v (ordsTo n k now j))
    case atStart => exact ⟨0, by simp, rfl, Ext.refl _, OwnR.nil _ (by have := HB.out; omega)⟩
    case round =>
      obtain ⟨j, hj, rfl, hE, hown⟩ := hrel
      have Hown := Lib.hid hown; clear hown
      have c0 : wr.cell? ⟨w.heap.size, 0, none⟩ = some (.int .i64 n) := cell_ext hE (by go_simp)
      have c1 : wr.cell? ⟨w.heap.size, 1, none⟩ = some sv := cell_ext hE (by go_simp)
      have HE := Lib.hid (((Ext.refl w).alloc (.cells #[.int .i64 n, sv] 24)).trans hE)
      by_cases hlt : j < n
      · have hlis := listed_any (up now) ob now.length cb j wr (up_length now) (Hi.out.ext HE.out) (by rw [up_length]; omega)
        have hst := ordsTo_succ n k now j
        by_cases hm : j ∈ now
        · rw [decide_eq_true (up_mem.2 hm)] at hlis
          rw [if_pos hm, List.append_nil] at hst
          have Hlis := Lib.hid hlis
          have Hst := Lib.hid hst
          clear hlis hst hm
          go_wp2_with (first | (go_at_call 52; refine Hlis.out.mono ?_; rintro e w1 ⟨rfl, rfl⟩))
          go_roundg (gk - 1)
          case measure => omega
          case rel => exact ⟨j + 1, by omega, by go_num, hE, by rw [Hst.out]; exact Hown.out⟩
        · rw [decide_eq_false (fun h => hm (up_mem.1 h))] at hlis
          rw [if_neg hm] at hst
          have Hlis := Lib.hid hlis
          have Hst := Lib.hid hst
          have hlb := ordsTo_len n k now j
          have hle := ords_len n k (now ++ [j])
          have hne := ords_ne (n := n) (k := k) (now := now ++ [j]) (by have := Hk.out; simp; omega)
          have Hne := Lib.hid hne
          have hpw : n ^ k ≤ 6 ^ 6 := Nat.le_trans (Nat.pow_le_pow_left hn6 k) (Nat.pow_le_pow_right (by decide) (by have := Hk.out; omega))
          have hpj : j * n ^ k ≤ 6 * 6 ^ 6 := Nat.mul_le_mul (by omega) hpw
          have hbig : (ordsTo n k now j).length + (ords n k (now ++ [j])).length < 1000000000 := by
            have : (6 : Nat) ^ 6 = 46656 := by decide
            omega
          clear hpw hpj
          clear hlis hst hm hlb hle hne
          have Hbig := Lib.hid hbig; clear hbig
          go_wp2_with (first | (go_at_call 52; refine Hlis.out.mono ?_; rintro e w1 ⟨rfl, rfl⟩))
          have hsz : w.heap.size + 1 ≤ wr.heap.size := by have := hE.size; simpa using this
          refine wp_region_plan (.take 0 <| .take 1 <| .take 2 <| .take 4 <| .two 3 5 (.only 5 <| .only 6 <| .only 7 <| .only 8 <| .take 9 <| .done) (.only 3 <| .only 6 <| .only 7 <| .only 8 <| .take 9 <| .done)) (fun W => Below (w.heap.size + 1) wr W) mixed (by kernel_rfl) (by kernel_rfl) rfl (fun _ _ d _ _ h => by cases d <;> exact h) ((Below.refl (w.heap.size + 1) wr).drew) ?_
          repeat (first | (refine plan_take (v := ?_) rfl rfl (fun W hW => ?_) ?_; rotate_left; (focus (have e0 := cell_below hW (Nat.lt_succ_self _) c0; have e1 := cell_below hW (Nat.lt_succ_self _) c1; go_simp; first | exact rfl | (split <;> first | exact rfl | (exfalso; omega)) | done)); simp only [Act.put, List.setIfInBounds_toArray, List.set_cons_zero, List.set_cons_succ]) | (refine plan_skip rfl rfl ?_; simp only [Act.put, List.setIfInBounds_toArray, List.set_cons_zero, List.set_cons_succ]))
          refine plan_two rfl rfl ?_ ?_
          · intro K hK
            go_wp2_with (first | (at_builtin; refine wpList_appNow _ rfl _ _ rfl now ob cb rfl rfl (Hi.out.ext (HE.out.trans (Ext.refl wr).drew)) Hnb.out hcb (by omega) ?_; intro v1 w1 ho1 hE1))
            have Ho1 : Hid (My.Own w1 wr.heap.size 3 v1 ((up now).map (Value.int .i64))) := Lib.hid (by simpa using ho1)
            have hX1 := (Ext.refl wr).drew.trans hE1
            clear ho1
            refine hK _ _ (hX1.mono hsz) ?_
            refine plan_walk rfl ?_; intro K hK
            go_wp2
            refine hK _ _ ((hX1.alloc _).mono hsz) ?_
            refine plan_walk rfl ?_; intro K hK
            go_wp2_with (first | (at_builtin; refine wpList_app1 _ rfl _ _ 27 rfl 3 Tryz.underlying27 (.int .i64 0) 8 i3 rfl (by decide) wr.heap.size _ _ rfl (Ho1.out.ext ((Ext.refl w1).alloc _)) w1.heap.size (.int .i64 j) rfl (by go_simp) rfl ?_ ?_ ?_))
            · simp [up]; omega
            · have := hX1.size; simp; omega
            · intro v2 w2 ho2 hB2 _
              have hX2 : Ext wr w2 := (hX1.alloc (.cells #[.int .i64 j] 3)).below hB2 (Nat.le_refl _)
              have hr2 : RowE w2 B v2 (up (now ++ [j])) := RowE.of_own (B := _) (by rw [up_snoc, List.map_append]; exact ho2)
              obtain ⟨ob2, cb2, hv2, _⟩ := hr2.ints
              rw [up_length, show (now ++ [j]).length = now.length + 1 by simp] at hv2
              subst hv2
              rw [show now.length + 1 = (now ++ [j]).length by simp] at hr2
              have Hr2 := Lib.hid hr2
              clear hr2 ho2
              refine hK _ _ (hX2.mono hsz) ?_
              refine plan_walk rfl ?_; intro K hK
              go_wp2_with (first | (go_at_call 80; refine (IH.out (now ++ [j]) (now.length + 1) ob2 cb2 w2 (by simp) (by have := Hk.out; simp; omega) (by have := HB.out; have := HE.out.size; have := hX2.size; omega) Hr2.out).mono ?_; rintro e w3 ⟨v3, rfl, hout, hE3⟩))
              have hX3 := hX2.trans hE3
              have Hout := Lib.hid hout
              clear hout
              refine hK _ _ (hX3.mono hsz) ?_
              refine plan_walk rfl ?_; intro K hK
              go_wp2_with (first | (at_builtin; refine wpList_appRs _ rfl _ _ rfl B (w.heap.size + 1) _ _ (ordsTo n k now j) (ords n k (now ++ [j])) rfl (Hown.out.ext hX3) rfl Hout.out Hne.out Hbig.out ?_ ?_))
              · have := hE.size; have := hX3.size; simp at *; omega
              · intro v4 w4 ho4 hB4
                refine hK _ _ (Below.trans (hX3.mono hsz) hB4) ?_
                repeat (first | (refine plan_take (v := ?_) rfl rfl (fun W hW => ?_) ?_; rotate_left; (focus (skip; go_simp; first | exact rfl | (split <;> first | exact rfl | (exfalso; omega)) | done)); simp only [Act.put, List.setIfInBounds_toArray, List.set_cons_zero, List.set_cons_succ]) | (refine plan_skip rfl rfl ?_; simp only [Act.put, List.setIfInBounds_toArray, List.set_cons_zero, List.set_cons_succ]))
                refine plan_done ?_
                go_wp2
                go_roundg (gk - 1)
                case measure => omega
                case rel => exact ⟨j + 1, by omega, by go_num, (hE.trans hX3).below hB4 (by simp), by rw [Hst.out]; exact ho4⟩
          · intro K hK
            go_wp2
            have hX0 : Ext wr (wr.drew.alloc (.cells #[.int .i64 j] 3)) := (Ext.refl wr).drew.alloc _
            refine hK _ _ (hX0.mono hsz) ?_
            refine plan_walk rfl ?_; intro K hK
            go_wp2_with (first | (at_builtin; refine wpList_appNow _ rfl _ _ rfl now ob cb rfl rfl (Hi.out.ext (HE.out.trans hX0)) Hnb.out hcb (by omega) ?_; intro v1 w1 ho1 hE1))
            have Ho1 : Hid (My.Own w1 (wr.heap.size + 1) 3 v1 ((up now).map (Value.int .i64))) := Lib.hid (by simpa using ho1)
            have hX1 := hX0.trans hE1
            have hcj : w1.cell? ⟨wr.heap.size, 0, none⟩ = some (.int .i64 j) := cell_ext hE1 (by go_simp)
            clear ho1
            refine hK _ _ (hX1.mono hsz) ?_
            refine plan_walk rfl ?_; intro K hK
            go_wp2_with (first | (at_builtin; refine wpList_app1 _ rfl _ _ 27 rfl 3 Tryz.underlying27 (.int .i64 0) 8 i3 rfl (by decide) (wr.heap.size + 1) _ _ rfl Ho1.out wr.heap.size (.int .i64 j) rfl hcj rfl ?_ ?_ ?_))
            · simp [up]; omega
            · have := hE1.size; simp at this; omega
            · intro v2 w2 ho2 hB2 _
              have hX2 : Ext wr w2 := hX1.below hB2 (by omega)
              have hr2 : RowE w2 B v2 (up (now ++ [j])) := RowE.of_own (B := _) (by rw [up_snoc, List.map_append]; exact ho2)
              obtain ⟨ob2, cb2, hv2, _⟩ := hr2.ints
              rw [up_length, show (now ++ [j]).length = now.length + 1 by simp] at hv2
              subst hv2
              rw [show now.length + 1 = (now ++ [j]).length by simp] at hr2
              have Hr2 := Lib.hid hr2
              clear hr2 ho2
              refine hK _ _ (hX2.mono hsz) ?_
              refine plan_walk rfl ?_; intro K hK
              go_wp2_with (first | (go_at_call 80; refine (IH.out (now ++ [j]) (now.length + 1) ob2 cb2 w2 (by simp) (by have := Hk.out; simp; omega) (by have := HB.out; have := HE.out.size; have := hX2.size; omega) Hr2.out).mono ?_; rintro e w3 ⟨v3, rfl, hout, hE3⟩))
              have hX3 := hX2.trans hE3
              have Hout := Lib.hid hout
              clear hout
              refine hK _ _ (hX3.mono hsz) ?_
              refine plan_walk rfl ?_; intro K hK
              go_wp2_with (first | (at_builtin; refine wpList_appRs _ rfl _ _ rfl B (w.heap.size + 1) _ _ (ordsTo n k now j) (ords n k (now ++ [j])) rfl (Hown.out.ext hX3) rfl Hout.out Hne.out Hbig.out ?_ ?_))
              · have := hE.size; have := hX3.size; simp at *; omega
              · intro v4 w4 ho4 hB4
                refine hK _ _ (Below.trans (hX3.mono hsz) hB4) ?_
                repeat (first | (refine plan_take (v := ?_) rfl rfl (fun W hW => ?_) ?_; rotate_left; (focus (skip; go_simp; first | exact rfl | (split <;> first | exact rfl | (exfalso; omega)) | done)); simp only [Act.put, List.setIfInBounds_toArray, List.set_cons_zero, List.set_cons_succ]) | (refine plan_skip rfl rfl ?_; simp only [Act.put, List.setIfInBounds_toArray, List.set_cons_zero, List.set_cons_succ]))
                refine plan_done ?_
                go_wp2
                go_roundg (gk - 1)
                case measure => omega
                case rel => exact ⟨j + 1, by omega, by go_num, (hE.trans hX3).below hB4 (by simp), by rw [Hst.out]; exact ho4⟩
      · have hjn : j = n := by omega
        subst hjn
        have hfin : ordsTo j k now j = ords j (k + 1) now := rfl
        have Hfin := Lib.hid hfin
        clear hfin
        go_wp2
        go_ret
        exact ⟨_, rfl, by rw [← Hfin.out]; exact Hown.out.out, HE.out⟩

def allTo (n : Nat) (ss : List (List Nat)) (k : Nat) : List (List Nat) := ((ords n n []).take k).filter (okOrd ss)
theorem allTo_succ {n : Nat} {ss : List (List Nat)} {k : Nat} {o : List Nat} (h : (ords n n [])[k]? = some o) : allTo n ss (k + 1) = allTo n ss k ++ if okOrd ss o = true then [o] else [] := by
  obtain ⟨hk, rfl⟩ := List.getElem?_eq_some_iff.1 h
  rw [allTo, List.take_succ_eq_append_getElem hk, List.filter_append, allTo]
  congr 1
  cases he : okOrd ss (ords n n [])[k] <;> simp [List.filter_cons, he]
theorem allTo_all (n : Nat) (ss : List (List Nat)) {k : Nat} (h : (ords n n []).length ≤ k) : allTo n ss k = all n ss := by rw [allTo, List.take_of_length_le h, all]
theorem allTo_len (n : Nat) (ss : List (List Nat)) (k : Nat) : (allTo n ss k).length ≤ k := by
  refine Nat.le_trans (List.length_filter_le _ _) ?_
  rw [List.length_take]; exact Nat.min_le_left _ _
theorem mem_ords {n : Nat} {o : List Nat} (h : o ∈ ords n n []) : isOrd n o := by rw [ords_nil] at h; exact isOrd_iff.2 h
theorem addr_none {w : World} {ad : Addr} {v : Value} (h : w.cell? (ad.add 0) = some v) : ∃ b off, ad = ⟨b, off, none⟩ := by
  obtain ⟨b, off, sp⟩ := ad
  have hspot : sp = none := by simpa [Addr.add] using World.cell?_spot h
  subst hspot
  exact ⟨b, off, rfl⟩
theorem OutR.at {w : World} {B : Nat} {v : Value} {ss : List (List Nat)} (h : OutR w B v ss) : ∃ oa cap, v = .slice oa ss.length cap ∧ ss.length ≤ cap ∧ cap ≤ maxLen ∧ (oa = none → cap = 0) ∧ ∀ (k : Nat) (s : List Nat), ss[k]? = some s →
    ∃ b off oc cc, oa = some ⟨b, off, none⟩ ∧ w.cell? ⟨b, off + k, none⟩ = some (.slice oc s.length cc) ∧ RowE w B (.slice oc s.length cc) (up s) := by
  obtain ⟨oa, cap, xs, h1, h2, h3, h4, h5, h6, h7⟩ := h
  refine ⟨oa, cap, h1, h2, h3, h4, fun k s hs => ?_⟩
  have hk := (List.getElem?_eq_some_iff.1 hs).1
  obtain ⟨u, k1, k2⟩ := h7 k s hs
  cases oa with
  | none => have := h4 rfl; omega
  | some ad =>
    obtain ⟨oc, cc, e1, _⟩ := k2.ints
    rw [up_length] at e1
    subst e1
    obtain ⟨u0, z1, _⟩ := h7 0 ss[0] (by simp)
    obtain ⟨b, off, rfl⟩ := addr_none (h6 ad rfl 0 u0 z1)
    have := h6 _ rfl k _ k1
    rw [add_none] at this
    exact ⟨b, off, oc, cc, rfl, this, k2⟩

set_option maxRecDepth 100000 in
set_option maxHeartbeats 2000000 in
theorem all_r (n : Nat) (ss : List (List Nat)) (oa : Option Addr) (cap : Nat) (w : World) (h : RowsAt w oa (upp ss)) (g : Good n ss) :
    Calls Tryz.prog 27 #[.agg #[.int .i64 n, .slice oa ss.length cap]] w fun e w' => ∃ v, e = .returned v ∧ IsRows w' v (upp (all n ss)) ∧ Ext w w' := by
  have hE1 := (Ext.refl w).alloc (.cells #[.int .i64 n, .slice oa ss.length cap] 24)
  have hsz1 : (w.alloc (.cells #[.int .i64 n, .slice oa ss.length cap] 24)).heap.size = w.heap.size + 1 := by simp
  have ho := orders_r n (.slice oa ss.length cap) g.le (w.heap.size + 1) n [] 0 none 0 (w.alloc (.cells #[.int .i64 n, .slice oa ss.length cap] 24)) rfl (by simp) (by simp) (RowE.of_own (B := 0) (Own.nil _ _ _))
  have Ho := Lib.hid ho
  have H := Lib.hid h
  have G := Lib.hid g
  have hl720 := ords_720 n g.le
  clear h g ho
  go_enter Tryz.func27, Tryz.ntmps27
  go_wp2_with (first | (go_at_call 80; refine Ho.out.mono ?_; rintro e w1 ⟨v1, rfl, hout, hE2⟩; obtain ⟨o1, p1, rfl, hp1, hp2, hp3, hrow⟩ := hout.at; have Hrow := Lib.hid hrow; clear hout hrow))
  have hszw1 : w.heap.size + 1 ≤ w1.heap.size := by have := hE2.size; simpa using this
  obtain ⟨L, hL⟩ : ∃ L, L = ords n n [] := ⟨_, rfl⟩
  have HL := Lib.hid hL
  rw [← hL] at hl720 hp1 Hrow ⊢
  clear hL
  go_loopg [4, 5] L.length (fun g v i wr => ∃ k : Nat, k + g = L.length ∧ i = .int .i64 k ∧ Ext w1 wr ∧ OwnR wr (w.heap.size + 1) w1.heap.size v (allTo n ss k))
  case atStart => exact ⟨0, by simp, rfl, Ext.refl _, OwnR.nil _ hszw1⟩
  case round =>
    obtain ⟨k, hk, rfl, hE, hown⟩ := hrel
    have Hown := Lib.hid hown; clear hown
    have hEr := hE2.trans hE
    have c0 : wr.cell? ⟨w.heap.size, 0, none⟩ = some (.int .i64 n) := cell_ext hEr (by go_simp)
    have c1 : wr.cell? ⟨w.heap.size, 1, none⟩ = some (.slice oa ss.length cap) := cell_ext hEr (by go_simp)
    have HE := Lib.hid (hE1.trans hEr)
    by_cases hlt : k < L.length
    · obtain ⟨o, hok⟩ : ∃ o, L[k]? = some o := ⟨L[k], by simp [hlt]⟩
      obtain ⟨b, off, oc, cc, hoo, hcell, hre⟩ := Hrow.out k o hok
      subst hoo
      have hcl := cell_ext hE hcell
      have hmem : isOrd n o := mem_ords (by rw [← HL.out]; exact List.mem_of_getElem? hok)
      have hstep := allTo_succ (n := n) (ss := ss) (k := k) (o := o) (by rw [← HL.out]; exact hok)
      have hol : o.length ≤ 6 := by rw [hmem.1]; exact G.out.le
      obtain ⟨hoi, _, hocc, hocm⟩ := rowE_ints hre
      have hmis := rMisses_any n (upp ss) oa cap (up o) oc cc wr.drew (H.out.ext (HE.out.trans (Ext.refl wr).drew)) (by rw [upp_length]; have := G.out.len; omega) (hoi.ext (hE.trans (Ext.refl wr).drew)) (by rw [up_length]; omega)
      rw [upp_length, up_length, misses_up hmem G.out.valid] at hmis
      have hml := missN_len o ss
      have hnil := @missN_nil o ss
      have Hmis := Lib.hid hmis
      have Hre := Lib.hid (hre.ext hE)
      have Hst := Lib.hid hstep
      have hss := G.out.len
      clear hmis hcell hoi hre hstep hmem hok
      generalize missN o ss = M at *
      cases hag : okOrd ss o
      · have hpos : M.length ≠ 0 := fun e => by
          have := hnil.1 (List.eq_nil_of_length_eq_zero e)
          rw [hag] at this; cases this
        have h0 : ((M.length : Int) == 0) = false := by simpa using (by omega : ¬ (M.length : Int) = 0)
        have h0' : decide ((M.length : Int) = 0) = false := by simpa using (by omega : ¬ (M.length : Int) = 0)
        rw [hag, if_neg (by decide), List.append_nil] at Hst
        clear hnil hag
        go_wp2_with fail
        refine wp_region_plan (.take 0 <| .take 1 <| .take 2 <| .take 3 <| .take 4 <| .only 5 <| .take 6 <| .take 7 <| .done) (fun W => Ext wr W) mixed (by kernel_rfl) (by kernel_rfl) rfl (fun _ _ d _ _ h => by cases d <;> exact h) ((Ext.refl wr).drew) ?_
        repeat (first | (refine plan_take (v := ?_) rfl rfl (fun W hW => ?_) ?_; rotate_left; (focus (have e0 := cell_ext hW c0; have e1 := cell_ext hW c1; have e2 := cell_ext hW hcl; go_simp; first | exact rfl | (split <;> first | exact rfl | (exfalso; omega)) | done)); simp only [Act.put, List.setIfInBounds_toArray, List.set_cons_zero, List.set_cons_succ]) | (refine plan_skip rfl rfl ?_; simp only [Act.put, List.setIfInBounds_toArray, List.set_cons_zero, List.set_cons_succ]))
        refine plan_walk rfl ?_; intro K hK
        go_wp2_with (first | (go_at_call 64; refine Hmis.out.mono ?_; rintro e w2 ⟨v2, rfl, hi2, hE3⟩; obtain ⟨om, cm, rfl, _, _, _, _⟩ := hi2; rw [up_length]))
        refine hK _ _ ((Ext.refl wr).drew.trans hE3) ?_
        repeat (first | (refine plan_take (v := ?_) rfl rfl (fun W hW => ?_) ?_; rotate_left; (focus (skip; go_simp; first | exact rfl | (split <;> first | exact rfl | (exfalso; omega)) | done)); simp only [Act.put, List.setIfInBounds_toArray, List.set_cons_zero, List.set_cons_succ]) | (refine plan_skip rfl rfl ?_; simp only [Act.put, List.setIfInBounds_toArray, List.set_cons_zero, List.set_cons_succ]))
        refine plan_done ?_
        have hX := (Ext.refl wr).drew.trans hE3
        go_wp2
        go_roundg (gk - 1)
        case measure => omega
        case rel => exact ⟨k + 1, by omega, by go_num, hE.trans hX, by rw [Hst.out]; exact Hown.out.ext hX⟩
      · have hz := hnil.2 hag
        subst hz
        rw [hag, if_pos rfl] at Hst
        have hlen2 := allTo_len n ss k
        clear hnil hag
        go_wp2_with fail
        refine wp_region_plan (.take 0 <| .take 1 <| .take 2 <| .take 3 <| .take 4 <| .only 5 <| .take 6 <| .take 7 <| .done) (fun W => Ext wr W) mixed (by kernel_rfl) (by kernel_rfl) rfl (fun _ _ d _ _ h => by cases d <;> exact h) ((Ext.refl wr).drew) ?_
        repeat (first | (refine plan_take (v := ?_) rfl rfl (fun W hW => ?_) ?_; rotate_left; (focus (have e0 := cell_ext hW c0; have e1 := cell_ext hW c1; have e2 := cell_ext hW hcl; go_simp; first | exact rfl | (split <;> first | exact rfl | (exfalso; omega)) | done)); simp only [Act.put, List.setIfInBounds_toArray, List.set_cons_zero, List.set_cons_succ]) | (refine plan_skip rfl rfl ?_; simp only [Act.put, List.setIfInBounds_toArray, List.set_cons_zero, List.set_cons_succ]))
        refine plan_walk rfl ?_; intro K hK
        go_wp2_with (first | (go_at_call 64; refine Hmis.out.mono ?_; rintro e w2 ⟨v2, rfl, hi2, hE3⟩; obtain ⟨om, cm, rfl, _, _, _, _⟩ := hi2; rw [up_length]))
        refine hK _ _ ((Ext.refl wr).drew.trans hE3) ?_
        repeat (first | (refine plan_take (v := ?_) rfl rfl (fun W hW => ?_) ?_; rotate_left; (focus (skip; go_simp; first | exact rfl | (split <;> first | exact rfl | (exfalso; omega)) | done)); simp only [Act.put, List.setIfInBounds_toArray, List.set_cons_zero, List.set_cons_succ]) | (refine plan_skip rfl rfl ?_; simp only [Act.put, List.setIfInBounds_toArray, List.set_cons_zero, List.set_cons_succ]))
        refine plan_done ?_
        have hX := (Ext.refl wr).drew.trans hE3
        have f2 := cell_ext hX hcl
        go_wp2_with (first | (at_builtin; refine wpList_appR _ rfl _ _ rfl (w.heap.size + 1) w1.heap.size _ (allTo n ss k) rfl (Hown.out.ext (hX.alloc _)) _ (.slice oc o.length cc) o rfl (by go_simp) (Hre.out.ext (hX.alloc _)) ?_ ?_ ?_))
        · omega
        · have := hE.size; have := hX.size; simp; omega
        · intro v' w3 hown3 hBl
          have Ho3 := Lib.hid hown3; clear hown3
          go_wp2
          go_roundg (gk - 1)
          case measure => omega
          case rel => exact ⟨k + 1, by omega, by go_num, (hE.trans (hX.alloc _)).below hBl (Nat.le_refl _), by rw [Hst.out]; exact Ho3.out⟩
    · have hfin : allTo n ss k = all n ss := allTo_all n ss (by rw [← HL.out]; omega)
      have Hfin := Lib.hid hfin
      clear hfin
      go_wp2
      go_ret
      exact ⟨_, rfl, by rw [← Hfin.out]; exact Hown.out.rows, HE.out⟩

end Go.Proofs.YtiehfpkcaoeieaaGreatDoor
