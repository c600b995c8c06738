/- Contract of the reference: chosen. No condition beyond few spots. -/
import Derived.Test.YtiehfpkcaoeieaaGreatDoorRefOnly
set_option linter.unusedVariables false
set_option linter.unusedSimpArgs false
namespace Go.Proofs.YtiehfpkcaoeieaaGreatDoor
open Go.RowKit Go.My Go.StripM

/-- append of some rows, or of none. -/
theorem wpList_appRs0 (w : World) {ops : Array Oper} {rest : List Oper} {o : Oper} {a : Act} {Q : Exit → Act → World → Prop} (hgd : o.guard = none) (s x : Operand)
    (ho : o.op = .call { callee := .builtin .append, args := #[s, x], argTypes := #[22, 22] }) (B base : Nat) (v v2 : Value) (ss ms : List (List Nat)) (hs : a.eval s = v)
    (hown : OwnR w B base v ss) (hx : a.eval x = v2) (hms : OutR w B v2 ms)
    (hl : ss.length + ms.length < 1000000000) (hbase : base ≤ w.heap.size)
    (h : ∀ v' w', OwnR w' B base v' (ss ++ ms) → Below base w w' → wpList Tryz.prog ops Q rest (a.put o.dst v') w') : wpList Tryz.prog ops Q (o :: rest) a w := by
  by_cases hne : ms = []
  · subst hne
    obtain ⟨i, hi1, _⟩ := info_parts i27
    obtain ⟨oa, cap, xs, rfl, k1, k2, k3, k4, _, _⟩ := hms
    obtain ⟨ov, cv, rfl, l1, _⟩ := hown.slice
    refine wpList_plain hgd fun K hK' => ?_
    have hsrc : Src Tryz.prog i.size 22 (.slice oa 0 cap) 0 [] w := by
      cases oa with
      | none => exact Src.ofNil w Tryz.underlying22 cap
      | some ad => exact Src.ofSlice w Tryz.underlying22 ad 0 cap [] (by simp) (fun j u hj => by simp at hj) (fun u hu => by cases hu)
    have hrun := run_append_nothing (P := Tryz.prog) w 22 22 o.type 27 i Tryz.underlying22 hi1 ov ss.length cv l1 (.slice oa 0 cap) hsrc
    unfold Oper.wp
    have hx' : a.eval x = .slice oa 0 cap := hx
    simp [execOp, ho, resolve, invoke, builtin, hs, hx', hrun, Result.andThen]
    exact hK' _ _ (h _ _ (by rw [List.append_nil]; exact hown) (Below.refl _ _))
  · exact wpList_appRs w hgd s x ho B base v v2 ss ms hs hown hx hms hne hl hbase h

def chsTo (m d : Nat) (now : List Nat) (k : Nat) : List (List Nat) := ((List.range k).filter fun t => decide (fromOf now ≤ t)).flatMap fun t => chs m d (now ++ [t])
theorem chsTo_none {m d : Nat} {now : List Nat} {k : Nat} (h : k ≤ fromOf now) : chsTo m d now k = [] := by
  unfold chsTo
  rw [List.filter_eq_nil_iff.2 (fun t ht => by have := List.mem_range.1 ht; simp; omega)]; rfl
theorem chsTo_succ {m d : Nat} {now : List Nat} {k : Nat} (h : fromOf now ≤ k) : chsTo m d now (k + 1) = chsTo m d now k ++ chs m d (now ++ [k]) := by
  unfold chsTo
  rw [List.range_succ, List.filter_append, List.flatMap_append]
  congr 1
  rw [List.filter_cons, if_pos (by simpa using h)]
  simp
theorem chs_big (m : Nat) : ∀ (d : Nat) (now : List Nat), (chs m d now).length ≤ m ^ d
  | 0, now => by simp [chs]
  | d + 1, now => by
    have hk : ∀ k, (chsTo m d now k).length ≤ k * m ^ d := by
      intro k
      induction k with
      | zero => simp [chsTo]
      | succ k ih =>
        by_cases h : fromOf now ≤ k
        · rw [chsTo_succ h, List.length_append, Nat.succ_mul]
          have := chs_big m d (now ++ [k])
          omega
        · rw [chsTo_none (by omega)]; simp
    have := hk m
    rw [Nat.pow_succ, Nat.mul_comm]
    exact this
theorem chsTo_big (m d : Nat) (now : List Nat) (k : Nat) : (chsTo m d now k).length ≤ k * m ^ d := by
  induction k with
  | zero => simp [chsTo]
  | succ k ih =>
    by_cases h : fromOf now ≤ k
    · rw [chsTo_succ h, List.length_append, Nat.succ_mul]
      have := chs_big m d (now ++ [k])
      omega
    · rw [chsTo_none (by omega)]; simp


set_option maxRecDepth 100000 in
set_option maxHeartbeats 4000000 in
theorem chosen_r (m : Nat) (hm : m ≤ 6) (many : Nat) (hmany : many ≤ 6) (B : Nat) : ∀ (d : Nat) (now : List Nat) (len : Nat) (ob : Option Addr) (cb : Nat) (w : World), len = now.length → now.length + d = many → B ≤ w.heap.size → RowE w B (.slice ob now.length cb) (up now) → (∀ x ∈ now, x < m) →
    Calls Tryz.prog 98 #[.slice ob len cb, .int .i64 many, .int .i64 m] w fun e w' => ∃ v, e = .returned v ∧ OutR w' B v (chs m d now) ∧ Ext w w' := by
  intro d
  induction d with
  | zero =>
    intro now len ob cb w hln hd hB hrow hnow
    subst hln
    have hlen : now.length = many := by omega
    have Hrow := Lib.hid hrow
    clear hrow hd hB hnow
    subst hlen
    go_enter Tryz.func98, Tryz.ntmps98
    go_wp2
    go_ret
    have hE : Ext w (w.alloc (.cells #[.slice ob now.length cb] 27)) := (Ext.refl w).alloc _
    refine ⟨_, rfl, ⟨_, 1, [.slice ob now.length cb], rfl, Nat.le_refl _, by decide, (fun h => by cases h), rfl, ?_, ?_⟩, hE⟩
    · intro ad he i u hu
      cases he
      match i, hu with
      | 0, hu => simp at hu; subst hu; rw [add_none]; go_simp
    · intro i s hs
      match i, hs with
      | 0, hs => simp [chs] at hs; subst hs; exact ⟨_, rfl, Hrow.out.ext hE⟩
  | succ d ih =>
    intro now len ob cb w hln hd hB hrow hnow
    subst hln
    have h0 : ((now.length : Int) == (many : Int)) = false := by simpa using (by omega : ¬ (now.length : Int) = (many : Int))
    have h0' : ¬ ((now.length : Int) = (many : Int)) := by omega
    have hll : now.length ≤ 6 := by omega
    have Hd := Lib.hid hd
    obtain ⟨hints, hnb, hcb, hcm⟩ := rowE_ints hrow
    have Hi := Lib.hid hints
    have Hnb := Lib.hid hnb
    have HB := Lib.hid hB
    have IH := Lib.hid ih
    have Hnow := Lib.hid hnow
    rcases List.eq_nil_or_concat now with hnil | ⟨pre, x, hcat⟩
    · have hfr : fromOf now = 0 := by rw [hnil]; rfl
      have hl0 : now.length = 0 := by rw [hnil]; rfl
      have hgt : ¬ (0 : Int) < (now.length : Int) := by omega
      have hgtN : ¬ 0 < now.length := by omega
      have Hfr := Lib.hid hfr
      clear hrow hints hnb hB ih hd hnow hfr hl0 hnil
      go_enter Tryz.func98, Tryz.ntmps98
      go_wp2
      go_loopg [8, 9] (max m (fromOf now) - fromOf now) (fun g v i wr => ∃ t : Nat, t + g = max m (fromOf now) ∧ fromOf now ≤ t ∧ i = .int .i64 t ∧ Ext w wr ∧ OwnR wr B w.heap.size v (chsTo m d now t))
      case atStart => exact ⟨fromOf now, by omega, Nat.le_refl _, by rw [Hfr.out]; go_num, Ext.refl w, by rw [chsTo_none (Nat.le_refl _)]; exact OwnR.nil _ HB.out⟩
      case round =>
        obtain ⟨t, ht, hft, rfl, hE, hown⟩ := hrel
        have Hown := Lib.hid hown
        by_cases hlt : t < m
        · have hst := chsTo_succ (m := m) (d := d) (now := now) hft
          have hb1 := chsTo_big m d now t
          have hb2 := chs_big m d (now ++ [t])
          have hpw : m ^ d ≤ 6 ^ 6 := Nat.le_trans (Nat.pow_le_pow_left hm d) (Nat.pow_le_pow_right (by decide) (by have := Hd.out; omega))
          have hpj : t * m ^ d ≤ 6 * 6 ^ 6 := Nat.mul_le_mul (by omega) hpw
          have hbig : (chsTo m d now t).length + (chs m d (now ++ [t])).length < 1000000000 := by
            have : (6 : Nat) ^ 6 = 46656 := by decide
            omega
          have Hbig := Lib.hid hbig
          have Hst := Lib.hid hst
          have Hio := Lib.hid (Hi.out.ext hE)
          clear hst hb1 hb2 hpw hpj hbig hown
          go_wp2_with (first | (at_builtin; refine wpList_appNow _ rfl _ _ rfl now _ cb rfl rfl Hio.out Hnb.out hcb (by omega) ?_; intro v1 w1 ho1 hE1; have Ho1 := Lib.hid ho1; clear ho1) | (at_builtin; refine wpList_app1 _ rfl _ _ 27 rfl 3 Tryz.underlying27 (.int .i64 0) 8 i3 rfl (by decide) wr.heap.size _ _ rfl (Ho1.out.ext ((Ext.refl w1).alloc _)) w1.heap.size (.int .i64 t) rfl (by go_simp) rfl ?_ ?_ ?_))
          · simp [up]; omega
          · have := hE1.size; simp; omega
          · intro v2 w2 ho2 hB2 _
            have hX2 : Ext wr w2 := (hE1.alloc (.cells #[.int .i64 t] 3)).below hB2 (Nat.le_refl _)
            have hr2 : RowE w2 B v2 (up (now ++ [t])) := RowE.of_own (B := _) (by rw [up_snoc, List.map_append]; exact ho2)
            obtain ⟨ob2, cb2, hv2, _⟩ := hr2.ints
            rw [up_length, show (now ++ [t]).length = now.length + 1 by simp] at hv2
            subst hv2
            rw [show now.length + 1 = (now ++ [t]).length by simp] at hr2
            have Hr2 := Lib.hid hr2
            clear hr2 ho2
            go_wp2_with (first | (go_at_call 98; refine (IH.out (now ++ [t]) (now.length + 1) ob2 cb2 w2 (by simp) (by have := Hd.out; simp; omega) (by have := HB.out; have := hE.size; have := hX2.size; omega) Hr2.out (fun x hx => by rcases List.mem_append.1 hx with hx | hx; exact Hnow.out x hx; (simp only [List.mem_singleton] at hx; omega))).mono ?_; rintro e w3 ⟨v3, rfl, hout, hE3⟩; have Hout := Lib.hid hout; clear hout) | (at_builtin; refine wpList_appRs0 _ rfl _ _ rfl B w.heap.size _ _ (chsTo m d now t) (chs m d (now ++ [t])) rfl (Hown.out.ext (hX2.trans hE3)) rfl Hout.out Hbig.out ?_ ?_))
            · have := hE.size; have := hX2.size; have := hE3.size; omega
            · intro v4 w4 ho4 hB4
              have Ho4 := Lib.hid ho4
              clear ho4
              go_wp2
              go_roundg (gk - 1)
              case measure => omega
              case rel => exact ⟨t + 1, by omega, by omega, by go_num, ((hE.trans hX2).trans hE3).below hB4 (Nat.le_refl _), by rw [Hst.out]; exact Ho4.out⟩
        · have hfin : chsTo m d now t = chs m (d + 1) now := by
            by_cases hmf : fromOf now ≤ m
            · obtain rfl : t = m := by omega
              rfl
            · rw [show t = fromOf now by omega, chsTo_none (Nat.le_refl _)]
              exact (chsTo_none (m := m) (d := d) (now := now) (k := m) (by omega)).symm
          have Hfin := Lib.hid hfin
          clear hfin
          go_wp2
          go_ret
          exact ⟨_, rfl, by rw [← Hfin.out]; exact Hown.out.out, hE⟩
    · have hcat' : now = pre ++ [x] := by rw [hcat]; simp
      have hfr : fromOf now = x + 1 := by rw [hcat']; exact fromOf_snoc pre x
      have hxm : x < m := hnow x (by rw [hcat']; simp)
      have hpos : (0 : Int) < (now.length : Int) := by rw [hcat'] <;> simp <;> omega
      have hposN : 0 < now.length := by omega
      have hcell := hints (now.length - 1) x (by rw [hcat', up_snoc]; simp [up])
      obtain ⟨b, off, hob, _, hx⟩ := hcell
      subst hob
      have e1 : IntKind.i64.wrap ((now.length : Int) - 1) = ((now.length - 1 : Nat) : Int) := by rw [IntWalk.i64_in _ (by omega)]; omega
      have e2 : ((now.length - 1 : Nat) : Int) < (now.length : Int) := by omega
      have e3 : (0 : Int) ≤ ((now.length - 1 : Nat) : Int) := by omega
      have Hfr := Lib.hid hfr
      clear hrow hints hnb hB ih hd hnow hfr hcat hcat'
      go_enter Tryz.func98, Tryz.ntmps98
      go_wp2
      clear e1 e2 e3
      go_loopg [8, 9] (max m (fromOf now) - fromOf now) (fun g v i wr => ∃ t : Nat, t + g = max m (fromOf now) ∧ fromOf now ≤ t ∧ i = .int .i64 t ∧ Ext w wr ∧ OwnR wr B w.heap.size v (chsTo m d now t))
      case atStart => exact ⟨fromOf now, by omega, Nat.le_refl _, by rw [Hfr.out]; go_num, Ext.refl w, by rw [chsTo_none (Nat.le_refl _)]; exact OwnR.nil _ HB.out⟩
      case round =>
        obtain ⟨t, ht, hft, rfl, hE, hown⟩ := hrel
        have Hown := Lib.hid hown
        by_cases hlt : t < m
        · have hst := chsTo_succ (m := m) (d := d) (now := now) hft
          have hb1 := chsTo_big m d now t
          have hb2 := chs_big m d (now ++ [t])
          have hpw : m ^ d ≤ 6 ^ 6 := Nat.le_trans (Nat.pow_le_pow_left hm d) (Nat.pow_le_pow_right (by decide) (by have := Hd.out; omega))
          have hpj : t * m ^ d ≤ 6 * 6 ^ 6 := Nat.mul_le_mul (by omega) hpw
          have hbig : (chsTo m d now t).length + (chs m d (now ++ [t])).length < 1000000000 := by
            have : (6 : Nat) ^ 6 = 46656 := by decide
            omega
          have Hbig := Lib.hid hbig
          have Hst := Lib.hid hst
          have Hio := Lib.hid (Hi.out.ext hE)
          clear hst hb1 hb2 hpw hpj hbig hown
          go_wp2_with (first | (at_builtin; refine wpList_appNow _ rfl _ _ rfl now _ cb rfl rfl Hio.out Hnb.out hcb (by omega) ?_; intro v1 w1 ho1 hE1; have Ho1 := Lib.hid ho1; clear ho1) | (at_builtin; refine wpList_app1 _ rfl _ _ 27 rfl 3 Tryz.underlying27 (.int .i64 0) 8 i3 rfl (by decide) wr.heap.size _ _ rfl (Ho1.out.ext ((Ext.refl w1).alloc _)) w1.heap.size (.int .i64 t) rfl (by go_simp) rfl ?_ ?_ ?_))
          · simp [up]; omega
          · have := hE1.size; simp; omega
          · intro v2 w2 ho2 hB2 _
            have hX2 : Ext wr w2 := (hE1.alloc (.cells #[.int .i64 t] 3)).below hB2 (Nat.le_refl _)
            have hr2 : RowE w2 B v2 (up (now ++ [t])) := RowE.of_own (B := _) (by rw [up_snoc, List.map_append]; exact ho2)
            obtain ⟨ob2, cb2, hv2, _⟩ := hr2.ints
            rw [up_length, show (now ++ [t]).length = now.length + 1 by simp] at hv2
            subst hv2
            rw [show now.length + 1 = (now ++ [t]).length by simp] at hr2
            have Hr2 := Lib.hid hr2
            clear hr2 ho2
            go_wp2_with (first | (go_at_call 98; refine (IH.out (now ++ [t]) (now.length + 1) ob2 cb2 w2 (by simp) (by have := Hd.out; simp; omega) (by have := HB.out; have := hE.size; have := hX2.size; omega) Hr2.out (fun x hx => by rcases List.mem_append.1 hx with hx | hx; exact Hnow.out x hx; (simp only [List.mem_singleton] at hx; omega))).mono ?_; rintro e w3 ⟨v3, rfl, hout, hE3⟩; have Hout := Lib.hid hout; clear hout) | (at_builtin; refine wpList_appRs0 _ rfl _ _ rfl B w.heap.size _ _ (chsTo m d now t) (chs m d (now ++ [t])) rfl (Hown.out.ext (hX2.trans hE3)) rfl Hout.out Hbig.out ?_ ?_))
            · have := hE.size; have := hX2.size; have := hE3.size; omega
            · intro v4 w4 ho4 hB4
              have Ho4 := Lib.hid ho4
              clear ho4
              go_wp2
              go_roundg (gk - 1)
              case measure => omega
              case rel => exact ⟨t + 1, by omega, by omega, by go_num, ((hE.trans hX2).trans hE3).below hB4 (Nat.le_refl _), by rw [Hst.out]; exact Ho4.out⟩
        · have hfin : chsTo m d now t = chs m (d + 1) now := by
            by_cases hmf : fromOf now ≤ m
            · obtain rfl : t = m := by omega
              rfl
            · rw [show t = fromOf now by omega, chsTo_none (Nat.le_refl _)]
              exact (chsTo_none (m := m) (d := d) (now := now) (k := m) (by omega)).symm
          have Hfin := Lib.hid hfin
          clear hfin
          go_wp2
          go_ret
          exact ⟨_, rfl, by rw [← Hfin.out]; exact Hown.out.out, hE⟩

end Go.Proofs.YtiehfpkcaoeieaaGreatDoor
