/- Contracts and mathematics, joined: From. Conditions stand with each. -/
import Derived.Below
import Derived.BigQuiet
import Derived.Deep.DeepCutAuto
import Derived.Deep.DeepFit
import Derived.Deep.LoopGhost
import Derived.Deep.QuietTactic
import Derived.Deep.RegionHeld
import Derived.Deep.RegionHeld3
import Derived.Deep.RegionWith
import Derived.Laws.EntriesVeiled
import Derived.Lib.Hide
import Derived.LoopIn
import Derived.LoopNIn
import Derived.Maps.Keyed
import Derived.OrdersHeld
import Derived.OwnWalkIn
import Derived.RangeFuncBound
import Derived.RangeFuncCalls
import Derived.RangeFuncLeaves
import Derived.RangeFuncNested
import Derived.RegionIn
import Derived.TacticsInMore
import Derived.Test.YtjpekonfjihcoaaGreatDoorProg
import Derived.WalkKit
import Derived.WalkLawsBesides
import Derived.WalkSpells
import Derived.Test.YtjpekonfjihcoaaGreatDoorM2
import Derived.Test.YtjpekonfjihcoaaGreatDoorM9
import Derived.Test.YtjpekonfjihcoaaGreatDoorM4
import Derived.Test.YtjpekonfjihcoaaGreatDoorM3
import Derived.Test.YtjpekonfjihcoaaGreatDoorM21
import Derived.Test.YtjpekonfjihcoaaGreatDoorM11
import Derived.Test.YtjpekonfjihcoaaGreatDoorM1
import Derived.Test.YtjpekonfjihcoaaGreatDoorM17
namespace Go.TintM
end Go.TintM
set_option maxRecDepth 100000
set_option maxHeartbeats 64000000
set_option linter.unusedVariables false
set_option linter.unusedSimpArgs false
/- Contract: the search for mixtures. No condition. -/
namespace Go.Proofs.YtjpekonfjihcoaaGreatDoor
open Go.RowKit Go.My Go.TintM
attribute [local go_sem] Oper.semAt_some

theorem wpListIn_app1 {n : Nat} {P : Program} (w : World) {ops : Array Oper} {rest : List Oper} {o : Oper} {a : Act} {Q : Exit → Act → World → Prop} (hgd : o.guard = none) (s x : Operand) (t : TypeId)
  (ho : o.op = .call { callee := .builtin .append, args := #[s, x], argTypes := #[t, t] }) (e : TypeId) (ht : P.underlying t = some (.slice e)) (z : Value) (bytes : Nat)
  (hi : (P.info? e).map (fun i => (i.zero, i.size, i.bytes)) = some (some z, 1, bytes)) (hz : z.cells.size = 1) (hby : bytes ≤ 64) (base : Nat) (v : Value) (xs : List Value) (hs : a.eval s = v)
  (hown : My.Own w base e v xs) (b : Nat) (u : Value) (hx : a.eval x = .slice (some ⟨b, 0, none⟩) 1 1) (hc : w.cell? ⟨b, 0, none⟩ = some u) (hu : u.oneCell' = true)
  (hl : xs.length < 1000000000) (hbase : base ≤ w.heap.size)
  (h : ∀ v' w', My.Own w' base e v' (xs ++ [u]) → Below base w w' → w.grownBy w' v.ownBlock → wpListIn Fence.wide n P ops Q rest (a.put o.dst v') w') : wpListIn Fence.wide n P ops Q (o :: rest) a w := by
 obtain ⟨i, hi1, hi2, hi3, hi4⟩ := info_parts hi
 refine wpListIn_append_own w hgd s x t ho base e i z 1 bytes ht hi1 hi2 hi3 hi4 hz (by decide) v xs.length xs hs hown ⟨b, 0, none⟩ 1 1 [u] hx rfl ?_ ?_ ?_ ?_ hbase ?_
 ·intro j u' hj
  cases j with
  | zero => simp at hj; subst hj; simpa [Addr.add] using hc
  | succ j => simp at hj
 ·intro u' hu'; simp at hu'; subst hu'; exact hu
 ·unfold maxLen; omega
 ·have : (xs.length + 1) * bytes ≤ 1000000000 * 64 := Nat.mul_le_mul (by omega) hby
  omega
 ·intro v' w' h1 h2 _
  exact h v' w' (by unfold My.Own; rw [List.length_append]; exact h1) ((Below.refl base w).grown h2 hbase fun k hk => (hown.lt k hk).1) h2

/-- The state of the search: its boxes, and what now comes first. -/
structure MB (W : World) (B bs l : Nat) (S : SI) (ot : Option Addr) (cap : Nat) (v : Value) (now : List Nat) : Prop where
 low : bs < B
 size : B + 3 ≤ W.heap.size
 sb : SheetBox W bs S ot cap
 yb : W.cell? ⟨B, 0, none⟩ = some (.func (.yield l) #[] #[])
 nb : W.cell? ⟨B + 1, 0, none⟩ = some v
 nf : W.frozen? ⟨B + 1, 0, none⟩ = false
 fb : W.cell? ⟨B + 2, 0, none⟩ = some (.func (.func 124) #[] #[.pointer (some ⟨B + 1, 0, none⟩), .pointer (some ⟨bs, 0, none⟩), .pointer (some ⟨B, 0, none⟩), .pointer (some ⟨B + 2, 0, none⟩)])
 own : My.Own W (B + 3) 3 v ((upL now).map (Value.int .i64))
/-- The search's own blocks. -/
def mI (B : Nat) (v : Value) (i : Nat) : Prop := i = B ∨ i = B + 1 ∨ i = B + 2 ∨ v.ownBlock = some i
section
variable {W W' : World} {B bs l : Nat} {S : SI} {ot : Option Addr} {cap : Nat} {v v' : Value} {now : List Nat}
theorem MB.mv {X : Nat → Prop} (h : MB W B bs l S ot cap v now) (hM : Mv X W W') (h1 : ¬ X bs) (h2 : ∀ i, mI B v i → ¬ X i) : MB W' B bs l S ot cap v now :=
 ⟨h.low, Nat.le_trans h.size hM.size, fun i u hu => hM.cell h1 (h.sb i u hu), hM.cell (h2 _ (.inl rfl)) h.yb, hM.cell (h2 _ (.inr (.inl rfl))) h.nb,
  (hM.frozen (h2 _ (.inr (.inl rfl))) (by have := h.size; simp; omega)).trans h.nf, hM.cell (h2 _ (.inr (.inr (.inl rfl)))) h.fb, h.own.mv hM fun b hb => h2 b (.inr (.inr (.inr hb)))⟩
theorem MB.ext (h : MB W B bs l S ot cap v now) (hE : Ext W W') : MB W' B bs l S ot cap v now := h.mv (X := fun _ => False) (Mv.of_ext hE) (fun h => h) (fun _ _ h => h)
theorem MB.old (h : MB W B bs l S ot cap v now) {i : Nat} (hi : mI B v i) : B ≤ i ∧ i < W.heap.size := by
 have hs := h.size
 rcases hi with rfl | rfl | rfl | hi
 ·exact ⟨Nat.le_refl _, by omega⟩
 ·exact ⟨by omega, by omega⟩
 ·exact ⟨by omega, by omega⟩
 ·have := h.own.lt i hi; exact ⟨by omega, this.2⟩
/-- now is written anew. -/
theorem MB.set (h : MB W B bs l S ot cap v now) {W1 : World} {now' : List Nat} (hM : Mv (mI B v) W W1) (h3 : ∀ i, i < B + 3 → B ≤ i → W1.heap[i]? = W.heap[i]?) (ho : My.Own W1 (B + 3) 3 v' ((upL now').map (Value.int .i64))) :
  MB (W1.setCell ⟨B + 1, 0, none⟩ v') B bs l S ot cap v' now' ∧ Mv (mI B v) W (W1.setCell ⟨B + 1, 0, none⟩ v') := by
 have hl := h.low
 have hs := h.size
 have hs1 := hM.size
 have hc : ∀ (b : Nat) (u : Value) (o : Nat), B ≤ b → b < B + 3 → W.cell? ⟨b, o, none⟩ = some u → W1.cell? ⟨b, o, none⟩ = some u := fun b u o h1 h2 hu => (World.cell?_of_block (h3 b h2 h1)).trans hu
 have hf := (World.frozen?_of_block (a := ⟨B + 1, 0, none⟩) (h3 (B + 1) (by omega) (by omega))).trans h.nf
 have hT : Turned (B + 1) W1 (W1.setCell ⟨B + 1, 0, none⟩ v') := (Turned.refl (B + 1) W1).set 0 v'
 have y := hc B _ 0 (by omega) (by omega) h.yb
 have n := hc (B + 1) _ 0 (by omega) (by omega) h.nb
 have f := hc (B + 2) _ 0 (by omega) (by omega) h.fb
 have hM2 : Mv (mI B v) W (W1.setCell ⟨B + 1, 0, none⟩ v') := hM.trans (Mv.of_grown hT fun i e => by cases e; exact .inr (.inl rfl))
 refine ⟨⟨hl, by have := hT.size; omega, fun i u hu => hM2.cell ?_ (h.sb i u hu), by go_simp, by go_simp, by go_simp, by go_simp, ho.turned hT (by omega)⟩, hM2⟩
 rintro (e | e | e | e)
 ·simp only at e; omega
 ·simp only at e; omega
 ·simp only at e; omega
 ·have := h.own.lt _ e; simp only at this; omega
end

/-- What is handed out: a sheet with mixture number k, in a row of its own. -/
def MixP (s : Sh) (ot : Option Addr) (cap n k : Nat) (I : Nat → Prop) (x : Value) (W : World) : Prop :=
 ∃ m base om cm, (allMix s.tins.length)[k]? = some m ∧ x = potV s ot cap om m.length cm ∧ My.Own W base 3 (.slice om m.length cm) ((upL m).map (Value.int .i64)) ∧ (∀ i, I i → i < base) ∧ n ≤ base

section
variable (s : Sh) (ot : Option Addr) (cap n B bs l : Nat) (Bd : Nat → Prop) (R : Nat → (Nat → Prop) → World → Prop) (Fin : World → Prop)

/-- What the search leaves. -/
def FromPost (k : Nat) (now : List Nat) (p j : Nat) (W' : World) (b : Bool) : Prop :=
 (b = true → ∃ v', MB W' B bs l (ofSh s) ot cap v' now ∧ R (j + (mixFrom k now p).length) (mI B v') W') ∧ (b = false → Fin W')

theorem from_zero (g : Fine s) (hn : n ≤ B) (hbs : bs < n) (hbd : ¬ Bd bs) (hR : Steady R)
  (hY : ∀ (m k : Nat) (I : Nat → Prop) (x : Value) (W1 : World), k < (allMix s.tins.length).length → R k I W1 → MixP s ot cap n k I x W1 → (∀ i, I i → B ≤ i ∧ i < W1.heap.size) →
   YieldAt Fence.wide m Tryz.prog l #[x] W1 fun e W' => ∃ b, e = .returned (.bool b) ∧ Kept I Bd n W1 W' ∧ (b = true → R (k + 1) I W') ∧ (b = false → Fin W'))
  (now : List Nat) (p j : Nat) (post : List (List Nat)) (v : Value) (w : World) (hl : now.length + 1 = s.tins.length) (hp : p ≤ 8) (hd : (allMix s.tins.length).drop j = mixFrom 0 now p ++ post) (h : MB w B bs l (ofSh s) ot cap v now) (hr : R j (mI B v) w) :
  Calls Tryz.prog 124 #[.int .i64 p, .pointer (some ⟨B + 1, 0, none⟩), .pointer (some ⟨bs, 0, none⟩), .pointer (some ⟨B, 0, none⟩), .pointer (some ⟨B + 2, 0, none⟩)] w fun e W' => ∃ b, e = .returned (.bool b) ∧ FromPost s ot cap B bs l R Fin 0 now p j W' b := by
 have hl4 := g.len2
 have hnow : now.length ≤ 3 := by omega
 obtain ⟨oa, cm, rfl, h1, h2, h3, h4⟩ := h.own.ints
 rw [upL_length] at h1 h hr
 have hk : (allMix s.tins.length)[j]? = some (now ++ [p]) := by
  have := congrArg (fun l => l[0]?) hd
  simpa [mixFrom] using this
 have hjl : j < (allMix s.tins.length).length := (List.getElem?_eq_some_iff.1 hk).1
 have hcl := fun W (hE : Ext w W) => clone_ints (cap := cm) (h4.ext hE) (by rw [upL_length]; omega) h3 (by rw [upL_length]; exact h1)
 rw [upL_length] at hcl
 -- the round
 have Hy := Lib.hid (fun (om : Option Addr) (c2 : Nat) (W : World) (hE : Ext w W) (ho : My.Own W w.heap.size 3 (.slice om (now.length + 1) c2) ((upL (now ++ [p])).map (Value.int .i64))) =>
  hY 2 j (mI B (.slice oa now.length cm)) (potV s ot cap om (now.length + 1) c2) W hjl (hR j _ _ _ _ hr (Mv.of_ext (I := mI B (.slice oa now.length cm)) hE) fun i hi => ⟨.inl hi, Nat.lt_of_lt_of_le (h.old hi).2 hE.size⟩)
   ⟨now ++ [p], w.heap.size, om, c2, hk, by rw [List.length_append]; rfl, by rw [List.length_append]; exact ho, fun i hi => (h.old hi).2, by have := h.size; omega⟩ (fun i hi => ⟨(h.old hi).1, Nat.lt_of_lt_of_le (h.old hi).2 hE.size⟩))
 have Fb := Lib.hid h
 have hb1 := h.nb
 have hb2 := h.yb
 have hsz := h.size
 have hlo := h.low
 have hln : ((now.length : Int) == (((ofSh s).tins.length : Int) - 1)) = true := by rw [tins_len]; simp; omega
 have Hcl := Lib.hid hcl
 have hlenI : (now.length : Int) ≤ 3 := by omega
 have q0 : IntKind.i64.wrap (((ofSh s).tins.length : Int) - 1) = ((ofSh s).tins.length : Int) - 1 := by rw [tins_len, IntWalk.i64_in _ (by omega)]
 have Hup := Lib.hid (show (upL (now ++ [p])).map (Value.int .i64) = (upL now).map (Value.int .i64) ++ [Value.int .i64 (p : Int)] by simp [upL])
 have hlm : ((upL now).map (Value.int .i64)).length < 1000000000 := by rw [List.length_map, upL_length]; omega
 have Hlm := Lib.hid hlm
 have c0 := Fb.out.sb 0 _ rfl; have c1 := Fb.out.sb 1 _ rfl; have c2 := Fb.out.sb 2 _ rfl; have c3 := Fb.out.sb 3 _ rfl; have c4 := Fb.out.sb 4 _ rfl; have c5 := Fb.out.sb 5 _ rfl; have c6 := Fb.out.sb 6 _ rfl; have c7 := Fb.out.sb 7 _ rfl; have c8 := Fb.out.sb 8 _ rfl; have c9 := Fb.out.sb 9 _ rfl; have c10 := Fb.out.sb 10 _ rfl; have c11 := Fb.out.sb 11 _ rfl; have c12 := Fb.out.sb 12 _ rfl
 clear h4 hcl hd hl h hY hr hk hR hlm
 go_enter Tryz.func124, Tryz.ntmps124
 go_wp2_with fail
 clear hb1 hb2 c0 c1 c2 c3 c4 c5 c6 c7 c8 c9 c10 c11 c12
 refine (wpIn_wide (n := 3)).1 ?_
 refine wpIn_region_plan (.take 0 <| .take 1 <| .take 2 <| .take 4 <| .two 3 5 (.only 5 <| .only 6 <| .take 7 <| .only 8 <| .take 9 <| .done) (.only 3 <| .only 6 <| .take 7 <| .only 8 <| .take 9 <| .done)) (fun W => MB W B bs l (ofSh s) ot cap (.slice oa now.length cm) now) mixed (by kernel_rfl) (by kernel_rfl) rfl (fun _ _ d _ _ h => by cases d <;> exact h) (fun _ h => h) (Fb.out.ext (Ext.refl w).drew) ?_
 repeat (refine planIn_take (v := ?_) rfl rfl (fun W hW => ?_) ?_; rotate_left; (focus (have d0 := hW.nb; have d1 := hW.yb; have c0 := hW.sb 0 _ rfl; have c1 := hW.sb 1 _ rfl; have c2 := hW.sb 2 _ rfl; have c3 := hW.sb 3 _ rfl; have c4 := hW.sb 4 _ rfl; have c5 := hW.sb 5 _ rfl; have c6 := hW.sb 6 _ rfl; have c7 := hW.sb 7 _ rfl; have c8 := hW.sb 8 _ rfl; have c9 := hW.sb 9 _ rfl; have c10 := hW.sb 10 _ rfl; have c11 := hW.sb 11 _ rfl; have c12 := hW.sb 12 _ rfl; go_simp; first | exact rfl | (split <;> first | exact rfl | (exfalso; omega)) | done)); simp only [puts])
 refine planIn_two rfl rfl ?_ ?_
 ·intro K hK
  gi_wp2_with (first | (refine ⟨trivial, ?_⟩; gi_at_call 125; refine (callsIn_wide.2 (Hcl.out _ (Ext.refl w).drew)).mono ?_; rintro e w1 ⟨v1, rfl, ho1, hE1⟩))
  have X1 := (Ext.refl w).drew.trans hE1
  refine hK _ _ (Fb.out.ext X1) ?_
  refine planIn_walk rfl ?_; intro K hK
  gi_wp2
  have X2 := X1.alloc (.cells #[.int .i64 p] 3)
  refine hK _ _ (Fb.out.ext X2) ?_
  refine planIn_walk rfl ?_; intro K hK
  gi_wp2_with (first | (gi_at_builtin; refine wpListIn_app1 _ rfl _ _ 29 rfl 3 Tryz.underlying29 (.int .i64 0) 8 i3 rfl (by decide) w.heap.size _ _ rfl (ho1.ext ((Ext.refl w1).alloc _)) w1.heap.size (.int .i64 p) rfl (by go_simp) rfl Hlm.out X2.size ?_))
  intro v2 w5 ho5 hB5 hg5
  have X5 : Ext w w5 := X2.below hB5 (Nat.le_refl _)
  rw [← Hup.out] at ho5
  obtain ⟨om, c2, hv5, _⟩ := ho5.slice
  rw [show ((upL (now ++ [p])).map (Value.int .i64)).length = now.length + 1 by simp [upL]] at hv5
  subst hv5
  obtain ⟨fn, tmps, assign, body, hy, hRd⟩ := Hy.out om c2 w5 X5 ho5
  refine hK _ _ (Fb.out.ext X5) ?_
  repeat (refine planIn_take (v := ?_) rfl rfl (fun W hW => ?_) ?_; rotate_left; (focus (skip; go_simp; first | exact rfl | (split <;> first | exact rfl | (exfalso; omega)) | done)); simp only [puts])
  refine planIn_walk rfl ?_; intro K hK
  clear hg5 hB5 ho5
  gi_wp2_with (first | (refine hRd.mono ?_; rintro e w6 ⟨b, rfl, hkp, ht, hf⟩))
  have Fb6 := (Fb.out.ext X5).mv hkp (fun hx => hx (.inr ⟨hbs, hbd⟩)) (fun i hi hx => hx (.inl hi))
  refine hK _ _ Fb6 ?_
  repeat (refine planIn_take (v := ?_) rfl rfl (fun W hW => ?_) ?_; rotate_left; (focus (skip; go_simp; first | exact rfl | (split <;> first | exact rfl | (exfalso; omega)) | done)); simp only [puts])
  refine planIn_done ?_
  clear hy hRd hkp
  have Ht := Lib.hid ht
  have Hf := Lib.hid hf
  have Fb7 := Lib.hid Fb6
  clear ht hf Fb6
  go_wp2
  go_ret
  exact ⟨b, rfl, fun h => ⟨_, Fb7.out, Ht.out h⟩, Hf.out⟩
 ·intro K hK
  gi_wp2
  have X1 := (Ext.refl w).drew.alloc (.cells #[.int .i64 p] 3)
  have hcp : (w.drew.alloc (.cells #[.int .i64 p] 3)).cell? ⟨w.heap.size, 0, none⟩ = some (.int .i64 p) := by go_simp
  refine hK _ _ (Fb.out.ext X1) ?_
  refine planIn_walk rfl ?_; intro K hK
  gi_wp2_with (first | (refine ⟨trivial, ?_⟩; gi_at_call 125; refine (callsIn_wide.2 (Hcl.out _ X1)).mono ?_; rintro e w1 ⟨v1, rfl, ho1, hE1⟩))
  have X2 := X1.trans hE1
  have hcp2 := cell_ext hE1 hcp
  refine hK _ _ (Fb.out.ext X2) ?_
  refine planIn_walk rfl ?_; intro K hK
  gi_wp2_with (first | (gi_at_builtin; refine wpListIn_app1 _ rfl _ _ 29 rfl 3 Tryz.underlying29 (.int .i64 0) 8 i3 rfl (by decide) w.heap.size _ _ rfl (ho1.low X1.size) w.heap.size (.int .i64 p) rfl hcp2 rfl Hlm.out X2.size ?_))
  intro v2 w5 ho5 hB5 hg5
  have X5 : Ext w w5 := X2.below hB5 (Nat.le_refl _)
  rw [← Hup.out] at ho5
  obtain ⟨om, c2, hv5, _⟩ := ho5.slice
  rw [show ((upL (now ++ [p])).map (Value.int .i64)).length = now.length + 1 by simp [upL]] at hv5
  subst hv5
  obtain ⟨fn, tmps, assign, body, hy, hRd⟩ := Hy.out om c2 w5 X5 ho5
  refine hK _ _ (Fb.out.ext X5) ?_
  repeat (refine planIn_take (v := ?_) rfl rfl (fun W hW => ?_) ?_; rotate_left; (focus (skip; go_simp; first | exact rfl | (split <;> first | exact rfl | (exfalso; omega)) | done)); simp only [puts])
  refine planIn_walk rfl ?_; intro K hK
  clear hg5 hB5 ho5
  gi_wp2_with (first | (refine hRd.mono ?_; rintro e w6 ⟨b, rfl, hkp, ht, hf⟩))
  have Fb6 := (Fb.out.ext X5).mv hkp (fun hx => hx (.inr ⟨hbs, hbd⟩)) (fun i hi hx => hx (.inl hi))
  refine hK _ _ Fb6 ?_
  repeat (refine planIn_take (v := ?_) rfl rfl (fun W hW => ?_) ?_; rotate_left; (focus (skip; go_simp; first | exact rfl | (split <;> first | exact rfl | (exfalso; omega)) | done)); simp only [puts])
  refine planIn_done ?_
  clear hy hRd hkp
  have Ht := Lib.hid ht
  have Hf := Lib.hid hf
  have Fb7 := Lib.hid Fb6
  clear ht hf Fb6
  go_wp2
  go_ret
  exact ⟨b, rfl, fun h => ⟨_, Fb7.out, Ht.out h⟩, Hf.out⟩
end

end Go.Proofs.YtjpekonfjihcoaaGreatDoor
