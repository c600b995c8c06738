/- Contracts and mathematics, joined: From2, Iter. Conditions stand with each. -/
import Derived.ArgAppend
import Derived.Below
import Derived.BigQuiet
import Derived.Deep.DeepCutAuto
import Derived.Deep.DeepFit
import Derived.Deep.LoopGhost
import Derived.Deep.QuietTactic
import Derived.Deep.RegionHeld
import Derived.Deep.RegionHeld3
import Derived.Deep.RegionWith
import Derived.Laws.EntriesVeiled
import Derived.Laws.OwnMore
import Derived.Lib.Hide
import Derived.LoopIn
import Derived.LoopNIn
import Derived.Maps.Keyed
import Derived.OrdersHeld
import Derived.OwnWalkIn
import Derived.RangeFuncBound
import Derived.RangeFuncCalls
import Derived.RangeFuncLeaves
import Derived.RangeFuncNested
import Derived.RegionIn
import Derived.TacticsInMore
import Derived.Test.YtjpekonfjihcoaaGreatDoorProg
import Derived.WalkKit
import Derived.WalkLawsBesides
import Derived.WalkSpells
import Derived.Test.YtjpekonfjihcoaaGreatDoorM3
import Derived.Test.YtjpekonfjihcoaaGreatDoorM20
import Derived.Test.YtjpekonfjihcoaaGreatDoorM2
import Derived.Test.YtjpekonfjihcoaaGreatDoorM9
import Derived.Test.YtjpekonfjihcoaaGreatDoorM4
import Derived.Test.YtjpekonfjihcoaaGreatDoorM11
import Derived.Test.YtjpekonfjihcoaaGreatDoorM1
import Derived.Test.YtjpekonfjihcoaaGreatDoorM22
import Derived.Test.YtjpekonfjihcoaaGreatDoorM17
namespace Go.TintM
end Go.TintM
set_option maxRecDepth 100000
set_option maxHeartbeats 64000000
set_option linter.unusedVariables false
set_option linter.unusedSimpArgs false
/- Contract: the search for mixtures, all of it. No condition. -/
namespace Go.Proofs.YtjpekonfjihcoaaGreatDoor
open Go.RowKit Go.My Go.TintM

theorem mixTo_more (k : Nat) (now : List Nat) (l i : Nat) : ∀ d, ∃ rest, mixTo k now l (i + d) = mixTo k now l i ++ rest
 | 0 => ⟨[], by simp⟩
 | d + 1 => by
  obtain ⟨r, hr⟩ := mixTo_more k now l i d
  exact ⟨r ++ mixFrom k (now ++ [i + d]) (l - (i + d)), by rw [← Nat.add_assoc, mixTo_succ, hr, List.append_assoc]⟩
theorem mix_drop {L : List (List Nat)} {k : Nat} {now : List Nat} {p j x : Nat} {post : List (List Nat)} (h : L.drop j = mixFrom (k + 1) now p ++ post) (hx : x ≤ p) : ∃ post', L.drop (j + (mixTo k now p x).length) = mixFrom k (now ++ [x]) (p - x) ++ post' := by
 obtain ⟨r, hr⟩ := mixTo_more k now p (x + 1) (p - x)
 rw [show x + 1 + (p - x) = p + 1 by omega, mixTo_end, mixTo_succ] at hr
 refine ⟨r ++ post, ?_⟩
 rw [← List.drop_drop, h, hr]
 simp only [List.append_assoc, List.drop_left]
theorem own_some {w : World} {B : Nat} {e : TypeId} {v : Value} {xs : List Value} {n : Nat} (h : My.Own w B e v xs) (hx : xs.length = n + 1) : ∃ g cap, v = .slice (some ⟨g, 0, none⟩) (n + 1) cap ∧ n + 1 ≤ cap := by
 rcases h.2 with ⟨_, h2⟩ | ⟨g, cap, cur, hv, _, _, hc, _⟩
 ·omega
 ·exact ⟨g, cap, by rw [hv, hx], by omega⟩

section
variable (s : Sh) (ot : Option Addr) (cap n B bs l : Nat) (Bd : Nat → Prop) (R : Nat → (Nat → Prop) → World → Prop) (Fin : World → Prop)

theorem from_any (g : Fine s) (hn : n ≤ B) (hbs : bs < n) (hbd : ¬ Bd bs) (hR : Steady R)
  (hY : ∀ (m k : Nat) (I : Nat → Prop) (x : Value) (W1 : World), k < (allMix s.tins.length).length → R k I W1 → MixP s ot cap n k I x W1 → (∀ i, I i → B ≤ i ∧ i < W1.heap.size) →
   YieldAt Fence.wide m Tryz.prog l #[x] W1 fun e W' => ∃ b, e = .returned (.bool b) ∧ Kept I Bd n W1 W' ∧ (b = true → R (k + 1) I W') ∧ (b = false → Fin W')) :
  ∀ (k : Nat) (now : List Nat) (p j : Nat) (post : List (List Nat)) (v : Value) (w : World), now.length + k + 1 = s.tins.length → p ≤ 8 → (allMix s.tins.length).drop j = mixFrom k now p ++ post → MB w B bs l (ofSh s) ot cap v now → R j (mI B v) w →
  Calls Tryz.prog 124 #[.int .i64 p, .pointer (some ⟨B + 1, 0, none⟩), .pointer (some ⟨bs, 0, none⟩), .pointer (some ⟨B, 0, none⟩), .pointer (some ⟨B + 2, 0, none⟩)] w fun e W' => ∃ b, e = .returned (.bool b) ∧ FromPost s ot cap B bs l R Fin k now p j W' b := by
 intro k
 induction k with
 | zero =>
  intro now p j post v w hl hp hd h hr
  exact from_zero s ot cap n B bs l Bd R Fin g hn hbs hbd hR hY now p j post v w (by omega) hp hd h hr
 | succ k ih =>
  intro now p j post v w hl hp hd h hr
  have hl4 := g.len2
  have Ih := Lib.hid ih
  have HR := Lib.hid hR
  have Hd := Lib.hid hd
  obtain ⟨oa, cm, rfl, h1, h2, h3, h4⟩ := h.own.ints
  rw [upL_length] at h h1 hr
  have Fb := Lib.hid h
  have Hr := Lib.hid hr
  have hb1 := h.nb
  have hln : ((now.length : Int) == (((ofSh s).tins.length : Int) - 1)) = false := by rw [tins_len]; simp; omega
  have q0 : IntKind.i64.wrap (((ofSh s).tins.length : Int) - 1) = ((ofSh s).tins.length : Int) - 1 := by rw [tins_len, IntWalk.i64_in _ (by omega)]
  have q1 : IntKind.i64.wrap ((p : Int) + 1) = (p : Int) + 1 := by rw [IntWalk.i64_in _ (by omega)]
  have c0 := Fb.out.sb 0 _ rfl; have c1 := Fb.out.sb 1 _ rfl; have c2 := Fb.out.sb 2 _ rfl; have c3 := Fb.out.sb 3 _ rfl; have c4 := Fb.out.sb 4 _ rfl; have c5 := Fb.out.sb 5 _ rfl; have c6 := Fb.out.sb 6 _ rfl; have c7 := Fb.out.sb 7 _ rfl; have c8 := Fb.out.sb 8 _ rfl; have c9 := Fb.out.sb 9 _ rfl; have c10 := Fb.out.sb 10 _ rfl; have c11 := Fb.out.sb 11 _ rfl; have c12 := Fb.out.sb 12 _ rfl
  clear h hr ih hR hd hY h4 h1 h2 h3
  go_enter Tryz.func124, Tryz.ntmps124
  go_wp2_with fail
  clear c0 c1 c2 c3 c4 c5 c6 c7 c8 c9 c10 c11 c12
  clear hb1 hln q0
  go_loopg [7, 26] (p + 1) (fun g a i wr => ∃ x : Nat, x + g = p + 1 ∧ i = .int .i64 x ∧ ∃ v, MB wr B bs l (ofSh s) ot cap v now ∧ R (j + (mixTo k now p x).length) (mI B v) wr)
  case atStart => exact ⟨0, by omega, rfl, _, Fb.out, Hr.out⟩
  case round =>
   clear Fb Hr
   obtain ⟨x, hx, rfl, v, fb, hr⟩ := hrel
   obtain ⟨oa, cm, rfl, h1, h2, h3, h4⟩ := fb.own.ints
   rw [upL_length] at fb h1 hr
   have hb1 := fb.nb
   have hbf := fb.nf
   have hbz := fb.size
   have Fb := Lib.hid fb
   have Hr := Lib.hid hr
   obtain ⟨wo, rfl⟩ : ∃ wo : World, wo = wr := ⟨_, rfl⟩
   have Hlm := Lib.hid (show ((upL now).map (Value.int .i64)).length < 1000000000 by rw [List.length_map, upL_length]; omega)
   clear h4 fb hr h1 h2 h3
   by_cases hlt : x ≤ p
   ·have hltI : (x : Int) < (p : Int) + 1 := by omega
    have qs : IntKind.i64.wrap ((p : Int) - (x : Int)) = ((p - x : Nat) : Int) := by rw [IntWalk.i64_in _ (by omega)]; omega
    have l1 : B + 1 < wo.heap.size := by omega
    go_wp2_with (first | (at_builtin; refine wpList_app1n _ rfl _ _ 29 rfl 3 Tryz.underlying29 (.int .i64 0) 8 i3 rfl (by decide) (B + 3) _ _ rfl (Fb.out.own.ext ((Ext.refl wo).alloc _)) wo.heap.size (.int .i64 x) rfl (by go_simp) rfl Hlm.out (by simp; omega) ?_))
    intro v' w5 ho5 hB5 hg5 hn5
    have hlx : ((upL now).map (Value.int .i64) ++ [Value.int .i64 (x : Int)]).length = now.length + 1 := by simp [upL]
    obtain ⟨g5, c5, rfl, hc5⟩ := own_some ho5 hlx
    have hups : (upL (now ++ [x])).map (Value.int .i64) = (upL now).map (Value.int .i64) ++ [Value.int .i64 (x : Int)] := by simp [upL]
    have hN : ∀ i, i < B + 3 → B ≤ i → w5.heap[i]? = wo.heap[i]? := fun i k1 k2 => (hB5.block i k1).trans (heap_alloc_old wo _ (by omega))
    have hMv : Mv (mI B (.slice oa now.length cm)) wo w5 := (Mv.of_ext ((Ext.refl wo).alloc _)).trans (Mv.of_grown hg5 fun i e => .inr (.inr (.inr e)))
    have hset := Fb.out.set hMv hN (by rw [hups]; exact ho5)
    obtain ⟨post', hdr⟩ := mix_drop Hd.out hlt
    have hr6 := HR.out _ _ (mI B (.slice (some ⟨g5, 0, none⟩) (now.length + 1) c5)) _ _ Hr.out hset.2 (fun i hi => ⟨by
     rcases hi with e | e | e | e
     ·exact .inl (.inl e)
     ·exact .inl (.inr (.inl e))
     ·exact .inl (.inr (.inr (.inl e)))
     ·rcases hn5 with hn5 | hn5
      ·exact .inl (.inr (.inr (.inr (hn5.symm.trans e))))
      ·have := hn5 _ e; exact .inr (by (try simp at this); omega), (hset.1.old hi).2⟩)
    have hlm1 : ((upL (now ++ [x])).map (Value.int .i64)).length = now.length + 1 := by simp [upL]
    have Hlm1 := Lib.hid hlm1
    have qm : IntKind.i64.wrap (((now.length + 1 : Nat) : Int) - 1) = (now.length : Int) := by rw [IntWalk.i64_in _ (by omega)]; omega
    have Hih := Lib.hid (Ih.out (now ++ [x]) (p - x) _ post' _ _ (by rw [List.length_append, List.length_singleton]; omega) (by omega) hdr hset.1 hr6)
    have hnb : w5.cell? ⟨B + 1, 0, none⟩ = some (.slice oa now.length cm) := (World.cell?_of_block (hN (B + 1) (by omega) (by omega))).trans hb1
    have hnf : w5.frozen? ⟨B + 1, 0, none⟩ = false := (World.frozen?_of_block (a := ⟨B + 1, 0, none⟩) (hN (B + 1) (by omega) (by omega))).trans hbf
    have hfb5 : w5.cell? ⟨B + 2, 0, none⟩ = _ := (World.cell?_of_block (hN (B + 2) (by omega) (by omega))).trans Fb.out.fb
    clear hset hr6 hMv hN ho5 hB5 hg5 hn5 hlx hdr hb1 hbf hlm1
    go_wp2_with (first | (go_at_call 124; refine Hih.out.mono ?_; rintro e w7 ⟨b, rfl, hp⟩; cases b; all_goals (first | (have hF := Lib.hid (hp.2 rfl); clear hp; clear hnb hnf hfb5) | (obtain ⟨v7, fb7, hr7⟩ := hp.1 rfl; obtain ⟨g7, c7, rfl, hc7⟩ := own_some fb7.own Hlm1.out; have k1 := fb7.nb; have k2 := fb7.nf; have Fb7 := Lib.hid fb7; have Hr7 := Lib.hid hr7; clear fb7 hr7 hp; clear hnb hnf hfb5))))
    ·go_ret
     first | exact ⟨false, rfl, nofun, fun _ => hF.out⟩ | exact .inl ⟨rfl, nofun, fun _ => hF.out⟩
    have hcut : My.Own w7 (B + 3) 3 (.slice (some ⟨g7, 0, none⟩) now.length c7) ((upL now).map (Value.int .i64)) := by
     have := Fb7.out.own
     rw [hups] at this
     exact this.cut (by rw [List.length_map, upL_length])
    have hset := Fb7.out.set (Mv.refl _ w7) (fun i _ _ => rfl) hcut
    have hr8 := HR.out _ _ (mI B (.slice (some ⟨g7, 0, none⟩) now.length c7)) _ _ Hr7.out hset.2 (fun i hi => ⟨.inl hi, (hset.1.old hi).2⟩)
    rw [Nat.add_assoc, ← List.length_append, ← mixTo_succ] at hr8
    go_roundg (gk - 1)
    case measure => omega
    case rel => exact ⟨x + 1, by omega, by go_num, _, hset.1, hr8⟩
   ·obtain rfl : x = p + 1 := by omega
    have hltI : ¬ ((p + 1 : Nat) : Int) < (p : Int) + 1 := by omega
    go_wp2
    go_ret
    first | exact ⟨true, rfl, fun _ => ⟨_, Fb.out, Hr.out⟩, nofun⟩ | exact .inr ⟨rfl, fun _ => ⟨_, Fb.out, Hr.out⟩, nofun⟩
end

end Go.Proofs.YtjpekonfjihcoaaGreatDoor
/- Contract: the iterator over all mixtures. No condition beyond sheets as defined. -/
namespace Go.Proofs.YtjpekonfjihcoaaGreatDoor
open Go.RowKit Go.My Go.TintM

theorem allTo_more (t i : Nat) : ∀ d, ∃ rest, allTo t (i + d) = allTo t i ++ rest
 | 0 => ⟨[], by simp⟩
 | d + 1 => by
  obtain ⟨r, hr⟩ := allTo_more t i d
  exact ⟨r ++ mixFrom (t - 1) [] (i + d + 1), by rw [← Nat.add_assoc, allTo_succ, hr, List.append_assoc]⟩
theorem all_drop {t x : Nat} (hx : x < 8) : ∃ post, (allMix t).drop (allTo t x).length = mixFrom (t - 1) [] (x + 1) ++ post := by
 obtain ⟨r, hr⟩ := allTo_more t (x + 1) (7 - x)
 rw [show x + 1 + (7 - x) = 8 by omega, allTo_end, allTo_succ] at hr
 refine ⟨r, ?_⟩
 rw [hr]
 simp only [List.append_assoc, List.drop_left]

theorem heap3 (w : World) (A B C : Obj) : (((w.alloc A).alloc B).alloc C).heap[w.heap.size + 1 + 1]? = some C := by
 have := heap_alloc_new ((w.alloc A).alloc B) C
 simpa only [World.size_alloc] using this
theorem cell3 (w : World) (A B : Obj) (v : Value) (t : TypeId) : (((w.alloc A).alloc B).alloc (.cells #[v] t)).cell? ⟨w.heap.size + 1 + 1, 0, none⟩ = some v := by
 rw [cell_of_row _ _ 0 _ _ _ (heap3 w A B (.cells #[v] t))]; rfl
theorem frozen3 (w : World) (A B : Obj) (v : Value) (t : TypeId) : (((w.alloc A).alloc B).alloc (.cells #[v] t)).frozen? ⟨w.heap.size + 1 + 1, 0, none⟩ = false := frozen_of_row _ _ 0 _ _ (heap3 w A B (.cells #[v] t))

theorem MB.start {W : World} {bs l : Nat} {S : SI} {ot : Option Addr} {cap : Nat} (hb : bs < W.heap.size) (hs : SheetBox W bs S ot cap) {W3 : World}
  (h3 : W3 = ((W.alloc (.cells #[.func (.yield l) #[] #[]] 115)).alloc (.cells #[.slice none 0 0] 29)).alloc (.cells #[.func (.func 124) #[] #[.pointer (some ⟨W.heap.size + 1, 0, none⟩), .pointer (some ⟨bs, 0, none⟩), .pointer (some ⟨W.heap.size, 0, none⟩), .pointer (some ⟨W.heap.size + 1 + 1, 0, none⟩)]] 69)) :
  MB W3 W.heap.size bs l S ot cap (.slice none 0 0) [] ∧ Ext W W3 := by
 have hE : Ext W W3 := by rw [h3]; exact (((Ext.refl W).alloc _).alloc _).alloc _
 exact ⟨⟨hb, by rw [h3]; simp, fun i u hu => cell_ext hE (hs i u hu), by rw [h3]; go_simp, by rw [h3]; go_simp, by rw [h3]; go_simp, by rw [h3]; exact cell3 _ _ _ _ _, My.Own.nil _ _ _⟩, hE⟩

theorem iter_any (s : Sh) (g : Fine s) (ot : Option Addr) (cap bs : Nat) (Bd : Nat → Prop) (w : World) (hbs : bs < w.heap.size) (hbd : ¬ Bd bs) (hsb : SheetBox w bs (ofSh s) ot cap) :
  Iter Tryz.prog 123 #[.pointer (some ⟨bs, 0, none⟩)] (allMix s.tins.length).length Bd w.heap.size (MixP s ot cap w.heap.size) w := by
 intro l W R Fin hE hR h0 hY
 have ht1 := g.len1
 have hf := fun x (hx : x < 8) v W' post (hd : (allMix s.tins.length).drop (allTo s.tins.length x).length = mixFrom (s.tins.length - 1) [] (x + 1) ++ post) (h : MB W' W.heap.size bs l (ofSh s) ot cap v []) (hr : R (allTo s.tins.length x).length (mI W.heap.size v) W') =>
  from_any s ot cap w.heap.size W.heap.size bs l Bd R Fin g hE.size hbs hbd hR hY (s.tins.length - 1) [] (x + 1) (allTo s.tins.length x).length post v W' (by simp; omega) (by omega) hd h hr
 have Hf := Lib.hid hf
 have HR := Lib.hid hR
 have H0 := Lib.hid h0
 have HS := Lib.hid (hsb.ext hE)
 have hbW : bs < W.heap.size := Nat.lt_of_lt_of_le hbs hE.size
 have k3 := cell3 W (.cells #[.func (.yield l) #[] #[]] 115) (.cells #[.slice none 0 0] 29) .nilFunc 69
 have k4 := frozen3 W (.cells #[.func (.yield l) #[] #[]] 115) (.cells #[.slice none 0 0] 29) .nilFunc 69
 clear hf hY hR h0 hsb hE
 go_enter Tryz.func123, Tryz.ntmps123
 go_wp2_with fail
 go_loopg [5, 7] 8 (fun g a i wr => ∃ x : Nat, x + g = 8 ∧ i = .int .i64 x ∧ ∃ v, MB wr W.heap.size bs l (ofSh s) ot cap v [] ∧ R (allTo s.tins.length x).length (mI W.heap.size v) wr)
 case atStart =>
  have hst := MB.start (l := l) hbW HS.out rfl
  exact ⟨0, by omega, rfl, _, hst.1, HR.out 0 _ _ _ _ H0.out (Mv.of_ext hst.2) fun i hi => ⟨.inr (hst.1.old hi).1, (hst.1.old hi).2⟩⟩
 case round =>
  obtain ⟨x, hx, rfl, v, fb, hr⟩ := hrel
  have Fb := Lib.hid fb
  have Hr := Lib.hid hr
  have hfb := fb.fb
  clear fb hr k3 k4
  by_cases hlt : x < 8
  ·have hltI : (x : Int) < 8 := by omega
   have qs : IntKind.i64.wrap ((x : Int) + 1) = ((x + 1 : Nat) : Int) := by rw [IntWalk.i64_in _ (by omega)]; omega
   obtain ⟨post, hd⟩ := all_drop (t := s.tins.length) hlt
   have Hih := Lib.hid (Hf.out x hlt v wr post hd Fb.out Hr.out)
   clear hd Hf Hr Fb
   go_wp2_with (first | (go_at_call 124; refine Hih.out.mono ?_; rintro e w7 ⟨b, rfl, hp⟩; cases b; all_goals (first | (have hF := Lib.hid (hp.2 rfl); clear hp) | (obtain ⟨v7, fb7, hr7⟩ := hp.1 rfl; have Fb7 := Lib.hid fb7; have Hr7 := Lib.hid hr7; clear fb7 hr7 hp))))
   ·refine bodyPost_ret (results_none rfl _ _ _) rfl ?_
    exact ⟨⟨_, rfl⟩, .inr hF.out⟩
   ·rw [← List.length_append, ← allTo_succ] at Hr7
    go_roundg (gk - 1)
    case measure => omega
    case rel => exact ⟨x + 1, by omega, by go_num, _, Fb7.out, Hr7.out⟩
  ·obtain rfl : x = 8 := by omega
   go_wp2
   go_end0
   exact ⟨⟨_, rfl⟩, .inl ⟨_, Hr.out, fun i hi => Fb.out.old hi⟩⟩

end Go.Proofs.YtjpekonfjihcoaaGreatDoor
