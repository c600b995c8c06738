/- Contracts and mathematics, joined: T2, T3, T4, T5. Conditions stand with each. -/
import Derived.Below
import Derived.BigQuiet
import Derived.Deep.DeepCutAuto
import Derived.Deep.DeepFit
import Derived.Deep.LoopGhost
import Derived.Deep.QuietTactic
import Derived.Deep.RegionHeld
import Derived.Deep.RegionHeld3
import Derived.Deep.RegionWith
import Derived.Defers
import Derived.Laws.BytesArg
import Derived.Laws.EntriesVeiled
import Derived.Lib.Hide
import Derived.Lib.IndexBytes
import Derived.Lib.ItoaNum
import Derived.Lib.SplitLaws
import Derived.Maps.Keyed
import Derived.OrdersHeld
import Derived.Recover
import Derived.Test.YtjpekonfjihcoaaGreatDoorProg
import Derived.WalkKit
import Derived.WalkLawsBesides
import Derived.WalkSpells
import Derived.Test.YtjpekonfjihcoaaGreatDoorM2
import Derived.Test.YtjpekonfjihcoaaGreatDoorM4
import Derived.Test.YtjpekonfjihcoaaGreatDoorM6
import Derived.Test.YtjpekonfjihcoaaGreatDoorM1
import Derived.Test.YtjpekonfjihcoaaGreatDoorM8
namespace Go.TintM
end Go.TintM
set_option maxRecDepth 100000
set_option maxHeartbeats 64000000
set_option linter.unusedVariables false
set_option linter.unusedSimpArgs false
/- Contracts of the reference: decimals. No condition beyond small numbers. -/
namespace Go.Proofs.YtjpekonfjihcoaaGreatDoor
open Go.RowKit Go.My Go.TintM

theorem conv1 (W : World) (b : Nat) (x : Int) (hc : W.cell? ⟨b, 0, none⟩ = some (.int .u8 x)) : (convert 96 9 (.slice (some ⟨b, 0, none⟩) 1 1)).run Tryz.prog W = .ok (.string (bs [UInt8.ofNat x.toNat])) W := by
 have := run_convert_bytes_arg (P := Tryz.prog) W 96 5 Tryz.underlying96 Tryz.underlying5 b 0 1 1 [x] rfl (fun i hi => by
  obtain rfl : i = 0 := by omega
  simpa using hc) 9 Tryz.underlying9
 rw [this]; rfl

theorem dec_small (n : Nat) (h : n < 10) (w : World) : Calls Tryz.prog 138 #[.int .i64 n] w fun e w' => e = .returned (.string (bs (digs n))) ∧ Ext w w' := by
 have h1 : ¬ ((n : Int) < 0) := by omega
 have h2 : (-10 : Int) < (n : Int) := by omega
 have h3 : (n : Int) < 10 := by omega
 have hc := conv1 (w.alloc (.cells #[.int .u8 (48 + (n : Int))] 5)) w.heap.size (48 + (n : Int)) (by go_simp)
 have hd : bs [UInt8.ofNat (48 + (n : Int)).toNat] = bs (digs n) := by
  rw [digs, Lib.decDigits, dif_pos h, show (48 + (n : Int)).toNat = 48 + n by omega]
 rw [hd] at hc
 clear hd
 go_enter Tryz.func138, Tryz.ntmps138
 go_wp2
 go_ret
 exact ⟨rfl, (Ext.refl w).alloc _⟩

theorem digs_two {n : Nat} (h : 10 ≤ n) : digs n = digs (n / 10) ++ [UInt8.ofNat (48 + n % 10)] := by
 show Lib.decDigits n = Lib.decDigits (n / 10) ++ _
 rw [Lib.decDigits, dif_neg (by omega)]

theorem dec_two (n : Nat) (h0 : 10 ≤ n) (h : n < 100) (w : World) : Calls Tryz.prog 138 #[.int .i64 n] w fun e w' => e = .returned (.string (bs (digs n))) ∧ Ext w w' := by
 have h1 : ¬ ((n : Int) < 0) := by omega
 have h2 : (-10 : Int) < (n : Int) := by omega
 have h3 : ¬ ((n : Int) < 10) := by omega
 have hd := digs_two h0
 obtain ⟨a, ha⟩ : ∃ a, a = n / 10 := ⟨_, rfl⟩
 obtain ⟨b, hb⟩ : ∃ b, b = n % 10 := ⟨_, rfl⟩
 rw [← ha, ← hb] at hd
 have ha9 : a < 10 := by omega
 have hb9 : b < 10 := by omega
 have hq := Lib.hid (fun W => dec_small a ha9 W)
 have hs1 : (digs a).length ≤ 1 := by unfold digs; rw [Lib.decDigits, dif_pos ha9]; simp
 have hcv := fun (W : World) => conv1 (W.alloc (.cells #[.int .u8 (48 + (b : Int))] 5)) W.heap.size (48 + (b : Int)) (by go_simp)
 rw [show (48 + (b : Int)).toNat = 48 + b by omega] at hcv
 obtain ⟨c, hcc⟩ : ∃ c, c = UInt8.ofNat (48 + b) := ⟨_, rfl⟩
 rw [← hcc] at hcv hd
 have q1 : IntKind.i64.wrap ((n : Int) / 10) = (a : Int) := by rw [IntWalk.i64_in _ (by omega)]; omega
 have q2 : (n : Int).tmod 10 = (b : Int) := by rw [Int.tmod_eq_emod_of_nonneg (by omega)]; omega
 have q3 : IntKind.i64.wrap (48 + (b : Int)) = 48 + (b : Int) := by rw [IntWalk.i64_in _ (by omega)]
 have q4 : IntKind.u8.wrap (48 + (b : Int)) = 48 + (b : Int) := by rw [IntWalk.u8_in _ (by omega)]
 have Hd := Lib.hid hd
 have Hcc := Lib.hid (show UInt8.ofNat (48 + (b : Int)).toNat = c by rw [hcc, show (48 + (b : Int)).toNat = 48 + b by omega])
 clear hd ha hb ha9 hcc
 go_enter Tryz.func138, Tryz.ntmps138
 go_wp2
 refine wp_region_plan (.take 0 <| .take 1 <| .take 3 <| .take 4 <| .take 5 <| .take 6 <| .two 2 7 (.only 7 <| .only 8 <| .take 9 <| .take 10 <| .done) (.two 2 8 (.only 8 <| .take 9 <| .take 10 <| .done) (.only 2 <| .take 9 <| .take 10 <| .done))) (fun W => Ext w W) mixed (by kernel_rfl) (by kernel_rfl) rfl (fun _ _ d _ _ h => by cases d <;> exact h) ((Ext.refl w).drew) ?_
 repeat ((first | (refine plan_take (v := ?_) rfl rfl (fun W hW => ?_) ?_; rotate_left; (focus (skip; go_simp; first | exact rfl | (split <;> first | exact rfl | (exfalso; omega)) | done))) | refine plan_skip rfl rfl ?_); simp only [puts])
 refine plan_two rfl rfl ?_ ?_
 ·intro K hK
  go_wp2_with (first | (go_at_call 138; refine (hq.out _).mono ?_; rintro e w1 ⟨rfl, hE1⟩))
  have hE2 := (Ext.refl w).drew.trans hE1
  refine hK _ _ hE2 ?_
  refine plan_walk rfl ?_; intro K hK
  go_wp2
  refine hK _ _ (hE2.alloc _) ?_
  refine plan_walk rfl ?_; intro K hK
  have hc1 := hcv w1
  clear hcv
  go_wp2
  refine hK _ _ (hE2.alloc _) ?_
  repeat ((first | (refine plan_take (v := ?_) rfl rfl (fun W hW => ?_) ?_; rotate_left; (focus (skip; go_simp; first | exact rfl | (split <;> first | exact rfl | (exfalso; omega)) | done))) | refine plan_skip rfl rfl ?_); simp only [puts])
  refine plan_done ?_
  go_wp2
  go_ret
  exact ⟨by rw [Hd.out, ← bs_append]; rfl, hE2.alloc _⟩
 ·intro K hK
  go_wp2
  have hE2 : Ext w (w.drew.alloc (.cells #[.int .u8 (48 + (b : Int))] 5)) := (Ext.refl w).drew.alloc _
  refine hK _ _ hE2 ?_
  refine plan_two rfl rfl ?_ ?_
  ·intro K hK
   go_wp2_with (first | (go_at_call 138; refine (hq.out _).mono ?_; rintro e w1 ⟨rfl, hE1⟩))
   refine hK _ _ (hE2.trans hE1) ?_
   refine plan_walk rfl ?_; intro K hK
   have hc1 := conv1 w1 w.heap.size (48 + (b : Int)) (cell_ext hE1 (by go_simp))
   rw [Hcc.out] at hc1
   clear hcv
   go_wp2
   refine hK _ _ (hE2.trans hE1) ?_
   repeat ((first | (refine plan_take (v := ?_) rfl rfl (fun W hW => ?_) ?_; rotate_left; (focus (skip; go_simp; first | exact rfl | (split <;> first | exact rfl | (exfalso; omega)) | done))) | refine plan_skip rfl rfl ?_); simp only [puts])
   refine plan_done ?_
   go_wp2
   go_ret
   exact ⟨by rw [Hd.out, ← bs_append]; rfl, hE2.trans hE1⟩
  ·intro K hK
   have hc1 := conv1 (w.alloc (.cells #[.int .u8 (48 + (b : Int))] 5)).drew w.heap.size (48 + (b : Int)) (by go_simp)
   rw [Hcc.out] at hc1
   clear hcv
   go_wp2
   refine hK _ _ hE2 ?_
   refine plan_walk rfl ?_; intro K hK
   clear hc1
   go_wp2_with (first | (go_at_call 138; refine (hq.out _).mono ?_; rintro e w1 ⟨rfl, hE1⟩))
   have hE3 : Ext w w1 := hE2.trans hE1
   refine hK _ _ hE3 ?_
   repeat ((first | (refine plan_take (v := ?_) rfl rfl (fun W hW => ?_) ?_; rotate_left; (focus (skip; go_simp; first | exact rfl | (split <;> first | exact rfl | (exfalso; omega)) | done))) | refine plan_skip rfl rfl ?_); simp only [puts])
   refine plan_done ?_
   go_wp2
   go_ret
   exact ⟨by rw [Hd.out, ← bs_append]; rfl, hE3⟩

theorem dec_any (n : Nat) (h : n < 100) (w : World) : Calls Tryz.prog 138 #[.int .i64 n] w fun e w' => e = .returned (.string (bs (digs n))) ∧ Ext w w' := by
 by_cases h0 : n < 10
 ·exact dec_small n h0 w
 ·exact dec_two n (by omega) h w

end Go.Proofs.YtjpekonfjihcoaaGreatDoor
/- Contracts of the reference: rows, sealed texts. No condition beyond small numbers. -/
namespace Go.Proofs.YtjpekonfjihcoaaGreatDoor
open Go.RowKit Go.My Go.TintM

theorem wrap64_in (x : Int) (h1 : -9223372036854775808 ≤ x) (h2 : x ≤ 9223372036854775807) : wrap64 x = x := by unfold wrap64; omega

theorem rowB_small (word : List UInt8) {ns : List Nat} (hw : word.length ≤ 5) (h : ∀ n ∈ ns, n < 100) (hl : ns.length ≤ 1000) : (rowB word ns).length ≤ 4000 := by
 have := rowB_len word h; omega
theorem run_add (a b : List UInt8) (h : a.length + b.length ≤ 9223372036854775807) (w : World) : (Op.stringOp .add (bs a) (bs b)).run Tryz.prog w = .ok (.string (bs (a ++ b))) w := by
 have := run_string_add_sum (P := Tryz.prog) (w := w) (bs a) (bs b) (by rw [bs_size, bs_size]; exact h)
 rw [bs_append] at this
 exact this

theorem wrap3 {C S x K I y z : Nat} (hy : y = x * K) (hz : z = y * I) (h0 : x ≤ 1000000000000) (h1 : y ≤ 1000000000000) (h2 : z ≤ 1000000000000) (hC : C ≤ 4096000000000000) (hS : S ≤ 4096000000000) :
  wrap64 ((C : Int) + (S : Int) + wrap64 (wrap64 (wrap64 (x : Int) * (K : Int)) * (I : Int))) = ((C + (S + z) : Nat) : Int) := by
 have e1 : wrap64 (x : Int) = (x : Int) := wrap64_in _ (by omega) (by omega)
 have c1 : (x : Int) * (K : Int) = (y : Int) := by rw [hy]; push_cast; rfl
 have e2 : wrap64 (y : Int) = (y : Int) := wrap64_in _ (by omega) (by omega)
 have c2 : (y : Int) * (I : Int) = (z : Int) := by rw [hz]; push_cast; rfl
 have e3 : wrap64 (z : Int) = (z : Int) := wrap64_in _ (by omega) (by omega)
 rw [e1, c1, e2, c2, e3, wrap64_in _ (by omega) (by omega)]
 omega

theorem step_sum {C i k : Nat} {s : List UInt8} (hk : k < s.length) (h : k < (bs s).size) (hsl : s.length ≤ 4000) (hi : i < 1000) (hC : C ≤ 4096000000000000) :
  wrap64 ((C : Int) + ((sumB i s k : Nat) : Int) + wrap64 (wrap64 (wrap64 (((bs s)[k]'h).toNat : Int) * ((k : Int) + 1)) * ((i : Int) + 1))) = ((C + sumB i s (k + 1) : Nat) : Int) := by
 have hx : (bs s)[k]'h = s[k] := by simp [ByteArray.getElem_eq_getElem_data]
 have hd : s.getD k 0 = s[k] := by simp [List.getD, hk]
 have hb := UInt8.toNat_lt s[k]
 have h1 : s[k].toNat * (k + 1) ≤ 1024000 := Nat.le_trans (Nat.mul_le_mul (show s[k].toNat ≤ 256 by omega) (show k + 1 ≤ 4000 by omega)) (by decide)
 have h2 : s[k].toNat * (k + 1) * (i + 1) ≤ 1024000000 := Nat.le_trans (Nat.mul_le_mul h1 (show i + 1 ≤ 1000 by omega)) (by decide)
 have h3 := sumB_le i s (k := k) (K := 4000) (I := 1000) (by omega) hi
 have h5 : sumB i s k ≤ 4096000000000 := Nat.le_trans h3 (Nat.le_trans (Nat.mul_le_mul_right _ (show k ≤ 4000 by omega)) (by decide))
 have := wrap3 (C := C) (S := sumB i s k) (x := s[k].toNat) (K := k + 1) (I := i + 1) rfl rfl (by omega) (by omega) (by omega) hC h5
 rw [hx, sumB_succ, hd]
 exact this

theorem add3r (c : List UInt8) (n : Nat) : bs c ++ (⟨#[32]⟩ : ByteArray) ++ bs (digs n) = bs (c ++ 32 :: digs n) := by
 have h := bs_append c [32]
 have h2 := bs_append (c ++ [32]) (digs n)
 rw [← h] at h2
 rw [show c ++ 32 :: digs n = c ++ [32] ++ digs n by simp]
 exact h2

theorem row_any (word : List UInt8) (l : List Nat) (oa : Option Addr) (cap : Nat) (w : World) (hw : word.length ≤ 5) (h : IntsAt w oa (upL l)) (hl : l.length ≤ 1000) (hs : ∀ n ∈ l, n < 100) :
  Calls Tryz.prog 106 #[.string (bs word), .slice oa l.length cap] w fun e w' => e = .returned (.string (bs (rowB word l))) ∧ Ext w w' := by
 have H := Lib.hid h
 have Hs := Lib.hid hs
 clear h hs
 go_enter Tryz.func106, Tryz.ntmps106
 go_wp2
 go_loopg [0, 5] l.length (fun g o i wr => ∃ k : Nat, k + g = l.length ∧ i = .int .i64 k ∧ Ext w wr ∧ o = .string (bs (rowB word (l.take k))))
 case atStart => exact ⟨0, by simp, rfl, Ext.refl _, by simp [rowB]⟩
 case round =>
  obtain ⟨k, hk, rfl, hE, rfl⟩ := hrel
  by_cases hlt : k < l.length
  ·obtain ⟨b, off, rfl, _, hc2⟩ := ints_up (H.out.ext hE) hlt
   have hn := Hs.out _ (List.getElem_mem hlt)
   have hd : (digs l[k]).length ≤ 2 := digs_len hn
   have hcl := rowB_small word (ns := l.take k) hw (fun n hn => Hs.out n (List.mem_of_mem_take hn)) (by rw [List.length_take]; omega)
   have ho : rowB word (l.take (k + 1)) = rowB word (l.take k) ++ 32 :: digs l[k] := by rw [List.take_succ_eq_append_getElem hlt, rowB_snoc]
   have Ho := Lib.hid ho
   clear ho
   generalize hC : rowB word (l.take k) = C at *
   clear hC
   generalize hX : l[k] = X at *
   clear hX
   go_wp2_with (first | (go_at_call 138; refine (dec_any X hn _).mono ?_; rintro e w3 ⟨rfl, hE3⟩))
   go_roundg (gk - 1)
   case measure => omega
   case rel => exact ⟨k + 1, by omega, by go_num, hE.trans hE3, by rw [add3r, Ho.out]⟩
  ·have hkk : l.take k = l := List.take_of_length_le (by omega)
   rw [hkk]
   go_wp2
   go_ret
   exact ⟨rfl, hE⟩

/-- The cells of a slice of strings. -/
def StrsAt (w : World) (oa : Option Addr) (L : List (List UInt8)) : Prop :=
 ∀ (i : Nat) (x : List UInt8), L[i]? = some x → ∃ b off, oa = some ⟨b, off, none⟩ ∧ b < w.heap.size ∧ w.cell? ⟨b, off + i, none⟩ = some (.string (bs x))
theorem StrsAt.ext {w w' : World} {oa : Option Addr} {L : List (List UInt8)} (h : StrsAt w oa L) (hE : Ext w w') : StrsAt w' oa L := by
 intro i x hx
 obtain ⟨b, off, h1, h2, h3⟩ := h i x hx
 exact ⟨b, off, h1, Nat.lt_of_lt_of_le h2 hE.size, cell_ext hE h3⟩

theorem sealed_any (L : List (List UInt8)) (oa : Option Addr) (cap : Nat) (w : World) (h : StrsAt w oa L) (hL : L.length ≤ 1000) (hs : ∀ s ∈ L, s.length ≤ 4000) :
  Calls Tryz.prog 108 #[.slice oa L.length cap, .int .i64 199] w fun e w' => e = .returned (.string (bs (sealB L))) ∧ Ext w w' := by
 have H := Lib.hid h
 have HLl := Lib.hid hs
 clear h hs
 go_enter Tryz.func108, Tryz.ntmps108
 go_wp2
 go_loopg [5, 6, 7] L.length (fun g o c i wr => ∃ k : Nat, k + g = L.length ∧ i = .int .i64 k ∧ wr = w ∧ o = .string (bs (outAll L k)) ∧ c = .int .i64 (sumAll L k : Nat))
 case atStart => exact ⟨0, by simp, rfl, rfl, by simp [outAll], by simp [sumAll]⟩
 case round =>
  obtain ⟨i, hi, rfl, rfl, rfl, rfl⟩ := hrel
  obtain ⟨g1, rfl⟩ : ∃ g1 : Nat, g1 = gk := ⟨_, rfl⟩
  by_cases hlt : i < L.length
  ·obtain ⟨b, off, rfl, hb, hc⟩ := H.out i L[i] (by simp [hlt])
   have hsl := HLl.out _ (List.getElem_mem hlt)
   have hs : L[i]? = some L[i] := by simp [hlt]
   obtain ⟨s, hse⟩ : ∃ s, s = L[i] := ⟨_, rfl⟩
   rw [← hse] at hc hsl hs
   have hos : outAll L (i + 1) = outAll L i ++ (s ++ [10]) := by rw [outAll_succ hlt, hse]
   have hss : sumAll L (i + 1) = sumAll L i + sumB i s s.length := by rw [sumAll_succ]; simp [List.getD, hs]
   have hol := outAll_le HLl.out (k := i) (by omega)
   have hsu := sumAll_le HLl.out (k := i) (by omega) (by omega)
   have Hos := Lib.hid hos
   have Hss := Lib.hid hss
   clear hs hse hos hss
   generalize hO : outAll L i = O at *
   generalize hC : sumAll L i = C at *
   clear hO hC
   go_wp2
   go_loopg [6, 8] s.length (fun g c v wr' => ∃ k : Nat, k + g = s.length ∧ v = .int .i64 k ∧ wr' = wr ∧ c = .int .i64 ((C + sumB i s k : Nat) : Int))
   case atStart => exact ⟨0, by simp, rfl, rfl, by simp [sumB]⟩
   case round =>
    obtain ⟨k, hk, rfl, rfl, rfl⟩ := hrel
    by_cases hlt2 : k < s.length
    ·go_wp2
     go_roundg (gk - 1)
     case measure => omega
     case rel => exact ⟨k + 1, by omega, by go_num, rfl, by first | rfl | (congr 1; exact step_sum hlt2 _ hsl (by omega) (by omega))⟩
    ·have hkk : k = s.length := by omega
     subst hkk
     have hcs : C + sumB i s s.length = sumAll L (i + 1) := Hss.out.symm
     rw [hcs]
     generalize hC2 : sumAll L (i + 1) = C2 at *
     clear hcs
     go_wp2
     go_roundg (g1 - 1)
     case measure => omega
     case rel => exact ⟨i + 1, by omega, by go_num, rfl, by rw [Hos.out, ← bs_append, ← bs_append]; first | rfl | (congr 1; exact ByteArray.append_assoc ..), by rw [hC2]⟩
  ·have hiL : i = L.length := by omega
   have hol := outAll_le HLl.out (k := i) (by omega)
   have hsu := sumAll_le HLl.out (k := i) (by omega) (by omega)
   have hse : sealB L = outAll L i ++ wEnd ++ digs (sumAll L i % 199 / 100) ++ digs (sumAll L i % 199 / 10 % 10) ++ digs (sumAll L i % 199 % 10) ++ [10] := by rw [hiL]; rfl
   have Hse := Lib.hid hse
   clear hse
   generalize hO : outAll L i = O at *
   generalize hC : sumAll L i = C at *
   clear hO hC
   obtain ⟨d1, hd1⟩ : ∃ d, d = C % 199 / 100 := ⟨_, rfl⟩
   obtain ⟨d2, hd2⟩ : ∃ d, d = C % 199 / 10 % 10 := ⟨_, rfl⟩
   obtain ⟨d3, hd3⟩ : ∃ d, d = C % 199 % 10 := ⟨_, rfl⟩
   rw [← hd1, ← hd2, ← hd3] at Hse
   have e0 : (C : Int).tmod 199 = (C : Int) % 199 := by rw [Int.tmod_eq_emod_of_nonneg (by omega)]
   have e1 : (C : Int) % 199 / 100 = (d1 : Int) := by omega
   have e2 : (C : Int) % 199 / 10 % 10 = (d2 : Int) := by omega
   have e3 : (C : Int) % 199 % 10 = (d3 : Int) := by omega
   have k1 : d1 < 10 := by omega
   have k2 : d2 < 10 := by omega
   have k3 : d3 < 10 := by omega
   have l1 : (digs d1).length ≤ 2 := digs_len (by omega)
   have l2 : (digs d2).length ≤ 2 := digs_len (by omega)
   have l3 : (digs d3).length ≤ 2 := digs_len (by omega)
   clear hd1 hd2 hd3
   have Q1 := Lib.hid (fun W => dec_any d1 (by omega) W)
   have Q2 := Lib.hid (fun W => dec_any d2 (by omega) W)
   have Q3 := Lib.hid (fun W => dec_any d3 (by omega) W)
   go_wp2_with (first | (go_at_call 138; refine (Q1.out _).mono ?_; clear Q1; rintro e w1 ⟨rfl, hE1⟩) | (go_at_call 138; refine (Q2.out _).mono ?_; clear Q2; rintro e w2 ⟨rfl, hE2⟩) | (go_at_call 138; refine (Q3.out _).mono ?_; clear Q3; rintro e w3 ⟨rfl, hE3⟩))
   go_ret
   refine ⟨?_, (hE1.trans hE2).trans hE3⟩
   rw [Hse.out]
   show Ending.returned (.string (bs O ++ bs wEnd ++ bs _ ++ bs _ ++ bs _ ++ bs [10])) = _
   simp only [bs_append]

end Go.Proofs.YtjpekonfjihcoaaGreatDoor
/- Contract of the reference: Split. No condition beyond short strings. -/
namespace Go.Proofs.YtjpekonfjihcoaaGreatDoor
open Go.RowKit Go.My Go.TintM

theorem i9 : (Tryz.prog.info? 9).map (fun i => (i.zero, i.size, i.bytes)) = some (some (.string ByteArray.empty), 1, 16) := by kernel_rfl
theorem own_strs {w : World} {B : Nat} {v : Value} {L : List (List UInt8)} (h : Own w B 9 v (L.map fun x => Value.string (bs x))) : ∃ oa cap, v = .slice oa L.length cap ∧ StrsAt w oa L := by
 rcases h.2 with ⟨rfl, h2⟩ | ⟨g, cap, cur, rfl, hb, hg, hn, hc, hs, ht⟩
 ·have : L = [] := by rw [List.length_map] at h2; exact List.eq_nil_of_length_eq_zero h2
  subst this
  exact ⟨none, 0, rfl, fun i x hx => by simp at hx⟩
 ·refine ⟨_, cap, by rw [List.length_map], fun i x hx => ⟨g, 0, rfl, (Array.getElem?_eq_some_iff.1 hg).1, ?_⟩⟩
  have hx' : (L.map fun x => Value.string (bs x))[i]? = some (.string (bs x)) := by simp [hx]
  rw [← ht, List.getElem?_take] at hx'
  split at hx'
  ·rw [cell_of_row w g (0 + i) cur 9 (0, 0) hg]; simpa using hx'
  ·cases hx'

theorem _root_.Go.My.Own.cellAt {w : World} {B : Nat} {e : TypeId} {v : Value} {xs : List Value} (h : Own w B e v xs) {i : Nat} (hi : i < xs.length) (u : Value) :
  ∃ g cap, v = .slice (some ⟨g, 0, none⟩) xs.length cap ∧ B ≤ g ∧ g < w.heap.size ∧ xs.length ≤ cap ∧ cap ≤ maxLen ∧ w.cell? ⟨g, i, none⟩ = some xs[i] ∧ w.frozen? ⟨g, i, none⟩ = false ∧ Own (w.setCell ⟨g, i, none⟩ u) B e v (xs.set i u) := by
 rcases h.2 with ⟨_, h2⟩ | ⟨g, cap, cur, hv, hb, hg, hn, hc, hs, ht⟩
 ·omega
 ·refine ⟨g, cap, hv, hb, (Array.getElem?_eq_some_iff.1 hg).1, hn, hc, ?_, frozen_of_row _ _ i _ _ hg, ?_⟩
  ·rw [cell_of_row w g i cur e (0, 0) hg]
   have : xs[i]? = some xs[i] := by simp [hi]
   rw [← this, ← ht, List.getElem?_take, if_pos (by omega)]
   simp
  ·refine ⟨by simp, .inr ⟨g, cap, cur.setIfInBounds i u, by rw [List.length_set]; exact hv, hb, heap_setCell_same _ _ _ _ _ _ hg, by rw [List.length_set]; exact hn, hc, by simp [hs], ?_⟩⟩
   rw [List.length_set, Array.toList_setIfInBounds, List.take_set, ht]
theorem bs_ext (l : List UInt8) (a b : Nat) : (bs l).extract a b = bs ((l.drop a).take (b - a)) := by
 apply ByteArray.ext
 apply Array.ext'
 simp [ByteArray.data_extract, List.extract_eq_take_drop]
theorem own_strs2 {w : World} {B : Nat} {v : Value} {L : List (List UInt8)} (h : Own w B 9 v (L.map fun x => Value.string (bs x))) (hL : 0 < L.length) : ∃ g cap, v = .slice (some ⟨g, 0, none⟩) L.length cap ∧ B ≤ g ∧ L.length ≤ cap ∧ cap ≤ maxLen ∧ StrsAt w (some ⟨g, 0, none⟩) L := by
 obtain ⟨oa, cap, e, hs⟩ := own_strs h
 obtain ⟨g, cap', e1, eB, _, e4, e5, _⟩ := h.cellAt (i := 0) (by simpa using hL) undef
 rw [List.length_map] at e1 e4
 rw [e] at e1
 injection e1 with e1 e2 e3
 subst e1 e3
 exact ⟨g, cap, e, eB, e4, e5, hs⟩
theorem spl_step {c : UInt8} {l : List UInt8} {f k : Nat} (hk : k < l.length) (hf : f ≤ k) (hc : c ∉ (l.drop f).take (k - f)) (he : l[k] = c) : spl c (l.drop f) = ((l.drop f).take (k - f)) :: spl c (l.drop (k + 1)) := by
 have h1 : l.drop f = (l.drop f).take (k - f) ++ c :: l.drop (k + 1) := by
  have h2 : (l.drop f).drop (k - f) = l.drop k := by rw [List.drop_drop]; congr 1; omega
  have h3 : l.drop k = c :: l.drop (k + 1) := by rw [← he]; exact List.drop_eq_getElem_cons hk
  rw [← h3, ← h2, List.take_append_drop]
 have h4 := spl_hit (l.drop (k + 1)) hc
 rw [← h1] at h4
 exact h4
theorem not_step {c : UInt8} {l : List UInt8} {f k : Nat} (hk : k < l.length) (hf : f ≤ k) (hc : c ∉ (l.drop f).take (k - f)) (he : ¬ l[k] = c) : c ∉ (l.drop f).take (k + 1 - f) := by
 have h1 : k - f < (l.drop f).length := by rw [List.length_drop]; omega
 have h2 : (l.drop f).take (k + 1 - f) = (l.drop f).take (k - f) ++ [l[k]] := by
  rw [show k + 1 - f = (k - f) + 1 by omega, List.take_succ_eq_append_getElem h1]
  congr 2
  rw [List.getElem_drop]
  congr 1; omega
 rw [h2]
 simp only [List.mem_append, List.mem_singleton, not_or]
 exact ⟨hc, fun e => he e.symm⟩

theorem rsplit_any (c : UInt8) (l : List UInt8) (w : World) (hl : l.length ≤ 100000) :
  Calls Tryz.prog 109 #[.string (bs l), .int .u8 c.toNat] w fun e w' => ∃ g cap, e = .returned (.slice (some ⟨g, 0, none⟩) (spl c l).length cap) ∧ w.heap.size ≤ g ∧ (spl c l).length ≤ cap ∧ cap ≤ maxLen ∧ StrsAt w' (some ⟨g, 0, none⟩) (spl c l) ∧ Ext w w' := by
 have hsz := bs_size l
 go_enter Tryz.func109, Tryz.ntmps109
 go_wp2
 go_loopg [5, 6, 7] l.length (fun g v fr i wr => ∃ (k f : Nat) (P : List (List UInt8)), k + g = l.length ∧ f ≤ k ∧ i = .int .i64 k ∧ fr = .int .i64 f ∧ Ext w wr ∧ My.Own wr w.heap.size 9 v (P.map fun x => Value.string (bs x)) ∧ P.length ≤ f ∧ spl c l = P ++ spl c (l.drop f) ∧ c ∉ (l.drop f).take (k - f))
 case atStart => exact ⟨0, 0, [], by simp, by omega, rfl, rfl, Ext.refl _, Own.nil _ _ _, by simp, by simp, by simp⟩
 case round =>
  obtain ⟨k, f, P, hk, hf, rfl, rfl, hE, hown, hP, hsp, hnc⟩ := hrel
  have Hown := Lib.hid hown
  have Hsp := Lib.hid hsp
  have Hnc := Lib.hid hnc
  have HE := Lib.hid hE
  have hsw := hE.size
  clear hown hsp hnc hE
  by_cases hlt : k < l.length
  ·have hks : k < (bs l).size := by rw [hsz]; exact hlt
   have hidx : (bs l)[k]'hks = l[k] := rfl
   have hki : (k : Int) < (l.length : Int) := by omega
   by_cases he : l[k] = c
   ·have heI : ((l[k].toNat : Int) == (c.toNat : Int)) = true := by rw [he]; simp
    have heq : (bs l).extract f k = bs ((l.drop f).take (k - f)) := bs_ext l f k
    have Heq := Lib.hid heq
    have hfk : (f : Int) ≤ (k : Int) := by omega
    have hkz : (k : Int) ≤ ((bs l).size : Int) := by omega
    have Hst := Lib.hid (spl_step hlt hf Hnc.out he)
    clear he heq
    go_wp2_with (first | (at_builtin; refine wpList_app1 _ rfl _ _ 134 rfl 9 Tryz.underlying134 (.string ByteArray.empty) 16 i9 rfl (by decide) w.heap.size _ _ rfl (Hown.out.ext ((Ext.refl _).alloc _)) wr.heap.size (.string ((bs l).extract f k)) rfl (by go_simp) rfl ?_ ?_ ?_))
    ·rw [List.length_map]; omega
    ·simp; omega
    ·intro v' w2 hown2 hBl _
     rw [Heq.out] at hown2
     have Ho2 := Lib.hid hown2; clear hown2
     go_wp2
     go_roundg (gk - 1)
     case measure => omega
     case rel => exact ⟨k + 1, k + 1, P ++ [(l.drop f).take (k - f)], by omega, Nat.le_refl _, by go_num, by go_num, (HE.out.alloc _).below hBl (Nat.le_refl _), by rw [List.map_append]; exact Ho2.out, by simp; omega, by rw [Hsp.out, Hst.out]; simp, by simp⟩
   ·have hne : ¬ (l[k].toNat : Int) = (c.toNat : Int) := fun e => he (UInt8.toNat.inj (by omega))
    have heI : ((l[k].toNat : Int) == (c.toNat : Int)) = false := by simpa using hne
    have Hst := Lib.hid (not_step hlt hf Hnc.out he)
    clear he
    go_wp2
    go_roundg (gk - 1)
    case measure => omega
    case rel => exact ⟨k + 1, f, P, by omega, by omega, by go_num, rfl, HE.out, Hown.out, hP, Hsp.out, Hst.out⟩
  ·obtain rfl : k = l.length := by omega
   have heq : (bs l).extract f l.length = bs (l.drop f) := by
    rw [bs_ext]; congr 1; exact List.take_of_length_le (by rw [List.length_drop]; omega)
   have hfin : spl c (l.drop f) = [l.drop f] := spl_none (by
    have := Hnc.out
    rwa [List.take_of_length_le (by rw [List.length_drop]; omega)] at this)
   have Heq := Lib.hid heq
   have Hfin := Lib.hid hfin
   have hfz : (f : Int) ≤ ((bs l).size : Int) := by omega
   clear heq hfin
   go_wp2_with (first | (at_builtin; refine wpList_app1 _ rfl _ _ 134 rfl 9 Tryz.underlying134 (.string ByteArray.empty) 16 i9 rfl (by decide) w.heap.size _ _ rfl (Hown.out.ext ((Ext.refl _).alloc _)) wr.heap.size (.string ((bs l).extract f l.length)) rfl (by go_simp) rfl ?_ ?_ ?_))
   ·rw [List.length_map]; omega
   ·simp; omega
   ·intro v' w2 hown2 hBl _
    rw [Heq.out] at hown2
    have hown3 : My.Own w2 w.heap.size 9 v' ((spl c l).map fun x => Value.string (bs x)) := by rw [Hsp.out, Hfin.out, List.map_append]; exact hown2
    obtain ⟨g, cap, rfl, hB0, h1, h2, h3⟩ := own_strs2 hown3 (by have := spl_pos c l; omega)
    have H3 := Lib.hid h3
    have HB := Lib.hid ((HE.out.alloc (.cells #[.string ((bs l).extract f l.length)] 9)).below hBl (Nat.le_refl _))
    clear hown2 hown3 h3 hBl
    go_wp2
    go_ret
    exact ⟨g, cap, rfl, hB0, h1, h2, H3.out, HB.out⟩

end Go.Proofs.YtjpekonfjihcoaaGreatDoor
/- Contract of the reference: number. No condition beyond short words. -/
namespace Go.Proofs.YtjpekonfjihcoaaGreatDoor
open Go.RowKit Go.My Go.TintM

theorem mapM_len {ws : List (List UInt8)} {ns : List Nat} (h : ws.mapM parseNum = some ns) : ns.length = ws.length := by
 induction ws generalizing ns with
 | nil => simp at h; subst h; rfl
 | cons w ws ih =>
  rw [List.mapM_cons] at h
  cases h1 : parseNum w with
  | none => rw [h1] at h; cases h
  | some a =>
   cases h2 : ws.mapM parseNum with
   | none => rw [h1, h2] at h; cases h
   | some xs => rw [h1, h2] at h; injection h with h; subst h; simp [ih h2]
theorem mapM_snoc (ws : List (List UInt8)) (w : List UInt8) : (ws ++ [w]).mapM parseNum = (ws.mapM parseNum).bind fun xs => (parseNum w).map fun x => xs ++ [x] := by
 induction ws with
 | nil => simp; cases parseNum w <;> rfl
 | cons a ws ih =>
  rw [List.cons_append, List.mapM_cons, ih, List.mapM_cons]
  cases parseNum a with
  | none => rfl
  | some x =>
   cases ws.mapM parseNum with
   | none => rfl
   | some xs => cases parseNum w <;> rfl
theorem mapM_bad {ws : List (List UInt8)} {w : List UInt8} (hw : w ∈ ws) (h : parseNum w = none) : ws.mapM parseNum = none := by
 induction ws with
 | nil => cases hw
 | cons a ws ih =>
  rw [List.mapM_cons]
  rcases List.mem_cons.1 hw with rfl | hw
  ·rw [h]; rfl
  ·rw [ih hw]; cases parseNum a <;> rfl

/-- What the reference makes of a word: a number, and whether it is one. -/
def NumR (l : List UInt8) (v : Int) (is : Bool) : Prop := -99 ≤ v ∧ v ≤ 99 ∧ parseNum l = if is = true ∧ 0 ≤ v then some v.toNat else none
/-- Numbers none of which is below 0. -/
def numsOf (zs : List Int) : Option (List Nat) := if zs.all (fun z => decide (0 ≤ z)) = true then some (zs.map Int.toNat) else none
theorem nums_snoc {L : List (List UInt8)} {l : List UInt8} {zs : List Int} {v : Int} (h : L.mapM parseNum = numsOf zs) (h2 : NumR l v true) : (L ++ [l]).mapM parseNum = numsOf (zs ++ [v]) := by
 rw [mapM_snoc, h]
 have h3 := h2.2.2
 simp only [true_and] at h3
 unfold numsOf
 rw [List.all_append]
 by_cases ha : zs.all (fun z => decide (0 ≤ z)) = true
 ·rw [if_pos ha, ha]
  by_cases hv : 0 ≤ v
  ·rw [h3, if_pos hv, if_pos (by simp [hv])]; simp
  ·rw [h3, if_neg hv, if_neg (by simp [hv])]; rfl
 ·rw [if_neg ha, if_neg (by simp only [Bool.and_eq_true]; exact fun h => ha h.1)]; rfl
theorem nums_bad {L : List (List UInt8)} {l : List UInt8} {v : Int} (hl : l ∈ L) (h2 : NumR l v false) : L.mapM parseNum = none :=
 mapM_bad hl (by have := h2.2.2; simpa using this)

theorem dec_neg1 (z : Int) (h1 : -10 < z) (h2 : z < 0) (w : World) : Calls Tryz.prog 138 #[.int .i64 z] w fun e w' => (∃ l : List UInt8, l.length ≤ 2 ∧ e = .returned (.string (bs l))) ∧ Ext w w' := by
 have q1 : IntKind.i64.wrap (48 - z) = 48 - z := by rw [IntWalk.i64_in _ (by omega)]
 have q2 : IntKind.u8.wrap (48 - z) = 48 - z := by rw [IntWalk.u8_in _ (by omega)]
 have hc := conv1 (w.alloc (.cells #[.int .u8 (48 - z)] 5)) w.heap.size (48 - z) (by go_simp)
 obtain ⟨c, hcc⟩ : ∃ c, c = UInt8.ofNat (48 - z).toNat := ⟨_, rfl⟩
 rw [← hcc] at hc
 clear hcc
 go_enter Tryz.func138, Tryz.ntmps138
 go_wp2
 go_ret
 exact ⟨⟨[45, c], by simp, by rw [show ([45, c] : List UInt8) = [45] ++ [c] from rfl, ← bs_append]; rfl⟩, (Ext.refl w).alloc _⟩

theorem tq : ∀ k : Fin 100, 10 ≤ k.val → -10 < (-(k.val : Int)).tdiv 10 ∧ (-(k.val : Int)).tdiv 10 < 0 ∧ -10 < (-(k.val : Int)).tmod 10 ∧ (-(k.val : Int)).tmod 10 ≤ 0 := by decide +kernel

theorem tq2 {z : Int} (h1 : -100 < z) (h2 : z ≤ -10) : -10 < z.tdiv 10 ∧ z.tdiv 10 < 0 ∧ -10 < z.tmod 10 ∧ z.tmod 10 ≤ 0 := by
 have := tq ⟨(-z).toNat, by omega⟩ (by show 10 ≤ (-z).toNat; omega)
 rwa [show (-(((⟨(-z).toNat, by omega⟩ : Fin 100).val : Nat) : Int)) = z by show -(((-z).toNat : Nat) : Int) = z; omega] at this

theorem dec_neg2 (z : Int) (h0 : -100 < z) (h : z ≤ -10) (w : World) : Calls Tryz.prog 138 #[.int .i64 z] w fun e w' => (∃ l : List UInt8, e = .returned (.string (bs l))) ∧ Ext w w' := by
 have h1 : z < 0 := by omega
 have h2 : ¬ (-10 : Int) < z := by omega
 obtain ⟨k1, k2, k3, k4⟩ := tq2 h0 h
 obtain ⟨a, ha⟩ : ∃ a, a = z.tdiv 10 := ⟨_, rfl⟩
 obtain ⟨b, hb⟩ : ∃ b, b = z.tmod 10 := ⟨_, rfl⟩
 rw [← ha] at k1 k2
 rw [← hb] at k3 k4
 have hq := Lib.hid (fun W => dec_neg1 a k1 k2 W)
 have hcv := fun (W : World) => conv1 (W.alloc (.cells #[.int .u8 (48 - b)] 5)) W.heap.size (48 - b) (by go_simp)
 obtain ⟨c, hcc⟩ : ∃ c, c = UInt8.ofNat (48 - b).toNat := ⟨_, rfl⟩
 rw [← hcc] at hcv
 have q0 : z.tdiv 10 = a := ha.symm
 have q1 : IntKind.i64.wrap a = a := by rw [IntWalk.i64_in _ (by omega)]
 have q2 : z.tmod 10 = b := hb.symm
 have q3 : IntKind.i64.wrap (48 - b) = 48 - b := by rw [IntWalk.i64_in _ (by omega)]
 have q4 : IntKind.u8.wrap (48 - b) = 48 - b := by rw [IntWalk.u8_in _ (by omega)]
 have Hcc := Lib.hid hcc.symm
 clear ha hb hcc
 go_enter Tryz.func138, Tryz.ntmps138
 go_wp2
 refine wp_region_plan (.take 0 <| .take 1 <| .take 3 <| .take 4 <| .take 5 <| .take 6 <| .two 2 7 (.only 7 <| .only 8 <| .take 9 <| .take 10 <| .done) (.two 2 8 (.only 8 <| .take 9 <| .take 10 <| .done) (.only 2 <| .take 9 <| .take 10 <| .done))) (fun W => Ext w W) mixed (by kernel_rfl) (by kernel_rfl) rfl (fun _ _ d _ _ h => by cases d <;> exact h) ((Ext.refl w).drew) ?_
 repeat ((first | (refine plan_take (v := ?_) rfl rfl (fun W hW => ?_) ?_; rotate_left; (focus (skip; go_simp; first | exact rfl | (split <;> first | exact rfl | (exfalso; omega)) | done))) | refine plan_skip rfl rfl ?_); simp only [puts])
 refine plan_two rfl rfl ?_ ?_
 ·intro K hK
  go_wp2_with (first | (go_at_call 138; refine (hq.out _).mono ?_; rintro e w1 ⟨⟨d, hd, rfl⟩, hE1⟩))
  have hE2 := (Ext.refl w).drew.trans hE1
  refine hK _ _ hE2 ?_
  refine plan_walk rfl ?_; intro K hK
  go_wp2
  refine hK _ _ (hE2.alloc _) ?_
  refine plan_walk rfl ?_; intro K hK
  have hc1 := hcv w1
  clear hcv
  go_wp2
  refine hK _ _ (hE2.alloc _) ?_
  repeat ((first | (refine plan_take (v := ?_) rfl rfl (fun W hW => ?_) ?_; rotate_left; (focus (skip; go_simp; first | exact rfl | (split <;> first | exact rfl | (exfalso; omega)) | done))) | refine plan_skip rfl rfl ?_); simp only [puts])
  refine plan_done ?_
  go_wp2
  go_ret
  exact ⟨⟨d ++ [c], by rw [← bs_append]; rfl⟩, hE2.alloc _⟩
 ·intro K hK
  go_wp2
  have hE2 : Ext w (w.drew.alloc (.cells #[.int .u8 (48 - b)] 5)) := (Ext.refl w).drew.alloc _
  refine hK _ _ hE2 ?_
  refine plan_two rfl rfl ?_ ?_
  ·intro K hK
   go_wp2_with (first | (go_at_call 138; refine (hq.out _).mono ?_; rintro e w1 ⟨⟨d, hd, rfl⟩, hE1⟩))
   refine hK _ _ (hE2.trans hE1) ?_
   refine plan_walk rfl ?_; intro K hK
   have hc1 := conv1 w1 w.heap.size (48 - b) (cell_ext hE1 (by go_simp))
   rw [Hcc.out] at hc1
   clear hcv
   go_wp2
   refine hK _ _ (hE2.trans hE1) ?_
   repeat ((first | (refine plan_take (v := ?_) rfl rfl (fun W hW => ?_) ?_; rotate_left; (focus (skip; go_simp; first | exact rfl | (split <;> first | exact rfl | (exfalso; omega)) | done))) | refine plan_skip rfl rfl ?_); simp only [puts])
   refine plan_done ?_
   go_wp2
   go_ret
   exact ⟨⟨d ++ [c], by rw [← bs_append]; rfl⟩, hE2.trans hE1⟩
  ·intro K hK
   have hc1 := conv1 (w.alloc (.cells #[.int .u8 (48 - b)] 5)).drew w.heap.size (48 - b) (by go_simp)
   rw [Hcc.out] at hc1
   clear hcv
   go_wp2
   refine hK _ _ hE2 ?_
   refine plan_walk rfl ?_; intro K hK
   clear hc1
   go_wp2_with (first | (go_at_call 138; refine (hq.out _).mono ?_; rintro e w1 ⟨⟨d, hd, rfl⟩, hE1⟩))
   have hE3 : Ext w w1 := hE2.trans hE1
   refine hK _ _ hE3 ?_
   repeat ((first | (refine plan_take (v := ?_) rfl rfl (fun W hW => ?_) ?_; rotate_left; (focus (skip; go_simp; first | exact rfl | (split <;> first | exact rfl | (exfalso; omega)) | done))) | refine plan_skip rfl rfl ?_); simp only [puts])
   refine plan_done ?_
   go_wp2
   go_ret
   exact ⟨⟨d ++ [c], by rw [← bs_append]; rfl⟩, hE3⟩

theorem dec_neg (z : Int) (h0 : -100 < z) (h : z < 0) (w : World) : Calls Tryz.prog 138 #[.int .i64 z] w fun e w' => (∃ l : List UInt8, e = .returned (.string (bs l))) ∧ Ext w w' := by
 by_cases h1 : -10 < z
 ·exact (dec_neg1 z h1 h w).mono fun e w' ⟨⟨l, _, hl⟩, hE⟩ => ⟨⟨l, hl⟩, hE⟩
 ·exact dec_neg2 z h0 (by omega) w

theorem num_none {l : List UInt8} (h : ¬ (l ≠ [] ∧ l.length ≤ 2 ∧ l.all isDig = true)) : parseNum l = none := if_neg fun k => h k.1
theorem num_minus (s : List UInt8) : parseNum (45 :: s) = none := num_none fun h => by
 have := h.2.2; simp [isDig] at this
theorem numR_no {l : List UInt8} (h : parseNum l = none) : NumR l 0 false := ⟨by decide, by decide, by rw [h]; rfl⟩
theorem numR_less {l : List UInt8} {n : Nat} {is : Bool} (h : parseNum l = none) (h1 : 0 < n) (h2 : n < 100) : NumR l (-(n : Int)) is := ⟨by omega, by omega, by rw [h, if_neg (by omega)]⟩
theorem numR_yes {l : List UInt8} (h : l ≠ [] ∧ l.length ≤ 2 ∧ l.all isDig = true) (is : Bool) (hd : is = decide (digs (TintM.valOf l) = l)) : NumR l (TintM.valOf l : Nat) is := by
 have hv := val2 h.2.1 h.2.2
 refine ⟨by omega, by omega, ?_⟩
 rw [parseNum]
 subst hd
 by_cases hq : digs (TintM.valOf l) = l
 ·rw [if_pos ⟨h, hq⟩, if_pos (by simp [hq])]; simp
 ·rw [if_neg (fun k => hq k.2), if_neg (by simp [hq])]

/-- What number hands back. -/
def NumPostR (l : List UInt8) (e : Ending) : Prop := ∃ (v : Int) (is : Bool), e = .returned (.tuple #[.int .i64 v, .bool is]) ∧ NumR l v is

theorem number_plain (s : List UInt8) (w : World) (hl : s.length ≤ 100000) (hm : s.head? ≠ some 45) : Calls Tryz.prog 139 #[.string (bs s), .int .i64 2] w fun e w' => NumPostR s e ∧ Ext w w' := by
 have hsz := bs_size s
 by_cases h1 : s.length < 1
 ·obtain rfl : s = [] := List.eq_nil_of_length_eq_zero (by omega)
  go_enter Tryz.func139, Tryz.ntmps139
  go_wp2
  go_ret2
  exact ⟨⟨0, false, rfl, numR_no (num_none fun h => h.1 rfl)⟩, Ext.refl _⟩
 ·have hne : s ≠ [] := fun e => h1 (by rw [e]; decide)
  have h0s : 0 < (bs s).size := by omega
  have hx0 : (bs s)[0]'h0s = s[0] := rfl
  have hx1 : ¬ s[0] = 45 := fun e => hm (by rw [List.head?_eq_getElem?, List.getElem?_eq_getElem (by omega), e])
  have hx2 : ¬ ((s[0].toNat : Int) = 45) := fun e => hx1 (UInt8.toNat.inj (by show s[0].toNat = 45; omega))
  have hx3 : ((s[0].toNat : Int) == 45) = false := by simpa using hx2
  have hx4 : ¬ s[0].toNat = 45 := by omega
  have hi1 : (0 : Int) < (s.length : Int) := by omega
  clear hm hx1
  by_cases hs2 : s.length ≤ 2
  ·have hs3 : ¬ (2 : Int) < (s.length : Int) := by omega
   have Hno := Lib.hid (fun (h : s.all isDig = false) => num_none (l := s) fun k => by rw [h] at k; cases k.2.2)
   have HW := Lib.hid (Ext.refl w)
   obtain ⟨wl, hwl⟩ : ∃ wl, wl = w := ⟨_, rfl⟩
   go_enter Tryz.func139, Tryz.ntmps139
   go_wp2
   subst hwl
   go_loopg [8, 9] s.length (fun g v i wr => ∃ k : Nat, k + g = s.length ∧ wr = wl ∧ i = .int .i64 k ∧ v = .int .i64 (TintM.valOf (s.take k) : Nat) ∧ (s.take k).all isDig = true)
   case atStart => exact ⟨0, by simp, rfl, rfl, by simp [TintM.valOf], by simp⟩
   case round =>
    obtain ⟨k, hk, rfl, rfl, rfl, hall⟩ := hrel
    by_cases hlt : k < s.length
    ·have hks : k < (bs s).size := by rw [hsz]; exact hlt
     have hidx : (bs s)[k]'hks = s[k] := rfl
     have hki : (k : Int) < (s.length : Int) := by omega
     have hvk : TintM.valOf (s.take (k + 1)) = 10 * TintM.valOf (s.take k) + (s[k].toNat - 48) := by rw [List.take_succ_eq_append_getElem hlt, valOf_snoc]
     have hak : (s.take (k + 1)).all isDig = ((s.take k).all isDig && isDig s[k]) := by rw [List.take_succ_eq_append_getElem hlt, List.all_append]; simp
     have hbad : isDig s[k] = false → s.all isDig = false := fun h => by
      cases ha : s.all isDig
      ·rfl
      ·have := List.all_eq_true.1 ha _ (List.getElem_mem hlt); rw [h] at this; cases this
     have hv := val1 (l := s.take k) (by rw [List.length_take]; omega) hall
     have Hvk := Lib.hid hvk
     have Hak := Lib.hid hak
     have Hall := Lib.hid hall
     have Hbad := Lib.hid hbad
     clear hvk hak hall hbad
     generalize hB : s[k] = b at *
     clear hB
     generalize hV : TintM.valOf (s.take k) = V at *
     clear hV
     by_cases c1 : 48 ≤ b.toNat
     ·have c1' : ¬ (b.toNat : Int) < 48 := by omega
      by_cases c2 : b.toNat ≤ 57
      ·have c2' : ¬ (57 : Int) < (b.toNat : Int) := by omega
       have q1 : IntKind.u8.wrap ((b.toNat : Int) - 48) = (b.toNat : Int) - 48 := by rw [IntWalk.u8_in _ (by omega)]
       have q2 : IntKind.i64.wrap ((b.toNat : Int) - 48) = (b.toNat : Int) - 48 := by rw [IntWalk.i64_in _ (by omega)]
       have q3 : IntKind.i64.wrap (10 * (V : Int)) = 10 * (V : Int) := by rw [IntWalk.i64_in _ (by omega)]
       have q4 : IntKind.i64.wrap (10 * (V : Int) + ((b.toNat : Int) - 48)) = 10 * (V : Int) + ((b.toNat : Int) - 48) := by rw [IntWalk.i64_in _ (by omega)]
       go_wp2
       go_roundg (gk - 1)
       case measure => omega
       case rel => exact ⟨k + 1, by omega, rfl, by go_num, by rw [Hvk.out]; congr 1; omega, by rw [Hak.out, Hall.out]; simp [isDig, c1, c2]⟩
      ·have c2' : (57 : Int) < (b.toNat : Int) := by omega
       have hno := Lib.hid (Hbad.out (by simp [isDig, c2]))
       go_wp2
       go_ret2
       exact ⟨⟨0, false, rfl, numR_no (Hno.out hno.out)⟩, HW.out⟩
     ·have c1' : (b.toNat : Int) < 48 := by omega
      have hno := Lib.hid (Hbad.out (by simp [isDig, c1]))
      go_wp2
      go_ret2
      exact ⟨⟨0, false, rfl, numR_no (Hno.out hno.out)⟩, HW.out⟩
    ·obtain rfl : k = s.length := by omega
     have hall' : s.all isDig = true := by rwa [List.take_of_length_le (Nat.le_refl _)] at hall
     rw [List.take_of_length_le (Nat.le_refl _)]
     have hv := val2 hs2 hall'
     have Hall := Lib.hid hall'
     clear hall hall'
     have hz1 : IntKind.i64.wrap (1 * ((TintM.valOf s : Nat) : Int)) = ((TintM.valOf s : Nat) : Int) := by rw [IntWalk.i64_in _ (by omega)]; omega
     have hz2 : IntKind.i64.wrap ((TintM.valOf s : Nat) : Int) = ((TintM.valOf s : Nat) : Int) := by rw [IntWalk.i64_in _ (by omega)]
     have Hno := Lib.hid (numR_yes (l := s) ⟨hne, hs2, Hall.out⟩)
     have R := Lib.hid (fun W => dec_any (TintM.valOf s) hv W)
     clear Hall
     generalize TintM.valOf s = V at *
     by_cases hd : digs V = s
     ·have hq : (digs V == s) = true := by rw [beq_iff_eq]; exact hd
      have Hd := Lib.hid (Hno.out true (by simp [hd]))
      clear hd
      go_wp2_with (first | (go_at_call 138; refine (R.out _).mono ?_; rintro e w1 ⟨rfl, hE1⟩))
      go_ret2
      exact ⟨⟨V, true, rfl, Hd.out⟩, HW.out.trans hE1⟩
     ·have hq : (digs V == s) = false := by rw [beq_eq_false_iff_ne]; exact hd
      have Hd := Lib.hid (Hno.out false (by simp [hd]))
      clear hd
      go_wp2_with (first | (go_at_call 138; refine (R.out _).mono ?_; rintro e w1 ⟨rfl, hE1⟩))
      go_ret2
      exact ⟨⟨V, false, rfl, Hd.out⟩, HW.out.trans hE1⟩
  ·have hs3 : (2 : Int) < (s.length : Int) := by omega
   go_enter Tryz.func139, Tryz.ntmps139
   go_wp2
   go_ret2
   exact ⟨⟨0, false, rfl, numR_no (num_none fun h => hs2 h.2.1)⟩, Ext.refl _⟩

theorem number_minus (s : List UInt8) (w : World) (hl : s.length ≤ 100000) : Calls Tryz.prog 139 #[.string (bs (45 :: s)), .int .i64 2] w fun e w' => NumPostR (45 :: s) e ∧ Ext w w' := by
 have hsz := bs_size s
 have hsl : (bs (45 :: s)).size = s.length + 1 := by rw [bs_size]; rfl
 have h0s : 0 < (bs (45 :: s)).size := by omega
 have hx0 : (bs (45 :: s))[0]'h0s = 45 := rfl
 have hx1 : ((45 : UInt8).toNat : Int) = 45 := rfl
 have hex : (bs (45 :: s)).extract 1 (s.length + 1) = bs s := by
  rw [bs_ext]; congr 1; simp
 have hi1 : (0 : Int) < (s.length : Int) + 1 := by omega
 have hi2 : (1 : Int) ≤ (s.length : Int) + 1 := by omega
 have HW := Lib.hid (Ext.refl w).drew
 go_enter Tryz.func139, Tryz.ntmps139
 go_wp2
 refine wp_region_plan (.take 0 <| .take 1 <| .take 2 <| .take 3 <| .done) (fun W => Ext w W) mixed (by kernel_rfl) (by kernel_rfl) rfl (fun _ _ d _ _ h => by cases d <;> exact h) ((Ext.refl w).drew) ?_
 repeat ((first | (refine plan_take (v := ?_) rfl rfl (fun W hW => ?_) ?_; rotate_left; (focus (skip; go_simp; first | exact rfl | (split <;> first | exact rfl | (exfalso; omega)) | done))) | refine plan_skip rfl rfl ?_); simp only [puts])
 refine plan_done ?_
 obtain ⟨wl, hwl⟩ : ∃ wl, wl = w.drew := ⟨_, rfl⟩
 rw [← hwl] at HW ⊢
 clear hwl
 have Hmin := Lib.hid (num_minus s)
 by_cases h1 : s.length < 1
 ·obtain rfl : s = [] := List.eq_nil_of_length_eq_zero (by omega)
  go_wp2
  go_ret2
  exact ⟨⟨0, false, rfl, numR_no Hmin.out⟩, HW.out⟩
 ·by_cases hs2 : s.length ≤ 2
  ·have hs3 : ¬ (2 : Int) < (s.length : Int) := by omega
   have Hno := Lib.hid (fun (h : s.all isDig = false) => num_minus s)
   go_wp2
   go_loopg [8, 9] s.length (fun g v i wr => ∃ k : Nat, k + g = s.length ∧ wr = wl ∧ i = .int .i64 k ∧ v = .int .i64 (TintM.valOf (s.take k) : Nat) ∧ (s.take k).all isDig = true)
   case atStart => exact ⟨0, by simp, rfl, rfl, by simp [TintM.valOf], by simp⟩
   case round =>
    obtain ⟨k, hk, rfl, rfl, rfl, hall⟩ := hrel
    by_cases hlt : k < s.length
    ·have hks : k < (bs s).size := by rw [hsz]; exact hlt
     have hidx : (bs s)[k]'hks = s[k] := rfl
     have hki : (k : Int) < (s.length : Int) := by omega
     have hvk : TintM.valOf (s.take (k + 1)) = 10 * TintM.valOf (s.take k) + (s[k].toNat - 48) := by rw [List.take_succ_eq_append_getElem hlt, valOf_snoc]
     have hak : (s.take (k + 1)).all isDig = ((s.take k).all isDig && isDig s[k]) := by rw [List.take_succ_eq_append_getElem hlt, List.all_append]; simp
     have hbad : isDig s[k] = false → s.all isDig = false := fun h => by
      cases ha : s.all isDig
      ·rfl
      ·have := List.all_eq_true.1 ha _ (List.getElem_mem hlt); rw [h] at this; cases this
     have hv := val1 (l := s.take k) (by rw [List.length_take]; omega) hall
     have Hvk := Lib.hid hvk
     have Hak := Lib.hid hak
     have Hall := Lib.hid hall
     have Hbad := Lib.hid hbad
     clear hvk hak hall hbad
     generalize hB : s[k] = b at *
     clear hB
     generalize hV : TintM.valOf (s.take k) = V at *
     clear hV
     by_cases c1 : 48 ≤ b.toNat
     ·have c1' : ¬ (b.toNat : Int) < 48 := by omega
      by_cases c2 : b.toNat ≤ 57
      ·have c2' : ¬ (57 : Int) < (b.toNat : Int) := by omega
       have q1 : IntKind.u8.wrap ((b.toNat : Int) - 48) = (b.toNat : Int) - 48 := by rw [IntWalk.u8_in _ (by omega)]
       have q2 : IntKind.i64.wrap ((b.toNat : Int) - 48) = (b.toNat : Int) - 48 := by rw [IntWalk.i64_in _ (by omega)]
       have q3 : IntKind.i64.wrap (10 * (V : Int)) = 10 * (V : Int) := by rw [IntWalk.i64_in _ (by omega)]
       have q4 : IntKind.i64.wrap (10 * (V : Int) + ((b.toNat : Int) - 48)) = 10 * (V : Int) + ((b.toNat : Int) - 48) := by rw [IntWalk.i64_in _ (by omega)]
       go_wp2
       go_roundg (gk - 1)
       case measure => omega
       case rel => exact ⟨k + 1, by omega, rfl, by go_num, by rw [Hvk.out]; congr 1; omega, by rw [Hak.out, Hall.out]; simp [isDig, c1, c2]⟩
      ·have c2' : (57 : Int) < (b.toNat : Int) := by omega
       have hno := Lib.hid (Hbad.out (by simp [isDig, c2]))
       go_wp2
       go_ret2
       exact ⟨⟨0, false, rfl, numR_no (Hno.out hno.out)⟩, HW.out⟩
     ·have c1' : (b.toNat : Int) < 48 := by omega
      have hno := Lib.hid (Hbad.out (by simp [isDig, c1]))
      go_wp2
      go_ret2
      exact ⟨⟨0, false, rfl, numR_no (Hno.out hno.out)⟩, HW.out⟩
    ·obtain rfl : k = s.length := by omega
     have hall' : s.all isDig = true := by rwa [List.take_of_length_le (Nat.le_refl _)] at hall
     rw [List.take_of_length_le (Nat.le_refl _)]
     have hv := val2 hs2 hall'
     have Hall := Lib.hid hall'
     clear hall hall'
     have Hm := Lib.hid (num_minus s)
     have hz1 : IntKind.i64.wrap (-1 * ((TintM.valOf s : Nat) : Int)) = -((TintM.valOf s : Nat) : Int) := by rw [IntWalk.i64_in _ (by omega)]; omega
     have hz2 : IntKind.i64.wrap (-((TintM.valOf s : Nat) : Int)) = -((TintM.valOf s : Nat) : Int) := by rw [IntWalk.i64_in _ (by omega)]
     clear Hall
     generalize TintM.valOf s = V at *
     by_cases h0 : V = 0
     ·subst h0
      have R := Lib.hid (fun W => dec_any 0 (by decide) W)
      have hq : (digs 0 == (45 :: s)) = false := by
       rw [beq_eq_false_iff_ne, digs_eq (by decide)]; simp
      go_wp2_with (first | (go_at_call 138; refine (R.out _).mono ?_; rintro e w1 ⟨rfl, hE1⟩))
      go_ret2
      exact ⟨⟨0, false, rfl, numR_no Hm.out⟩, HW.out.trans hE1⟩
     ·have R := Lib.hid (fun W => dec_neg (-(V : Int)) (by omega) (by omega) W)
      have Hl := Lib.hid (fun is => numR_less (is := is) Hm.out (show 0 < V by omega) hv)
      clear Hm
      go_wp2_with (first | (go_at_call 138; refine (R.out _).mono ?_; rintro e w1 ⟨⟨d, rfl⟩, hE1⟩))
      go_ret2
      exact ⟨⟨-(V : Int), d == (45 :: s), rfl, Hl.out _⟩, HW.out.trans hE1⟩
  ·have hs3 : (2 : Int) < (s.length : Int) := by omega
   go_wp2
   go_ret2
   exact ⟨⟨0, false, rfl, numR_no Hmin.out⟩, HW.out⟩

theorem rnumber_any (l : List UInt8) (w : World) (hl : l.length ≤ 100000) : Calls Tryz.prog 139 #[.string (bs l), .int .i64 2] w fun e w' => NumPostR l e ∧ Ext w w' := by
 match l, hl with
 | [], hl => exact number_plain [] w hl (by simp)
 | x :: s, hl =>
  by_cases hx : x = 45
  ·subst hx
   exact number_minus s w (by simp at hl; omega)
  ·exact number_plain (x :: s) w hl (by simpa using hx)

end Go.Proofs.YtjpekonfjihcoaaGreatDoor
