/- Contract of the reference: Numbers. No condition beyond short words. -/
import Derived.Below
import Derived.BigQuiet
import Derived.Deep.DeepCutAuto
import Derived.Deep.DeepFit
import Derived.Deep.LoopGhost
import Derived.Deep.QuietTactic
import Derived.Deep.RegionHeld
import Derived.Deep.RegionHeld3
import Derived.Deep.RegionWith
import Derived.Defers
import Derived.Laws.BytesArg
import Derived.Laws.EntriesVeiled
import Derived.Lib.Hide
import Derived.Lib.IndexBytes
import Derived.Lib.ItoaNum
import Derived.Lib.SplitLaws
import Derived.Maps.Keyed
import Derived.OrdersHeld
import Derived.Recover
import Derived.Test.YtjpekonfjihcoaaGreatDoorProg
import Derived.WalkKit
import Derived.WalkLawsBesides
import Derived.WalkSpells
import Derived.Test.YtjpekonfjihcoaaGreatDoorM7
import Derived.Test.YtjpekonfjihcoaaGreatDoorM4
import Derived.Test.YtjpekonfjihcoaaGreatDoorM6
import Derived.Test.YtjpekonfjihcoaaGreatDoorM1
namespace Go.TintM
end Go.TintM
set_option maxRecDepth 100000
set_option maxHeartbeats 64000000
set_option linter.unusedVariables false
set_option linter.unusedSimpArgs false
namespace Go.Proofs.YtjpekonfjihcoaaGreatDoor
open Go.RowKit Go.My Go.TintM

/-- What Numbers hands back. -/
structure NumsR (L : List (List UInt8)) (zs : List Int) (is : Bool) : Prop where
 small : ∀ z ∈ zs, -99 ≤ z ∧ z ≤ 99
 yes : is = true → L.mapM parseNum = numsOf zs ∧ zs.length = L.length
 no : is = false → L.mapM parseNum = none ∧ zs = []

theorem rnumbers_any (L : List (List UInt8)) (oa : Option Addr) (cap : Nat) (w : World) (h : StrsAt w oa L) (hL : L.length ≤ 1000) (hs : ∀ s ∈ L, s.length ≤ 100000) :
  Calls Tryz.prog 110 #[.slice oa L.length cap, .int .i64 2] w fun e w' => ∃ (v : Value) (zs : List Int) (is : Bool), e = .returned (.tuple #[v, .bool is]) ∧ My.Own w' w.heap.size 3 v (zs.map (Value.int .i64)) ∧ NumsR L zs is ∧ Ext w w' := by
 have H := Lib.hid h
 have Hs := Lib.hid hs
 clear h hs
 go_enter Tryz.func110, Tryz.ntmps110
 go_wp2
 go_loopg [6, 7, 8, 9] L.length (fun g v i a b wr => ∃ (k : Nat) (zs : List Int), k + g = L.length ∧ i = .int .i64 k ∧ Ext w wr ∧ My.Own wr w.heap.size 3 v (zs.map (Value.int .i64)) ∧ zs.length = k ∧ (L.take k).mapM parseNum = numsOf zs ∧ ∀ z ∈ zs, -99 ≤ z ∧ z ≤ 99)
 case atStart => exact ⟨0, [], by simp, rfl, Ext.refl _, Own.nil _ _ _, rfl, rfl, fun z h => by cases h⟩
 case round =>
  obtain ⟨k, zs, hk, rfl, hE, hown, hzl, hm, hsm⟩ := hrel
  have Hown := Lib.hid hown
  have Hm := Lib.hid hm
  have Hsm := Lib.hid hsm
  have HE := Lib.hid hE
  have hsw := hE.size
  clear hown hm hsm hE
  by_cases hlt : k < L.length
  ·obtain ⟨b, off, hob, hb, hc⟩ := H.out k L[k] (by simp [hlt])
   subst hob
   replace hc := cell_ext HE.out hc
   have hR := fun W => rnumber_any L[k] W (Hs.out _ (List.getElem_mem hlt))
   have R := Lib.hid hR
   have hmem : L[k] ∈ L := List.getElem_mem hlt
   have htk : L.take (k + 1) = L.take k ++ [L[k]] := List.take_succ_eq_append_getElem hlt
   have Hmem := Lib.hid hmem
   have Htk := Lib.hid htk
   clear hR hmem htk
   generalize L[k] = l at *
   obtain ⟨wo, rfl⟩ : ∃ wo : World, wo = wr := ⟨_, rfl⟩
   go_wp2_with (first | (go_at_call 139; refine (R.out _).mono ?_; rintro e w1 ⟨⟨v1, is1, rfl, hn1⟩, hE1⟩; have Hn1 := Lib.hid hn1; have hown1 := Hown.out.ext hE1; have Hown1 := Lib.hid hown1; have HE1 := Lib.hid hE1; have hs1 := hE1.size; clear hn1 hown1 hE1; cases is1) | (at_builtin; refine wpList_app1 _ rfl _ _ 29 rfl 3 Tryz.underlying29 (.int .i64 0) 8 i3 rfl (by decide) w.heap.size _ _ rfl (Hown1.out.ext ((Ext.refl _).alloc _)) w1.heap.size (.int .i64 v1) rfl (by go_simp) rfl ?_ ?_ ?_))
   ·go_ret2
    exact ⟨.slice none 0 0, [], false, rfl, Own.nil _ _ _, ⟨(fun z h => by cases h), (fun h => by cases h), fun _ => ⟨nums_bad Hmem.out Hn1.out, rfl⟩⟩, HE.out.trans HE1.out⟩
   ·rw [List.length_map]; omega
   ·simp; omega
   ·intro v' w2 hown2 hBl _
    have Ho2 := Lib.hid hown2; clear hown2
    go_wp2
    go_roundg (gk - 1)
    case measure => omega
    case rel => exact ⟨k + 1, zs ++ [v1], by omega, by go_num, ((HE.out.trans HE1.out).alloc _).below hBl (Nat.le_refl _), by rw [List.map_append]; exact Ho2.out, by simp; omega, by rw [Htk.out]; exact nums_snoc Hm.out Hn1.out, fun z hz => by
     rcases List.mem_append.1 hz with h | h
     ·exact Hsm.out z h
     ·rw [List.mem_singleton.1 h]; exact ⟨Hn1.out.1, Hn1.out.2.1⟩⟩
  ·obtain rfl : k = L.length := by omega
   have hm2 : L.mapM parseNum = numsOf zs := by have := Hm.out; rwa [List.take_of_length_le (Nat.le_refl _)] at this
   have Hm2 := Lib.hid hm2
   clear hm2
   have Hzl := Lib.hid hzl
   clear hzl
   go_wp2
   go_ret2
   exact ⟨_, zs, true, rfl, Hown.out, ⟨Hsm.out, (fun _ => ⟨Hm2.out, Hzl.out⟩), (fun h => by cases h)⟩, HE.out⟩

end Go.Proofs.YtjpekonfjihcoaaGreatDoor
