/- Plain mathematics of narrower sheets and of directions that part: no condition; nothing of the program. -/
import Derived.Test.YtjpekonfjihcoaaGreatDoorM3
namespace Go.TintM
end Go.TintM
set_option maxRecDepth 100000
set_option maxHeartbeats 64000000
set_option linter.unusedVariables false
set_option linter.unusedSimpArgs false
namespace Go.TintM

/-! ### a truth along a direction that parts -/
theorem parted_gap {s : Sh} {d : Dir} (hd : parted s d = true) {t : Tr} (ht : GoodT s t) {i : Nat} (hi : i < t.tins.length) :
  tri (fun p => d p * ((t.tins.getD i []).getD p 0 : Nat)) + s.off * sizeD d < tri fun p => d p * (leftT s t p : Nat) := by
 have hi' : i < s.tins.length := by have := ht.len; omega
 have h1 := List.all_eq_true.1 hd (s.tins.getD i []) (by simp [List.getD, hi'])
 simp only [decide_eq_true_eq] at h1
 have h2 : tri (fun p => d p * ((t.tins.getD i []).getD p 0 : Nat)) ≤ moreD d (tlo (s.tins.getD i [])) (thi (s.tins.getD i [])) :=
  tri_le fun p hp => (mul_between (d := d p) (Int.ofNat_le.2 (ht.tin i hi p hp).1) (Int.ofNat_le.2 (ht.tin i hi p hp).2)).2
 have h3 : lessD d (aimLo s) (aimHi s) ≤ tri fun p => d p * (leftT s t p : Nat) :=
  tri_le fun p hp => (mul_between (d := d p) (Int.ofNat_le.2 (left_in ht hp).1) (Int.ofNat_le.2 (left_in ht hp).2)).1
 omega

/-! ### a narrower sheet, with a tin more -/
structure Narrow (s x : Sh) : Prop where
 old : ∀ p, p < 3 → x.old p = s.old p
 flo : ∀ p, p < 3 → s.flo p ≤ x.flo p
 fhi : ∀ p, p < 3 → x.fhi p ≤ s.fhi p
 ylo : s.ylo ≤ x.ylo
 yhi : x.yhi ≤ s.yhi
 off : s.off ≤ x.off
 len : x.tins.length = s.tins.length + 1
 tin : ∀ i, i < s.tins.length → ∀ p, p < 3 → tlo (s.tins.getD i []) p ≤ tlo (x.tins.getD i []) p ∧ thi (x.tins.getD i []) p ≤ thi (s.tins.getD i []) p
theorem get_snoc0 (m : List Nat) (i : Nat) : (m ++ [0]).getD i 0 = m.getD i 0 := by
 simp only [List.getD_eq_getElem?_getD, List.getElem?_append]
 split
 ·rfl
 ·rename_i h
  rw [List.getElem?_eq_none (by omega : m.length ≤ i)]
  cases h2 : ([0] : List Nat)[i - m.length]? with
  | none => rfl
  | some v =>
   have := List.mem_of_getElem? h2
   simp at this
   simp [this]
theorem snoc0_mix {s x : Sh} (n : Narrow s x) {m : List Nat} (hm : IsMix s m) : IsMix x (m ++ [0]) := by
 refine ⟨by simp [n.len, hm.len], fun k hk => ?_, ?_, ?_⟩
 ·rcases List.mem_append.1 hk with h | h
  ·exact hm.le k h
  ·simp at h; omega
 ·have := hm.pos; simpa using this
 ·have := hm.sum; simpa using this
theorem low_snoc {s x : Sh} (n : Narrow s x) {m : List Nat} (hm : m.length = s.tins.length) {p : Nat} (hp : p < 3) : lowS s m p ≤ lowS x (m ++ [0]) p := by
 unfold lowS
 rw [List.length_append, List.length_singleton, lowTo_succ]
 refine Nat.le_trans ?_ (Nat.le_add_right _ _)
 exact sum_mono fun i hi => by
  rw [get_snoc0]
  exact Nat.mul_le_mul (Nat.le_refl _) (n.tin i (by omega) p hp).1
theorem high_snoc {s x : Sh} (n : Narrow s x) {m : List Nat} (hm : m.length = s.tins.length) {p : Nat} (hp : p < 3) : highS x (m ++ [0]) p ≤ highS s m p := by
 unfold highS
 rw [List.length_append, List.length_singleton, highTo_succ, get_snoc0, show m.getD m.length 0 = 0 by simp [List.getD], Nat.zero_mul, Nat.add_zero]
 exact sum_mono fun i hi => by
  rw [get_snoc0]
  exact Nat.mul_le_mul (Nat.le_refl _) (n.tin i (by omega) p hp).2
theorem surely_snoc {s x : Sh} (g : Fine s) (gx : Fine x) (n : Narrow s x) {m : List Nat} (hm : IsMix s m) (h : surely s m = true) : surely x (m ++ [0]) = true := by
 have hx := snoc0_mix n hm
 simp only [surely, decide_eq_true_eq] at h ⊢
 rw [surely_iff gx hx.pos]
 intro p hp
 have h1 := (surely_iff g hm.pos).1 h p hp
 have h2 := low_snoc n hm.len hp
 have h3 := high_snoc n hm.len hp
 have e : (m ++ [0]).sum = m.sum := by simp
 rw [e, n.old p hp]
 have h4 := Nat.mul_le_mul (Nat.le_refl m.sum) (left_mono (o := s.old p) n.yhi (n.fhi p hp))
 have h5 := Nat.mul_le_mul (Nat.le_refl m.sum) (left_mono (o := s.old p) n.ylo (n.flo p hp))
 have h6 := Nat.mul_le_mul (Nat.le_refl m.sum) n.off
 omega
theorem word_snoc {s x : Sh} (g : Fine s) (gx : Fine x) (n : Narrow s x) {m : List Nat} (hm : IsMix s m) (h : wordOf s m = 3) : wordOf x (m ++ [0]) = 3 :=
 word_surely.2 (surely_snoc g gx n hm (word_surely.1 h))

theorem inj_length {f : List Nat → List Nat} (hf : ∀ a b, f a = f b → a = b) : ∀ {L M : List (List Nat)}, L.Pairwise (fun a b => a ≠ b) → (∀ a ∈ L, f a ∈ M) → L.length ≤ M.length
 | [], _, _, _ => Nat.zero_le _
 | a :: L, M, h, hs => by
  obtain ⟨h1, h2⟩ := List.pairwise_cons.1 h
  have ha := hs a List.mem_cons_self
  have ih := inj_length hf (L := L) (M := M.erase (f a)) h2 fun b hb => (List.mem_erase_of_ne (fun e => h1 b hb (hf b a e).symm)).2 (hs b (List.mem_cons_of_mem _ hb))
  rw [List.length_erase_of_mem ha] at ih
  have := List.length_pos_of_mem ha
  simp only [List.length_cons]
  omega
theorem count_snoc {s x : Sh} (g : Fine s) (gx : Fine x) (n : Narrow s x) : countOf s ≤ countOf x := by
 unfold countOf
 refine inj_length (f := fun m => m ++ [0]) (fun a b h => List.append_cancel_right h) ?_ ?_
 ·refine List.Pairwise.filter _ (List.Pairwise.imp ?_ (allMix_sorted _))
  rintro a b h rfl
  exact sooner_asymm h h
 ·intro a ha
  obtain ⟨h1, h2⟩ := List.mem_filter.1 ha
  have hm := (mem_allMix g).1 h1
  exact List.mem_filter.2 ⟨(mem_allMix gx).2 (snoc0_mix n hm), surely_snoc g gx n hm h2⟩

end Go.TintM
