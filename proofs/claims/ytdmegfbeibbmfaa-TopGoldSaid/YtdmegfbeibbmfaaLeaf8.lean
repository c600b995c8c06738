/- Contracts: can, fits. No condition beyond jobs as defined. -/
import Derived.Test.YtdmegfbeibbmfaaLeaf7
set_option linter.unusedVariables false
set_option linter.unusedSimpArgs false
namespace Go.Proofs.Ytdmegfbeibbmfaa
open Go.RowKit Go.My Go.GoldM

set_option maxRecDepth 100000 in
set_option maxHeartbeats 4000000 in
theorem can_zero (j : Jb) (og op : Option Addr) (cg cp mb w' h' : Nat) (w : World) (a1 : 1 ≤ w') (a2 : 1 ≤ h') (hm : RestM.Memo w mb (F3 j.pieces)) :
    Calls Try.prog 73 #[knV j og cg op cp mb, restV w' h' 0] w fun e W' => e = .returned (.bool (canR j.pieces w' h' 0)) ∧ KM j.pieces mb w W' := by
  rw [show canR j.pieces w' h' 0 = true by rw [canR_eq _ _ a1 a2, if_pos rfl]]
  have HX := Lib.hid (KM.of_ext hm (((Ext.refl w).alloc (.cells (knL j og cg op cp mb).toArray 114)).alloc (.cells #[I w', I h', I 0] 139)))
  clear hm
  go_enter Try.func73, Try.ntmps73
  go_wp2
  go_ret
  exact ⟨rfl, HX.out⟩
theorem can_ok (j : Jb) (f : Fine j) (og op : Option Addr) (cg cp mb : Nat) : ∀ n, CanOK j og op cg cp mb n := by
  intro n
  induction n with
  | zero => intro w' h' set W h1 h2 h3; omega
  | succ n ih =>
    intro w' h' set W a1 a2 a3 b1 b2 hs hm hp
    by_cases h0 : set = 0
    · subst h0
      exact can_zero j og op cg cp mb w' h' W a1 a2 hm
    · by_cases h1 : set &&& (set - 1) = 0
      · exact can_single j f og op cg cp mb w' h' set W a1 a2 hs (by omega) h1 hm hp
      · cases hL : large j.pieces w' h' set with
        | true => exact can_large j f og op cg cp mb w' h' set W a1 a2 b1 b2 hs (by omega) h1 hL hm hp
        | false => exact can_search j f og op cg cp mb n ih w' h' set W a1 a2 a3 b1 b2 hs (by omega) h1 hL hm hp

set_option maxRecDepth 100000 in
set_option maxHeartbeats 4000000 in
theorem fits56 (j : Jb) (f : Fine j) (og op : Option Addr) (cg cp mb set : Nat) (w : World) (hs : set < 32) (hm : RestM.Memo w mb (F3 j.pieces)) (hp : PcsAt w op j.pieces) :
    Calls Try.prog 56 #[knV j og cg op cp mb, I set] w fun e W' => e = .returned (.bool (fits j set)) ∧ KM j.pieces mb w W' := by
  rw [fitsR]
  have HM0 := Lib.hid hm
  have HP0 := Lib.hid hp
  have R := Lib.hid (fun W (hm : RestM.Memo W mb (F3 j.pieces)) (hp : PcsAt W op j.pieces) => can_ok j f og op cg cp mb _ j.wide j.high set W f.wide.1 f.high.1 (Nat.le_refl _) f.wide.2 f.high.2 hs hm hp)
  have HE := Lib.hid ((Ext.refl w).alloc (.cells (knL j og cg op cp mb).toArray 114))
  clear hm hp f
  go_enter Try.func56, Try.ntmps56
  go_wp2_with (first | (go_at_call 73; refine (R.out _ (HM0.out.ext HE.out) (HP0.out.ext HE.out)).mono ?_; rintro e w6 ⟨rfl, h6⟩))
  go_ret
  exact ⟨rfl, (KM.of_ext HM0.out HE.out).trans h6⟩

end Go.Proofs.Ytdmegfbeibbmfaa
