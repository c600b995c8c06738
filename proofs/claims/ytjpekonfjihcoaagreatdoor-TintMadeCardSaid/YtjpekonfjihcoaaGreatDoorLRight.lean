/- What a law asks of mixtures as defined. No condition. -/
import Derived.Test.YtjpekonfjihcoaaGreatDoorM27
namespace Go.TintM
end Go.TintM
set_option maxRecDepth 100000
set_option maxHeartbeats 64000000
set_option linter.unusedVariables false
set_option linter.unusedSimpArgs false
namespace Go.Proofs.YtjpekonfjihcoaaGreatDoor
open Go.RowKit Go.My Go.TintM

section
variable {s : Sh} (g : Fine s) {m x : List Nat} (hm : IsMix s m)
include g hm
theorem right_up (ot : Option Addr) (cap : Nat) (ol : Option Addr) (cl : Nat) (w : World) (h : TinsAt w ot (ofSh s).tins) (hi : IntsAt w ol (upL m)) :
  Calls Tryz.prog 32 #[sheetV (ofSh s) ot cap, .slice ol m.length cl] w fun e w' => e = .returned (.bool true) ∧ Ext w w' := by
 have h1 := right_any (ofSh s) ot cap (upL m) ol cl w h (by rw [tins_len]; have := g.len2; omega) hi (by rw [upL_length]; have := hm.len; have := g.len2; omega)
 rw [right_of g hm, upL_length] at h1
 exact h1
theorem rmix_up (ot : Option Addr) (cap : Nat) (ol : Option Addr) (cl : Nat) (w : World) (hi : IntsAt w ol (upL m)) :
  Calls Tryz.prog 25 #[sheetV (ofSh s) ot cap, .slice ol m.length cl] w fun e w' => e = .returned (.bool true) ∧ Ext w w' := by
 have h1 := rMix_any (ofSh s) ot cap (upL m) ol cl w hi (by rw [upL_length]; have := hm.len; have := g.len2; omega)
 rw [mix_of hm, upL_length] at h1
 exact h1
omit g in
theorem all8 : (upL m).all in8 = true := by
 have h := mix_of hm
 simp only [mixB, Bool.and_eq_true] at h
 exact h.2.1
theorem soon_up (hx : IsMix s x) (oa ob : Option Addr) (ca cb : Nat) (w : World) (h1 : IntsAt w oa (upL m)) (h2 : IntsAt w ob (upL x)) :
  Calls Tryz.prog 46 #[.slice oa m.length ca, .slice ob x.length cb] w fun e w' => e = .returned (.bool (soonB m x)) ∧ Ext w w' :=
 rSooner_any m x oa ob ca cb w h1 h2 (by have := hm.len; have := g.len2; omega) (by have := hx.len; have := g.len2; omega) (all8 hm) (all8 hx)
end

end Go.Proofs.YtjpekonfjihcoaaGreatDoor
