/- Contract of the reference: Same. No condition beyond boards as defined. -/
import Derived.Test.YtiehfpkcaoeieaaGreatDoorRefOwn
set_option linter.unusedVariables false
set_option linter.unusedSimpArgs false
namespace Go.Proofs.YtiehfpkcaoeieaaGreatDoor
open Go.RowKit Go.My Go.StripM

set_option maxRecDepth 100000 in
set_option maxHeartbeats 2000000 in
theorem same_r (n : Nat) (ss : List (List Nat)) (oa : Option Addr) (cap one other : Nat) (w : World) (h : RowsAt w oa (upp ss)) (g : Good n ss) (h1 : one < n) (h2 : other < n) :
    Calls Tryz.prog 62 #[.agg #[.int .i64 n, .slice oa ss.length cap], .int .i64 one, .int .i64 other] w fun e w' => e = .returned (.bool (sameOf n ss one other)) ∧ Ext w w' := by
  have hE0 := (Ext.refl w).alloc (.cells #[.int .i64 n, .slice oa ss.length cap] 24)
  have hmg := merged_r n ss oa cap one other _ (h.ext hE0) g h1 h2
  cases hb : bothIn ss one other
  · have hv := rep_valid g.valid h1 hb
    have Hcan := Lib.hid (fun (W : World) (o2 : Option Addr) (c2 : Nat) (hr : RowsAt W o2 (upp (ss.map (rep one other)))) => can_r n (ss.map (rep one other)) o2 c2 W hr g.le (by rw [List.length_map]; exact g.len) (fun s hs => by
      obtain ⟨l, hl, rfl⟩ := List.mem_map.1 hs
      rw [rep_len]; exact g.spots5 l hl) hv)
    simp only [List.length_map] at Hcan
    have hsame : sameOf n ss one other = !cyc n (ss.map (rep one other)) := by rw [sameOf, hb]; rfl
    rw [hsame]
    have Hmg := Lib.hid (hmg.mono (R' := fun e w' => (∃ o2 c2, e = .returned (.tuple #[.agg #[.int .i64 n, .slice o2 ss.length c2], .bool true]) ∧ RowsAt w' o2 (upp (ss.map (rep one other)))) ∧ Ext (w.alloc (.cells #[.int .i64 n, .slice oa ss.length cap] 24)) w') fun e w' ⟨k1, k2⟩ => ⟨by rw [MergedR, if_neg (by rw [hb]; decide)] at k1; exact k1, k2⟩)
    clear hmg h g hv hb hsame
    go_enter Tryz.func62, Tryz.ntmps62
    go_wp2_with (first | (go_at_call 107; refine Hmg.out.mono ?_; rintro e w1 ⟨⟨o2, c2, rfl, hr⟩, hE1⟩; have Hr := Lib.hid hr; clear hr) | (go_at_call 36; refine (Hcan.out _ o2 c2 (Hr.out.ext ((Ext.refl w1).alloc _))).mono ?_; rintro e w2 ⟨rfl, hE2⟩))
    go_ret
    exact ⟨rfl, ((hE0.trans hE1).alloc _).trans hE2⟩
  · have hsame : sameOf n ss one other = false := by rw [sameOf, hb]; rfl
    rw [hsame]
    have Hmg := Lib.hid (hmg.mono (R' := fun e w' => e = .returned (.tuple #[.agg #[.int .i64 0, .slice none 0 0], .bool false]) ∧ Ext (w.alloc (.cells #[.int .i64 n, .slice oa ss.length cap] 24)) w') fun e w' ⟨k1, k2⟩ => ⟨by rw [MergedR, if_pos hb] at k1; exact k1, k2⟩)
    clear hmg h g hb hsame
    go_enter Tryz.func62, Tryz.ntmps62
    go_wp2_with (first | (go_at_call 107; refine Hmg.out.mono ?_; rintro e w1 ⟨rfl, hE1⟩))
    go_ret
    exact ⟨rfl, (hE0.trans hE1).alloc _⟩

end Go.Proofs.YtiehfpkcaoeieaaGreatDoor
