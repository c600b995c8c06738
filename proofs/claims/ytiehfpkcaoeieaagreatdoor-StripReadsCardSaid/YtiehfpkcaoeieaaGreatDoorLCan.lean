/- Contract: can of the laws; all on some spots alone. No condition beyond boards as defined. -/
import Derived.Test.YtiehfpkcaoeieaaGreatDoorMathP
set_option linter.unusedVariables false
set_option linter.unusedSimpArgs false
namespace Go.Proofs.YtiehfpkcaoeieaaGreatDoor
open Go.RowKit Go.My Go.StripM

set_option maxHeartbeats 1000000 in
theorem lcan_any (n : Nat) (ss : List (List Nat)) (oa : Option Addr) (cap : Nat) (w : World) (h : RowsAt w oa (upp ss)) (g : Good n ss) :
    Calls Tryz.prog 50 #[.agg #[.int .i64 n, .slice oa ss.length cap]] w fun e w' => e = .returned (.tuple #[.bool (!cyc n ss), .bool true]) ∧ Ext w w' := by
  have B := Lib.hid (Bx.start (n := n) (cap := cap) h)
  cases hc : cyc n ss
  · have hhd : ∃ f, (all n ss).head? = some f := by
      cases ha : all n ss with
      | nil => rw [(all_nil g.valid).1 ha] at hc; cases hc
      | cons x r => exact ⟨x, rfl⟩
    obtain ⟨f, hf⟩ := hhd
    have R24 := Lib.hid (fun (W : World) (hW : Bx n ss oa cap w W) => first_any n ss oa cap W hW.rows g hc f hf)
    clear h g hf hc
    go_enter Tryz.func50, Tryz.ntmps50
    go_wp2_with (first | (go_at_call 24; refine (R24.out _ B.out).mono ?_; rintro e w9 ⟨⟨v, rfl, hi⟩, hE9⟩; replace B := Lib.hid (B.out.next hE9); (try clear c0 c1); have c0 := B.out.c0; have c1 := B.out.c1; obtain ⟨of, cf, rfl, hfl, hfm, hfn, hi⟩ := isInts_up hi; clear hi hfn; clear hE9))
    go_ret2
    exact ⟨rfl, B.out.ext⟩
  · have R24 := Lib.hid (fun (W : World) (hW : Bx n ss oa cap w W) => first_none n ss oa cap W hW.rows g hc)
    clear h g hc
    go_enter Tryz.func50, Tryz.ntmps50
    go_wp2_with (first | (go_at_call 24; refine (R24.out _ B.out).mono ?_; rintro e w9 ⟨rfl, hE9⟩; replace B := Lib.hid (B.out.next hE9); (try clear c0 c1); have c0 := B.out.c0; have c1 := B.out.c1; clear hE9))
    go_ret2
    exact ⟨rfl, B.out.ext⟩

/-- can of some spots alone. -/
theorem lcan_only {n : Nat} {ss : List (List Nat)} (g : Good n ss) {l : List Nat} (hl : ∀ i ∈ l, i < ss.length) (h6 : l.length ≤ 6) (o2 : Option Addr) (c2 : Nat) (W : World) (hr : RowsAt W o2 (upp (onlyN ss l))) :
    Calls Tryz.prog 50 #[.agg #[.int .i64 n, .slice o2 l.length c2]] W fun e w' => e = .returned (.tuple #[.bool (!cyc n (onlyN ss l)), .bool true]) ∧ Ext W w' := by
  have := lcan_any n (onlyN ss l) o2 c2 W hr (g.only hl h6)
  rw [onlyN_len] at this
  exact this

theorem ris_nat (l : List Nat) (m : Nat) (h1 : l.Pairwise (· < ·)) (h2 : ∀ i ∈ l, i < m) : risB m (up l) = true := ris_of h1 fun i hi => ⟨h2 i hi, by omega⟩
theorem rising_up {n : Int} {m : Nat} {oa : Option Addr} {cap : Nat} {l : List Nat} (h1 : l.Pairwise (· < ·)) (h2 : ∀ i ∈ l, i < m) (hl : l.length ≤ 1000) (hm : m ≤ 1000) (W : World) (ob : Option Addr) (cb : Nat) (hi : IntsAt W ob (up l)) :
    Calls Tryz.prog 48 #[.agg #[.int .i64 n, .slice oa m cap], .slice ob l.length cb] W fun e w' => e = .returned (.bool true) ∧ Ext W w' := by
  have := rising_any n m oa cap (up l) ob cb W hm hi (by rw [up_length]; omega)
  rw [ris_nat l m h1 h2, up_length] at this
  exact this
theorem listed_up (l : List Nat) (k : Nat) (W : World) (ob : Option Addr) (cb : Nat) (hi : IntsAt W ob (up l)) (hl : l.length ≤ 1000) :
    Calls Tryz.prog 52 #[.slice ob l.length cb, .int .i64 k] W fun e w' => e = .returned (.bool (decide (k ∈ l))) ∧ W = w' := by
  have := listed_any (up l) ob l.length cb k W (up_length l) hi (by rw [up_length]; omega)
  have e : decide ((k : Int) ∈ up l) = decide (k ∈ l) := by
    apply decide_eq_decide.2
    simp only [up, List.mem_map]
    constructor
    · rintro ⟨x, hx, he⟩; have : x = k := by omega
      subst this; exact hx
    · intro hx; exact ⟨k, hx, rfl⟩
  rw [e] at this
  exact this

end Go.Proofs.YtiehfpkcaoeieaaGreatDoor
