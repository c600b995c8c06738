/- The walk of StripProved where no spots contradict each other. No condition. -/
import Derived.Test.YtiehfpkcaoeieaaGreatDoorAppInts
set_option linter.unusedVariables false
set_option linter.unusedSimpArgs false
namespace Go.Proofs.YtiehfpkcaoeieaaGreatDoor
open Go.RowKit Go.My Go.StripM

theorem len_ris {m : Nat} (hm : m ≤ 6) {l : List Nat} (h1 : l.Pairwise (· < ·)) (h2 : ∀ i ∈ l, i < m) : l.length ≤ m := (lists_ris hm (mem_lists_of hm h1 h2)).2.2

set_option maxRecDepth 100000 in
set_option maxHeartbeats 4000000 in
theorem law12n {n : Nat} {ss : List (List Nat)} {oa : Option Addr} {cap : Nat} {o : List Nat} {ob : Option Addr} {cb : Nat} {w : World} (g : Good n ss) (o1 : o.Pairwise (· < ·)) (o2 : ∀ i ∈ o, i < ss.length) (h : RowsAt w oa (upp ss)) (ho : IntsAt w ob (up o)) (hl : (upp ss).length ≤ 9223372036854775807) (hpl : o.length ≤ cb)
    (hcap : ss.length ≤ cap) (hcm : cap ≤ maxLen) (hr : (shortB (upp ss) && boardB n (upp ss)) = true) (hC : clashOf n ss = none) (m : Int) (hm : w.cell? ⟨1, 0, none⟩ = some (.int .i64 m)) :
    Calls Tryz.prog 12 #[.agg #[.int .i64 n, .slice oa ss.length cap], .slice ob o.length cb] w fun e w' => e = .returned (.bool true) ∧ Ext w w' := by
  have hss := g.len
  have hol := len_ris g.len o1 o2
  have hc := clash_none g.len hC
  have hco : cyc n (onlyN ss o) = false := cyc_mono g.valid (fun s hs => only_mem o2 hs) hc
  have hlen : ¬ (8 : Int) < (o.length : Int) := by omega
  have hlenN : ¬ 8 < o.length := by omega
  have B := Lib.hid (Bx.start (n := n) (cap := cap) h)
  have Ho := Lib.hid (ho.ext ((Ext.refl w).alloc (.cells #[.int .i64 n, .slice oa ss.length cap] 24)))
  have R29 := Lib.hid (fun (W : World) (hW : Bx n ss oa cap w W) => right_any n (upp ss) oa cap W hW.rows hl)
  have R48 := Lib.hid (fun W (hi : IntsAt W ob (up o)) => rising_up (n := (n : Int)) (oa := oa) (cap := cap) o1 o2 (by omega) (by omega) W ob cb hi)
  have R46 := Lib.hid (fun (W : World) (hW : Bx n ss oa cap w W) => clash_any n ss oa cap W hW.rows g hcap hcm)
  simp only [hC, ClashPost] at R46
  have hpos : 0 < (wrongsOf n ss).length := List.length_pos_iff.2 (wrongs_ne g.len)
  have R49 := Lib.hid (fun (W : World) (hW : Bx n ss oa cap w W) => wrong_any n ss oa cap W hW.rows g hcap hcm hpos)
  have R50 := Lib.hid (fun (W : World) (hW : Bx n ss oa cap w W) => lcan_any n ss oa cap W hW.rows g)
  simp only [hc] at R50
  have R51 := Lib.hid (fun (W : World) (hW : Bx n ss oa cap w W) (hi : IntsAt W ob (up o)) => only_r n ss oa cap o ob cb W hW.rows hi (by omega) (by omega) o2)
  have Rc := Lib.hid (fun o2' c2 W hr => lcan_only g (l := o) o2 (by omega) o2' c2 W hr)
  simp only [hco] at Rc
  have Rk := Lib.hid (fun (W : World) (hW : Bx n ss oa cap w W) => known_any W m (cell_ext hW.ext hm))
  simp only [upp_length, hr] at R29
  have T50 := Lib.hid trivial
  generalize (wrongsOf n ss)[0] = f at *
  clear h ho hl hm g hcap hcm hpos hc hco hC hr o1 o2
  go_enter Tryz.func12, Tryz.ntmps12
  go_wp2_with (first | (go_at_call 29; refine (R29.out _ B.out).mono ?_; rintro e w9 ⟨rfl, hE9⟩; replace B := Lib.hid (B.out.next hE9); (try clear c0 c1); have c0 := B.out.c0; have c1 := B.out.c1; replace Ho := Lib.hid (Ho.out.ext hE9); clear hE9) | (go_at_call 48; refine (R48.out _ Ho.out).mono ?_; rintro e w9 ⟨rfl, hE9⟩; replace B := Lib.hid (B.out.next hE9); (try clear c0 c1); have c0 := B.out.c0; have c1 := B.out.c1; replace Ho := Lib.hid (Ho.out.ext hE9); clear hE9) | (go_at_call 46; refine (R46.out _ B.out).mono ?_; rintro e w9 ⟨rfl, hE9⟩; replace B := Lib.hid (B.out.next hE9); (try clear c0 c1); have c0 := B.out.c0; have c1 := B.out.c1; replace Ho := Lib.hid (Ho.out.ext hE9); clear hE9) | (go_at_call 49; refine (R49.out _ B.out).mono ?_; rintro e w9 ⟨⟨v, rfl, hi⟩, hE9⟩; replace B := Lib.hid (B.out.next hE9); (try clear c0 c1); have c0 := B.out.c0; have c1 := B.out.c1; replace Ho := Lib.hid (Ho.out.ext hE9); obtain ⟨of, cf, rfl, hff, hfm, hfn, hi⟩ := isInts_up hi; clear hi hfn; clear hE9) | (go_at_call 50; have t0 := T50; clear t0 T50; refine (R50.out _ B.out).mono ?_; rintro e w9 ⟨rfl, hE9⟩; replace B := Lib.hid (B.out.next hE9); (try clear c0 c1); have c0 := B.out.c0; have c1 := B.out.c1; replace Ho := Lib.hid (Ho.out.ext hE9); clear hE9) | (go_at_call 51; refine (R51.out _ B.out Ho.out).mono ?_; rintro e w9 ⟨oq, cq, rfl, _, _, _, hrq, hE9⟩; replace B := Lib.hid (B.out.next hE9); (try clear c0 c1); have c0 := B.out.c0; have c1 := B.out.c1; replace Ho := Lib.hid (Ho.out.ext hE9); have Hq := Lib.hid hrq; clear hrq; clear hE9) | (go_at_call 50; refine (Rc.out oq cq _ Hq.out).mono ?_; rintro e w9 ⟨rfl, hE9⟩; replace B := Lib.hid (B.out.next hE9); (try clear c0 c1); have c0 := B.out.c0; have c1 := B.out.c1; clear hE9) | (go_at_call 23; refine (Rk.out _ B.out).mono ?_; rintro e w9 ⟨rfl, hE9⟩; replace B := Lib.hid (B.out.next hE9); (try clear c0 c1); have c0 := B.out.c0; have c1 := B.out.c1; clear hE9))
  go_ret
  exact ⟨rfl, B.out.ext⟩

end Go.Proofs.YtiehfpkcaoeieaaGreatDoor
