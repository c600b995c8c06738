/- Contract of the reference: Read. No condition beyond short texts. -/
import Derived.Test.YtiehfpkcaoeieaaGreatDoorRNums
import Derived.Test.YtiehfpkcaoeieaaGreatDoorBoxSet
set_option linter.unusedVariables false
set_option linter.unusedSimpArgs false
namespace Go.Proofs.YtiehfpkcaoeieaaGreatDoor
open Go.RowKit Go.My Go.StripM

/-- What the reference reads. -/
def ReadR (l : List UInt8) (e : Ending) (w' : World) : Prop :=
  (∀ n ss, parse l = some (n, ss) → ∃ v, e = .returned (.tuple #[.agg #[.int .i64 n, v], .bool true]) ∧ IsRows w' v (upp ss)) ∧ (parse l = none → e = .returned (.tuple #[noBoard, .bool false]))
theorem rr_no {l : List UInt8} {e : Ending} {w' : World} (h : parse l = none) (he : e = .returned (.tuple #[noBoard, .bool false])) : ReadR l e w' := ⟨fun n ss hn => (by rw [h] at hn; cases hn), fun _ => he⟩
theorem zbox_of {W : World} {q : Nat} (h : W.heap[q]? = some (.cells #[.int .i64 0, .slice none 0 0] 24 (0, 0))) : ZBox W q :=
  ⟨by rw [cell_of_row _ _ 0 _ _ _ h]; rfl, by rw [cell_of_row _ _ 1 _ _ _ h]; rfl, frozen_of_row _ _ 0 _ _ h, frozen_of_row _ _ 1 _ _ h, ⟨_, h⟩⟩
theorem strs_tail {w : World} {g cap : Nat} {L : List (List UInt8)} (h : StrsAt w (some ⟨g, 0, none⟩) L) (h1 : 1 ≤ L.length) (hc : L.length ≤ cap) :
    ∃ of2, (if cap = 1 then some (⟨g, 0, none⟩ : Addr) else some ⟨g, 1, none⟩) = some ⟨g, of2, none⟩ ∧ StrsAt w (some ⟨g, of2, none⟩) L.tail := by
  by_cases e : cap = 1
  · refine ⟨0, if_pos e, fun i x hx => ?_⟩
    have : L.tail.length = 0 := by rw [List.length_tail]; omega
    rw [List.eq_nil_of_length_eq_zero this] at hx
    simp at hx
  · refine ⟨1, if_neg e, fun i x hx => ?_⟩
    rw [List.getElem?_tail] at hx
    obtain ⟨b, off, e1, e2, e3⟩ := h (i + 1) x hx
    cases e1
    exact ⟨g, 1, rfl, e2, by rw [show 1 + i = 0 + (i + 1) by omega]; exact e3⟩



set_option maxRecDepth 100000 in
set_option maxHeartbeats 4000000 in
theorem rread_any (l : List UInt8) (w : World) (hl : l.length ≤ 900) : Calls Tryz.prog 69 #[.string (bs l)] w fun e w' => ReadR l e w' ∧ Ext w w' := by
  have hsp : ∀ W, Calls Tryz.prog 113 #[.string (bs l), .int .u8 10] W fun e w' => ∃ g cap, e = .returned (.slice (some ⟨g, 0, none⟩) (spl 10 l).length cap) ∧ W.heap.size ≤ g ∧ (spl 10 l).length ≤ cap ∧ cap ≤ maxLen ∧ StrsAt w' (some ⟨g, 0, none⟩) (spl 10 l) ∧ Ext W w' := fun W => rsplit_any 10 l W (by omega)
  have Hsp := Lib.hid hsp
  have hpl := spl_len 10 l
  have hpp := spl_pos 10 l
  have Hps := Lib.hid (@parse_short l)
  have Hpa := Lib.hid (fun r (hr : r ∈ spl 10 l) => spl_part hr)
  have Hrn := Lib.hid (fun k => @read_none l k)
  have Hrd := Lib.hid (fun p => @read_done l p)
  clear hsp
  generalize spl 10 l = R at *
  go_enter Tryz.func69, Tryz.ntmps69
  go_wp2_with (first | (go_at_call 113; refine (Hsp.out _).mono ?_; rintro e w1 ⟨g, cg, rfl, hg, hcg1, hcg2, hrows, hE1⟩; have Hrows := Lib.hid hrows; have HE1 := Lib.hid hE1; clear hrows hE1; simp only [World.size_alloc] at hg))
  have hE1 := HE1.out
  have hs1 := hE1.size
  simp only [World.size_alloc] at hs1
  have hbx : ((w.alloc (.cells #[.int .i64 0, .slice none 0 0] 24)).alloc (.cells #[.int .i64 0, .slice none 0 0] 24)).heap[w.heap.size + 1]? = some (.cells #[.int .i64 0, .slice none 0 0] 24 (0, 0)) := by
    have := heap_alloc_new (w.alloc (.cells #[.int .i64 0, .slice none 0 0] 24)) (.cells #[.int .i64 0, .slice none 0 0] 24)
    rwa [World.size_alloc] at this
  have hbr : ((w.alloc (.cells #[.int .i64 0, .slice none 0 0] 24)).alloc (.cells #[.int .i64 0, .slice none 0 0] 24)).heap[w.heap.size]? = some (.cells #[.int .i64 0, .slice none 0 0] 24 (0, 0)) :=
    (((Ext.refl (w.alloc (.cells #[.int .i64 0, .slice none 0 0] 24))).alloc (.cells #[.int .i64 0, .slice none 0 0] 24)).block _ (by simp)).trans (heap_alloc_new w _)
  replace hbx := (hE1.block _ (by simp only [World.size_alloc]; omega)).trans hbx
  replace hbr := (hE1.block _ (by simp only [World.size_alloc]; omega)).trans hbr
  have hps0 : PS w w1 w1 (w.heap.size + 1) w1.heap.size (0, []) (.slice none 0 0) :=
    ⟨(((Ext.refl w).alloc _).alloc _).trans hE1, Turned.refl _ _, by rw [cell_of_row _ _ 0 _ _ _ hbx]; rfl, by rw [cell_of_row _ _ 1 _ _ _ hbx]; rfl, frozen_of_row _ _ 0 _ _ hbx, frozen_of_row _ _ 1 _ _ hbx, ⟨_, hbx⟩, OwnR.nil _ (by omega), by omega, by omega, Nat.le_refl _⟩
  have Hps0 := Lib.hid hps0
  have Hbr := Lib.hid hbr
  clear hps0 hbr hbx hE1
  have hr2 : IntKind.i64.wrap ((R.length : Int) - 2) = (R.length : Int) - 2 := by rw [IntWalk.i64_in _ (by omega)]
  go_loopg [6, 7, 8, 9] (R.length - 2) (fun g i a b c wr => ∃ (k : Nat) (p : Nat × List (List Nat)) (v : Value), k + g = R.length - 2 ∧ i = .int .i64 k ∧ rTo R k = some p ∧ PS w w1 wr (w.heap.size + 1) w1.heap.size p v)
  case atStart => exact ⟨0, (0, []), _, by simp, rfl, rfl, Hps0.out⟩
  case round =>
    clear Hps0
    obtain ⟨k, p, v, hk, rfl, hst, ps⟩ := hrel
    have Ps := Lib.hid ps
    have HST := Lib.hid hst
    clear ps hst
    by_cases hlt : k < R.length - 2
    · have hkR : k < R.length := by omega
      have hkI : (k : Int) < (R.length : Int) - 2 := by omega
      obtain ⟨b0, off0, e0, _, hr0⟩ := Hrows.out k R[k] (by simp [hkR])
      cases e0
      rw [Nat.zero_add] at hr0
      replace hr0 := Turned.cell Ps.out.turned (by simp; omega) hr0
      have hrl := Hpa.out _ (List.getElem_mem hkR)
      have hrk : R[k]? = some R[k] := by simp [hkR]
      have Hrk := Lib.hid hrk
      clear hrk
      generalize R[k] = r at *
      obtain ⟨wo, rfl⟩ : ∃ wo : World, wo = wr := ⟨_, rfl⟩
      obtain ⟨g0, rfl⟩ : ∃ g0 : Nat, g0 = gk := ⟨_, rfl⟩
      have hsr : ∀ W, Calls Tryz.prog 113 #[.string (bs r), .int .u8 32] W fun e w' => ∃ g cap, e = .returned (.slice (some ⟨g, 0, none⟩) (spl 32 r).length cap) ∧ W.heap.size ≤ g ∧ (spl 32 r).length ≤ cap ∧ cap ≤ maxLen ∧ StrsAt w' (some ⟨g, 0, none⟩) (spl 32 r) ∧ Ext W w' := fun W => rsplit_any 32 r W (by omega)
      have Hsr := Lib.hid hsr
      have hW1 := spl_pos 32 r
      have hWl := spl_len 32 r
      have hWp : ∀ x ∈ (spl 32 r).tail, x.length ≤ 100000 := fun x hx => by have := spl_part (List.mem_of_mem_tail hx); omega
      have HWp := Lib.hid hWp
      have Hrt := Lib.hid (fun ns => @rLine_true r ns)
      have Hrf := Lib.hid (fun ns => @rLine_false r ns)
      have Hre := Lib.hid (fun f => @rLine_none f r)
      clear hsr hWp
      generalize spl 32 r = Wd at *
      have hWI : (1 : Int) ≤ (Wd.length : Int) := by omega
      have htl : Wd.tail.length = Wd.length - 1 := List.length_tail
      go_wp2_with (first | (go_at_call 113; refine (Hsr.out _).mono ?_; rintro e w4 ⟨g2, c2, rfl, hg2, hc21, hc22, hst2, hE4⟩; obtain ⟨of2, hif, hst3⟩ := strs_tail hst2 hW1 hc21; have hci : (Wd.length : Int) ≤ (c2 : Int) := (by omega); have HE4 := Lib.hid hE4; have hnm := rnumbers_any Wd.tail (some ⟨g2, of2, none⟩) (c2 - 1) w4 hst3 (by omega) HWp.out; rw [htl] at hnm; have Hnm := Lib.hid hnm; clear hst2 hst3 hE4 hnm) | (go_at_call 114; refine Hnm.out.mono ?_; rintro e w5 ⟨vn, zs, is, rfl, hown, hnr, hE5⟩; obtain ⟨oN, cN, hvN, n1, n2, n3, n4⟩ := hown.slice; rw [List.length_map] at hvN n1; subst hvN; have Hown := Lib.hid hown; have Hnr := Lib.hid hnr; have N4 := Lib.hid n4; have HE5 := Lib.hid (HE4.out.trans hE5); clear hown hnr n4 hE5 Hnm Hsr HE4))
      have hz1 := Hnr.out.small
      have hzl : zs.length ≤ 1000 := by
        cases is
        · rw [(Hnr.out.no rfl).2]; decide
        · have := (Hnr.out.yes rfl).2; rw [htl] at this; omega
      have Hz1 := Lib.hid hz1
      clear hz1 hif
      go_loopg [8, 9] zs.length (fun g b j wr => ∃ j' : Nat, j' + g = zs.length ∧ j = .int .i64 j' ∧ wr = w5 ∧ b = .bool (is && nonneg zs j'))
      case atStart => exact ⟨0, by simp, rfl, rfl, by simp [nonneg]⟩
      case round =>
        obtain ⟨j, hj, rfl, rfl, rfl⟩ := hrel
        by_cases hjl : j < zs.length
        · have his : is = true := by
            cases is
            · rw [(Hnr.out.no rfl).2] at hjl; simp at hjl
            · rfl
          subst his
          obtain ⟨bz, hoN, _, hca⟩ := N4.out j (.int .i64 zs[j]) (by simp [hjl])
          subst hoN
          have Hsu := Lib.hid (nonneg_succ hjl)
          generalize zs[j] = Z at *
          generalize nonneg zs j = nb at *
          cases nb
          · go_wp2
            go_roundg (gk - 1)
            case measure => omega
            case rel => exact ⟨j + 1, by omega, by go_num, rfl, by rw [Hsu.out]; rfl⟩
          · by_cases hZ : 0 ≤ Z
            · go_wp2
              go_roundg (gk - 1)
              case measure => omega
              case rel => exact ⟨j + 1, by omega, by go_num, rfl, by rw [Hsu.out]; simp [hZ]⟩
            · go_wp2
              go_roundg (gk - 1)
              case measure => omega
              case rel => exact ⟨j + 1, by omega, by go_num, rfl, by rw [Hsu.out]; simp [hZ]⟩
        · obtain rfl : j = zs.length := by omega
          have hEo := HE5.out
          have Ps5 := Lib.hid (Ps.out.next hEo)
          have HEx := Lib.hid Ps5.out.ext
          have z6 := zbox_of (Turned.keep' Ps5.out.turned (by omega : w.heap.size ≠ w.heap.size + 1) Hbr.out)
          have r0 := z6.c0
          have r1 := z6.c1
          have q0 := z6.f0
          have q1 := z6.f1
          clear z6 hEo
          by_cases hok : is = true ∧ nonneg zs zs.length = true
          · obtain ⟨rfl, hnn⟩ := hok
            obtain ⟨hn1, hn2⟩ := nonneg_up hnn
            have hmm := (Hnr.out.yes rfl).1.trans hn1
            have Hmm := Lib.hid hmm
            rw [hnn]
            clear hnn hn1 hmm Hz1
            generalize zs.map Int.toNat = ns at *
            subst hn2
            rw [up_length] at *
            have Hrk1 := Lib.hid (Hrt.out ns Hmm.out)
            have Hrk2 := Lib.hid (Hrf.out ns Hmm.out)
            have c0 := Ps5.out.c0
            have c1 := Ps5.out.c1
            have f0 := Ps5.out.f0
            have f1 := Ps5.out.f1
            by_cases hk0 : k = 0
            · subst hk0
              have hs1 := rTo_first HST.out Hrk.out
              by_cases hn1 : ns.length = 1
              · have Hst1 := Lib.hid (show rTo R 1 = some (ns.headD 0, p.2) by rw [hs1, Hrk1.out, if_pos hn1]; rfl)
                clear hs1
                match ns, hn1 with
                | [a], _ =>
                  obtain ⟨bz, hoN, _, hca⟩ := N4.out 0 (.int .i64 a) rfl
                  subst hoN
                  go_wp2
                  go_roundg (g0 - 1)
                  case measure => omega
                  case rel => exact ⟨1, ([a].headD 0, p.2), v, by omega, by go_num, Hst1.out, Ps5.out.setName a⟩
              · have hq1 : ((ns.length : Int) == 1) = false := by simpa using (by omega : ¬ (ns.length : Int) = 1)
                have hq2 : ((ns.length : Int) != 1) = true := by simpa using (by omega : ¬ (ns.length : Int) = 1)
                have Hpar := Lib.hid (Hrn.out 1 (by rw [hs1, Hrk1.out, if_neg hn1]; rfl) (by omega))
                clear hs1
                go_wp2
                refine bodyPost_ret (v := .tuple #[noBoard, .bool false]) (results_cell24t rfl _ _ w.heap.size _ _ _ (by simp) (by simp) (by go_simp) (by go_simp)) (by simp) ⟨rr_no Hpar.out rfl, ext_own (ext_own HEx.out ((Turned.refl w.heap.size _).set 0 _) (Nat.le_refl _)) ((Turned.refl w.heap.size _).set 1 _) (Nat.le_refl _)⟩
            · have hk0' : ((k : Int) == 0) = false := by simpa using (by omega : ¬ (k : Int) = 0)
              have Hst1 := Lib.hid (show rTo R (k + 1) = some (p.1, p.2 ++ [ns]) by rw [rTo_more HST.out hk0 Hrk.out, Hrk2.out]; rfl)
              have hpl2 := (rTo_len (fun r hr => Nat.le_trans (Hpa.out r hr) hl) HST.out).1
              obtain ⟨oV, cV, hv, _⟩ := Ps5.out.own.slice
              subst hv
              have hrowE : RowE wr 0 (.slice oN ns.length cN) (up ns) := RowE.of_own Hown.out
              have HrowE := Lib.hid hrowE
              clear hrowE
              have hbs := Ps5.out.size
              go_wp2_with (first | (at_builtin; refine wpList_appR _ rfl _ _ rfl 0 w1.heap.size _ p.2 rfl (Ps5.out.own.ext ((Ext.refl wr).alloc _)) wr.heap.size (.slice oN ns.length cN) ns rfl (by go_simp) (HrowE.out.ext ((Ext.refl wr).alloc _)) ?_ ?_ ?_))
              · omega
              · simp; omega
              · intro v' w8 hown8 hBl
                have hBe : Below w1.heap.size wr w8 := Below.trans (((Ext.refl wr).alloc (.cells #[.slice oN ns.length cN] 27)).mono hbs) hBl
                have d1 := (hBe.cell (p := ⟨w.heap.size + 1, 1, none⟩) (by simp; omega)).trans c1
                have d2 := (hBe.frozen (p := ⟨w.heap.size + 1, 1, none⟩) (by simp; omega)).trans f1
                have Ps8 := Lib.hid (Ps5.out.setRows (Nat.le_refl _) hBe hown8)
                obtain ⟨o8, c8, hv8, _⟩ := hown8.slice
                subst hv8
                clear hown8 hBl hBe c0 c1 f0 f1
                go_wp2
                go_roundg (g0 - 1)
                case measure => omega
                case rel => exact ⟨k + 1, (p.1, p.2 ++ [ns]), .slice o8 (p.2.length + 1) c8, by omega, by go_num, Hst1.out, by have := Ps8.out; rw [List.length_append, List.length_singleton] at this; exact this⟩
          · have hbb : (is && nonneg zs zs.length) = false := by
              cases is
              · rfl
              · cases hnn : nonneg zs zs.length
                · rfl
                · exact absurd ⟨rfl, hnn⟩ hok
            have hmm : Wd.tail.mapM parseNum = none := by
              cases is
              · exact (Hnr.out.no rfl).1
              · exact (Hnr.out.yes rfl).1.trans (nonneg_not (by simpa using hbb))
            have Hpar := Lib.hid (Hrn.out (k + 1) (rTo_bad HST.out Hrk.out fun f => Hre.out f hmm) (by omega))
            rw [hbb]
            clear hok hbb hmm
            go_wp2
            refine bodyPost_ret (v := .tuple #[noBoard, .bool false]) (results_cell24t rfl _ _ w.heap.size _ _ _ (by simp) (by simp) (by go_simp) (by go_simp)) (by simp) ⟨rr_no Hpar.out rfl, ext_own (ext_own HEx.out ((Turned.refl w.heap.size _).set 0 _) (Nat.le_refl _)) ((Turned.refl w.heap.size _).set 1 _) (Nat.le_refl _)⟩
    · have hkk : k = R.length - 2 := by omega
      have hkI : ¬ (k : Int) < (R.length : Int) - 2 := by omega
      have hst1 := HST.out
      rw [hkk] at hst1
      have hsm := rTo_small hst1
      obtain ⟨hp1, hp2⟩ := rTo_len (fun r hr => Nat.le_trans (Hpa.out r hr) hl) hst1
      obtain ⟨oV, cV, hv, v1, v2, v3, v4⟩ := Ps.out.own.slice
      subst hv
      have hsmall : Small p.1 p.2 := ⟨hsm.1, by omega, fun s hs => ⟨by have := hp2 s hs; omega, hsm.2 s hs⟩⟩
      have Htx := Lib.hid (fun W (hE : Ext wr W) => rprint_any p.1 p.2 oV cV W (v4.ext hE) hsmall)
      have hrt := Turned.keep' Ps.out.turned (by omega : w.heap.size ≠ w.heap.size + 1) Hbr.out
      have z6 := zbox_of hrt
      have Hrt := Lib.hid hrt
      have HEx := Lib.hid Ps.out.ext
      have Hst1 := Lib.hid hst1
      have r0 := z6.c0
      have r1 := z6.c1
      have q0 := z6.f0
      have q1 := z6.f1
      have c0 := Ps.out.c0
      have c1 := Ps.out.c1
      clear z6 hrt hsm hp1 hp2 v4 hst1 hkk
      by_cases h3 : R.length < 3
      · have Hpar := Lib.hid (Hps.out h3)
        go_wp2
        refine bodyPost_ret (v := .tuple #[noBoard, .bool false]) (results_cell24t rfl _ _ w.heap.size _ _ _ (by simp) (by simp) (by go_simp) (by go_simp)) (by simp) ⟨rr_no Hpar.out rfl, ext_own (ext_own HEx.out ((Turned.refl w.heap.size _).set 0 _) (Nat.le_refl _)) ((Turned.refl w.heap.size _).set 1 _) (Nat.le_refl _)⟩
      · have h3I : ¬ (R.length : Int) < 3 := by omega
        have Hpp := Lib.hid (Hrd.out p (by omega) Hst1.out)
        by_cases he : textB p.1 p.2 = l
        · have heq : (textB p.1 p.2 == l) = true := by rw [beq_iff_eq]; exact he
          have hne : (textB p.1 p.2 != l) = false := by rw [bne, heq]; rfl
          have Hpar := Lib.hid (show parse l = some p by rw [Hpp.out, if_pos he])
          clear he
          go_wp2_with (first | (go_at_call 67; refine (Htx.out _ (Ext.refl _)).mono ?_; rintro e w9 ⟨rfl, hE9⟩; have r0' := cell_ext hE9 r0; have r1' := cell_ext hE9 r1; have c0' := cell_ext hE9 c0; have c1' := cell_ext hE9 c1; have q0' := (hE9.frozen (World.block_lt_of_cell? _ _ r0)).trans q0; have q1' := (hE9.frozen (World.block_lt_of_cell? _ _ r1)).trans q1; have hrt9 := Lib.hid ((hE9.block _ (Array.getElem?_eq_some_iff.1 Hrt.out).1).trans Hrt.out); replace HEx := Lib.hid (HEx.out.trans hE9); have HE9 := Lib.hid hE9; clear r0 r1 c0 c1 q0 q1 hE9))
          refine bodyPost_ret (v := .tuple #[.agg #[.int .i64 p.1, .slice oV p.2.length cV], .bool true]) (results_cell24t rfl _ _ w.heap.size _ _ _ (by simp) (by simp) (by go_simp) (by go_simp)) (by simp) ⟨⟨fun n ss hn => ?_, fun hn => by rw [Hpar.out] at hn; cases hn⟩, ?_⟩
          · rw [Hpar.out] at hn
            have hnp : p = (n, ss) := Option.some.inj hn
            obtain ⟨rfl, rfl⟩ : n = p.1 ∧ ss = p.2 := by rw [hnp]; exact ⟨rfl, rfl⟩
            refine ⟨_, rfl, ?_⟩
            have o1 := (Ps.out.own.ext HE9.out).turned ((Turned.refl w.heap.size w9).set 0 (.int .i64 (p.1 : Nat))) (Nat.zero_le _) (by omega) (tag_set ⟨_, hrt9.out⟩ (by decide))
            have o2 := o1.turned ((Turned.refl w.heap.size _).set 1 (.slice oV p.2.length cV)) (Nat.zero_le _) (by omega) (tag_set (tag_cell _ _ ⟨_, hrt9.out⟩) (by decide))
            exact o2.rows
          · exact ext_own (ext_own HEx.out ((Turned.refl w.heap.size _).set 0 _) (Nat.le_refl _)) ((Turned.refl w.heap.size _).set 1 _) (Nat.le_refl _)
        · have heq : (textB p.1 p.2 == l) = false := by rw [beq_eq_false_iff_ne]; exact he
          have hne : (textB p.1 p.2 != l) = true := by rw [bne, heq]; rfl
          have Hpar := Lib.hid (show parse l = none by rw [Hpp.out, if_neg he])
          clear he
          go_wp2_with (first | (go_at_call 67; refine (Htx.out _ (Ext.refl _)).mono ?_; rintro e w9 ⟨rfl, hE9⟩; have r0' := cell_ext hE9 r0; have r1' := cell_ext hE9 r1; have c0' := cell_ext hE9 c0; have c1' := cell_ext hE9 c1; have q0' := (hE9.frozen (World.block_lt_of_cell? _ _ r0)).trans q0; have q1' := (hE9.frozen (World.block_lt_of_cell? _ _ r1)).trans q1; have hrt9 := Lib.hid ((hE9.block _ (Array.getElem?_eq_some_iff.1 Hrt.out).1).trans Hrt.out); replace HEx := Lib.hid (HEx.out.trans hE9); have HE9 := Lib.hid hE9; clear r0 r1 c0 c1 q0 q1 hE9))
          refine bodyPost_ret (v := .tuple #[noBoard, .bool false]) (results_cell24t rfl _ _ w.heap.size _ _ _ (by simp) (by simp) (by go_simp) (by go_simp)) (by simp) ⟨rr_no Hpar.out rfl, ext_own (ext_own HEx.out ((Turned.refl w.heap.size _).set 0 _) (Nat.le_refl _)) ((Turned.refl w.heap.size _).set 1 _) (Nat.le_refl _)⟩

end Go.Proofs.YtiehfpkcaoeieaaGreatDoor
