/- Contract: the search for cuttings, when all pieces are put. No condition beyond jobs as defined. -/
import Derived.Test.YtdmegfbeibbmfaaLeaf11
import Derived.Test.YtdmegfbeibbmfaaG2
import Derived.Test.YtdmegfbeibbmfaaG1
import Derived.RangeFuncNested
import Derived.RangeFuncBound
import Derived.RangeFuncCalls
import Derived.RangeFuncLeaves
import Derived.OwnWalkIn
import Derived.TacticsInMore
import Derived.LoopNIn
import Derived.LoopIn
import Derived.WalkMore
set_option linter.unusedVariables false
set_option linter.unusedSimpArgs false
namespace Go.Proofs.Ytdmegfbeibbmfaa
open Go.RowKit Go.My Go.GoldM
attribute [local go_sem] Oper.semAt_some

def natsV (l : List Nat) : List Value := (upL l).map (Value.int .i64)
theorem natsV_eq (l : List Nat) : natsV l = (upL l).map (Value.int .i64) := rfl
/-- The search's own boxes, its knife, its map. -/
structure PB (j : Jb) (bj B l K F mb : Nat) (og oj op : Option Addr) (cg cj cp : Nat) (W : World) : Prop where
  jb : VB W bj (jobL' j og cg oj cj)
  yb : W.cell? ⟨B, 0, none⟩ = some (.func (.yield l) #[] #[])
  kb : VB W K (knL j og cg op cp mb)
  fb : W.cell? ⟨F, 0, none⟩ = some (.func (.func 54) #[] #[.pointer (some ⟨bj, 0, none⟩), .pointer (some ⟨B, 0, none⟩), .pointer (some ⟨K, 0, none⟩), .pointer (some ⟨F, 0, none⟩)])
  memo : RestM.Memo W mb (F3 j.pieces)
  pcs : PcsAt W op j.pieces
/-- The blocks of it. -/
def pI (B K F mb : Nat) (op : Option Addr) (i : Nat) : Prop := i = B ∨ i = K ∨ i = F ∨ i = mb ∨ ∃ ad, op = some ad ∧ ad.block = i
/-- The blocks that may be altered: the map's, and those of others. -/
def xI (n mb : Nat) (Bd I : Nat → Prop) (i : Nat) : Prop := i = mb ∨ ¬ (I i ∨ (i < n ∧ ¬ Bd i))
theorem PB.mv {j : Jb} {bj B l K F mb : Nat} {og oj op : Option Addr} {cg cj cp : Nat} {W W' : World} {X : Nat → Prop} (h : PB j bj B l K F mb og oj op cg cj cp W) (hM : Mv X W W') (h1 : bj ≠ mb → ¬ X bj) (h2 : ∀ i, pI B K F mb op i → i ≠ mb → ¬ X i) (hm : RestM.Memo W' mb (F3 j.pieces)) :
    PB j bj B l K F mb og oj op cg cj cp W' := by
  have hbj : bj ≠ mb := h.memo.not (h.jb 0 _ rfl)
  have hB : B ≠ mb := h.memo.not h.yb
  have hK : K ≠ mb := h.memo.not (h.kb 0 _ rfl)
  have hF : F ≠ mb := h.memo.not h.fb
  exact ⟨h.jb.mv hM (h1 hbj), hM.cell (h2 _ (.inl rfl) hB) h.yb, h.kb.mv hM (h2 _ (.inr (.inl rfl)) hK), hM.cell (h2 _ (.inr (.inr (.inl rfl))) hF) h.fb, hm,
    fun i p hp => by
      obtain ⟨b, off, e1, e2, e3⟩ := h.pcs i p hp
      have hb : b ≠ mb := h.memo.not (e3 0 _ rfl)
      exact ⟨b, off, e1, Nat.lt_of_lt_of_le e2 hM.size, fun q v hv => hM.cell (h2 _ (.inr (.inr (.inr (.inr ⟨_, e1, rfl⟩)))) hb) (e3 q v hv)⟩⟩
theorem PB.ext {j : Jb} {bj B l K F mb : Nat} {og oj op : Option Addr} {cg cj cp : Nat} {W W' : World} (h : PB j bj B l K F mb og oj op cg cj cp W) (hE : Ext W W') : PB j bj B l K F mb og oj op cg cj cp W' :=
  h.mv (X := fun _ => False) (Mv.of_ext hE) (fun _ h => h) (fun _ _ _ h => h) (h.memo.ext hE)
theorem PB.km {j : Jb} {bj B l K F mb : Nat} {og oj op : Option Addr} {cg cj cp : Nat} {W W' : World} (h : PB j bj B l K F mb og oj op cg cj cp W) (hk : KM j.pieces mb W W') : PB j bj B l K F mb og oj op cg cj cp W' :=
  h.mv hk.mv (fun h => h) (fun _ _ hn => hn) hk.memo

/-- What is handed out: cutting number k, in a row of its own. -/
def CutP (j : Jb) (n k : Nat) (I : Nat → Prop) (x : Value) (W : World) : Prop :=
  ∃ c o cn, (cuts j)[k]? = some c ∧ x = cutV o c.1.length cn c.2 ∧ My.Own W n 3 (.slice o c.1.length cn) (natsV c.1) ∧ ∀ b, (Value.slice o c.1.length cn).ownBlock = some b → ¬ I b
/-- What the search leaves. -/
def PutPost (j : Jb) (n mb : Nat) (Bd : Nat → Prop) (R : Nat → (Nat → Prop) → World → Prop) (Fin : World → Prop) (k len : Nat) (I : Nat → Prop) (w W' : World) (b : Bool) : Prop :=
  (Mv (xI n mb Bd I) w W' ∧ RestM.Memo W' mb (F3 j.pieces)) ∧ (b = true → R (k + len) I W') ∧ (b = false → Fin W')

section
variable (j : Jb) (bj B l K F mb : Nat) (og oj op : Option Addr) (cg cj cp n S : Nat) (Bd : Nat → Prop) (R : Nat → (Nat → Prop) → World → Prop) (Fin : World → Prop)

/-- What a yield does. -/
def YieldOk : Prop := ∀ (m k : Nat) (I : Nat → Prop) (x : Value) (W1 : World), k < (cuts j).length → R k I W1 → CutP j n k I x W1 → (∀ i, I i → S ≤ i ∧ i < W1.heap.size) →
      YieldAt Fence.wide m Try.prog l #[x] W1 fun e W' => ∃ b, e = .returned (.bool b) ∧ Kept I Bd n W1 W' ∧ (b = true → R (k + 1) I W') ∧ (b = false → Fin W')
set_option maxRecDepth 100000 in
set_option maxHeartbeats 4000000 in
theorem put_zero (hY : YieldOk j l n S Bd R Fin) (now sets : List Nat) (on os : Option Addr) (cn cs k : Nat) (I : Nat → Prop) (w : World) (h : PB j bj B l K F mb og oj op cg cj cp w) (hpI : ∀ i, pI B K F mb op i → I i) (hI : ∀ i, I i → S ≤ i ∧ i < w.heap.size) (hl : now.length = j.pieces.length) (hpl : j.pieces.length ≤ 5)
    (hsl : sets.length ≤ 5) (hk : (cuts j)[k]? = some (now, sets.length)) (ho : My.Own w n 3 (.slice on now.length cn) (natsV now)) (hoI : ∀ b, (Value.slice on now.length cn).ownBlock = some b → ¬ I b) (hR : R k I w) :
    Calls Try.prog 54 #[.slice on now.length cn, .slice os sets.length cs, .pointer (some ⟨bj, 0, none⟩), .pointer (some ⟨B, 0, none⟩), .pointer (some ⟨K, 0, none⟩), .pointer (some ⟨F, 0, none⟩)] w fun e W' => ∃ b, e = .returned (.bool b) ∧ PutPost j n mb Bd R Fin k 1 I w W' b := by
  have hkl : k < (cuts j).length := (List.getElem?_eq_some_iff.1 hk).1
  obtain ⟨fn, tmps, assign, body, hy, hRd⟩ := hY 2 k I (cutV on now.length cn sets.length) w hkl hR ⟨(now, sets.length), on, cn, hk, rfl, ho, hoI⟩ hI
  have HI := Lib.hid hpI
  have HM := Lib.hid h.memo
  have c5 := h.jb 5 _ rfl
  have hyb := h.yb
  have heqI : ((now.length : Int) == (j.pieces.length : Int)) = true := by rw [hl]; simp
  clear h hI hk ho hoI hR hY hl hkl hpI
  go_enter Try.func54, Try.ntmps54
  go_wp2_with fail
  refine wp_scope_straight ?_
  refine (wpIn_wide (n := 3)).1 ?_
  gi_wp2_with (first | (refine hRd.mono ?_; rintro e w6 ⟨b, rfl, hkp, ht, hf⟩))
  have HK := Lib.hid hkp
  have Ht := Lib.hid ht
  have Hf := Lib.hid hf
  clear hkp ht hf
  rw [Exit.noGoto_ret]
  go_ret
  exact ⟨b, rfl, ⟨HK.out.mono fun i _ h => .inr h, HM.out.keep (HK.out.block mb HM.out.lt fun h => h (.inl (HI.out mb (.inr (.inr (.inr (.inl rfl)))))))⟩, Ht.out, Hf.out⟩
end

end Go.Proofs.Ytdmegfbeibbmfaa
