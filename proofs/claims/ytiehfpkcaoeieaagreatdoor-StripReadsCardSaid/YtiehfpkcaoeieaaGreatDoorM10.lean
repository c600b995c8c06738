/- Contracts and mathematics, joined: Shelf, Text1, Text2, Text3, MathT. Conditions stand with each. -/
import Derived.Shelf.Strconv.Itoa3
import Derived.Shelf.Strings.Split
import Derived.Test.YtiehfpkcaoeieaaGreatDoorProg
import Derived.Test.YtiehfpkcaoeieaaGreatDoorM8
import Derived.Test.YtiehfpkcaoeieaaGreatDoorM3
import Derived.Lib.IndexBytes
import Derived.Lib.SplitLaws
set_option linter.unusedVariables false
set_option linter.unusedSimpArgs false
/- The contracts of strconv.Itoa and strings.Split, as the guide's program writes them for this translation. No condition. -/
namespace Go.Proofs
open Go.Shelf
def Tryz.lays171_ren : Go.Shelf.Ren := ⟨fun | 171 => 127 | 243 => 137 | 246 => 139 | 283 => 143 | 284 => 144 | 285 => 145 | 286 => 146 | 129 => 152 | 317 => 151 | 318 => 153 | 319 => 154 | 320 => 155 | 337 => 161 | 338 => 162 | n => n, fun | 3 => 3 | 9 => 9 | 2 => 2 | 4 => 4 | 171 => 157 | 0 => 0 | 53 => 158 | 37 => 84 | 5 => 5 | 173 => 161 | 212 => 167 | 51 => 168 | 20 => 20 | 213 => 169 | 46 => 171 | 232 => 180 | 233 => 181 | n => n, fun | 17 => 0 | 18 => 4 | 19 => 5 | n => n⟩
theorem Tryz.lays171 : Go.Proofs.Lays.n171 Tryz.prog Tryz.lays171_ren := {
  mixed := by kernel_rfl
  f129 := Tryz.func152.trans (congrArg some (by kernel_rfl))
  f171 := Tryz.func127.trans (congrArg some (by kernel_rfl))
  f243 := Tryz.func137.trans (congrArg some (by kernel_rfl))
  f246 := Tryz.func139.trans (congrArg some (by kernel_rfl))
  f283 := Tryz.func143.trans (congrArg some (by kernel_rfl))
  f284 := Tryz.func144.trans (congrArg some (by kernel_rfl))
  f285 := Tryz.func145.trans (congrArg some (by kernel_rfl))
  f286 := Tryz.func146.trans (congrArg some (by kernel_rfl))
  f317 := Tryz.func151.trans (congrArg some (by kernel_rfl))
  f318 := Tryz.func153.trans (congrArg some (by kernel_rfl))
  f319 := Tryz.func154.trans (congrArg some (by kernel_rfl))
  f320 := Tryz.func155.trans (congrArg some (by kernel_rfl))
  f337 := Tryz.func161.trans (congrArg some (by kernel_rfl))
  f338 := Tryz.func162.trans (congrArg some (by kernel_rfl))
  t0 := Tryz.underlying0
  a0 := Tryz.isAgg0
  z0 := Tryz.sizeOf0
  v0 := Tryz.zeroValue0
  t2 := Tryz.underlying2
  a2 := Tryz.isAgg2
  z2 := Tryz.sizeOf2
  v2 := Tryz.zeroValue2
  t3 := Tryz.underlying3
  a3 := Tryz.isAgg3
  z3 := Tryz.sizeOf3
  v3 := Tryz.zeroValue3
  t4 := Tryz.underlying4
  a4 := Tryz.isAgg4
  z4 := Tryz.sizeOf4
  v4 := Tryz.zeroValue4
  t5 := Tryz.underlying5
  a5 := Tryz.isAgg5
  z5 := Tryz.sizeOf5
  v5 := Tryz.zeroValue5
  t9 := Tryz.underlying9
  a9 := Tryz.isAgg9
  z9 := Tryz.sizeOf9
  v9 := Tryz.zeroValue9
  t20 := Tryz.underlying20
  a20 := Tryz.isAgg20
  z20 := Tryz.sizeOf20
  v20 := Tryz.zeroValue20
  t37 := Tryz.underlying84
  a37 := Tryz.isAgg84
  z37 := Tryz.sizeOf84
  v37 := Tryz.zeroValue84
  t46 := Tryz.underlying171
  a46 := Tryz.isAgg171
  z46 := Tryz.sizeOf171
  v46 := Tryz.zeroValue171
  t51 := Tryz.underlying168
  a51 := Tryz.isAgg168
  z51 := Tryz.sizeOf168
  v51 := Tryz.zeroValue168
  t53 := Tryz.underlying158
  a53 := Tryz.isAgg158
  z53 := Tryz.sizeOf158
  v53 := Tryz.zeroValue158
  t171 := Tryz.underlying157
  a171 := Tryz.isAgg157
  z171 := Tryz.sizeOf157
  v171 := Tryz.zeroValue157
  t173 := Tryz.underlying161
  a173 := Tryz.isAgg161
  z173 := Tryz.sizeOf161
  v173 := Tryz.zeroValue161
  t212 := Tryz.underlying167
  a212 := Tryz.isAgg167
  z212 := Tryz.sizeOf167
  v212 := Tryz.zeroValue167
  t213 := Tryz.underlying169
  a213 := Tryz.isAgg169
  z213 := Tryz.sizeOf169
  t232 := Tryz.underlying180
  a232 := Tryz.isAgg180
  z232 := Tryz.sizeOf180
  v232 := Tryz.zeroValue180
  t233 := Tryz.underlying181
  a233 := Tryz.isAgg181
  z233 := Tryz.sizeOf181
  v233 := Tryz.zeroValue181
  g17 := by kernel_rfl
  g18 := by kernel_rfl
  g19 := by kernel_rfl }
open Go.RowKit Go.Sort Go.Lib in
/-- THE ROAD WITHOUT THE TABLE: 0 <= i < 100: NO PREMISE ON THE WORLD, AND THE WORLD IS AS IT WAS: a row that keeps its argument in that range need list no table ('laid = []'). (LAID: no walk: one application.) -/
theorem Tryz.strconv_Itoa_small (i : Nat) (hi : i < 100) (w : World) :
    Calls Tryz.prog 127 #[.int .i64 i] w fun e w' => e = .returned (.string ⟨(Lib.decDigits i).toArray⟩) ∧ w' = w := Any.strconv_Itoa_small Tryz.lays171 i hi w
def Tryz.lays146_ren : Go.Shelf.Ren := ⟨fun | 146 => 128 | 221 => 138 | 268 => 140 | 138 => 141 | 143 => 142 | 195 => 147 | 197 => 148 | 218 => 149 | 219 => 150 | 260 => 156 | 217 => 157 | 225 => 158 | 224 => 159 | 267 => 160 | 266 => 163 | 314 => 164 | n => n, fun | 9 => 9 | 31 => 118 | 3 => 3 | 4 => 4 | 0 => 0 | 105 => 163 | 21 => 21 | 5 => 5 | 46 => 171 | 119 => 174 | 139 => 177 | 138 => 176 | 146 => 178 | 51 => 168 | n => n, fun | 1 => 1 | 3 => 2 | 4 => 3 | n => n⟩
theorem Tryz.lays146 : Go.Proofs.Lays.n146 Tryz.prog Tryz.lays146_ren := {
  mixed := by kernel_rfl
  f138 := Tryz.func141.trans (congrArg some (by kernel_rfl))
  f143 := Tryz.func142.trans (congrArg some (by kernel_rfl))
  f146 := Tryz.func128.trans (congrArg some (by kernel_rfl))
  f195 := Tryz.func147.trans (congrArg some (by kernel_rfl))
  f197 := Tryz.func148.trans (congrArg some (by kernel_rfl))
  f217 := Tryz.func157.trans (congrArg some (by kernel_rfl))
  f218 := Tryz.func149.trans (congrArg some (by kernel_rfl))
  f219 := Tryz.func150.trans (congrArg some (by kernel_rfl))
  f221 := Tryz.func138.trans (congrArg some (by kernel_rfl))
  f224 := Tryz.func159.trans (congrArg some (by kernel_rfl))
  f225 := Tryz.func158.trans (congrArg some (by kernel_rfl))
  f260 := Tryz.func156.trans (congrArg some (by kernel_rfl))
  f266 := Tryz.func163.trans (congrArg some (by kernel_rfl))
  f267 := Tryz.func160.trans (congrArg some (by kernel_rfl))
  f268 := Tryz.func140.trans (congrArg some (by kernel_rfl))
  f314 := Tryz.func164.trans (congrArg some (by kernel_rfl))
  t0 := Tryz.underlying0
  a0 := Tryz.isAgg0
  z0 := Tryz.sizeOf0
  v0 := Tryz.zeroValue0
  t3 := Tryz.underlying3
  a3 := Tryz.isAgg3
  z3 := Tryz.sizeOf3
  v3 := Tryz.zeroValue3
  t4 := Tryz.underlying4
  a4 := Tryz.isAgg4
  z4 := Tryz.sizeOf4
  v4 := Tryz.zeroValue4
  t5 := Tryz.underlying5
  a5 := Tryz.isAgg5
  z5 := Tryz.sizeOf5
  v5 := Tryz.zeroValue5
  t9 := Tryz.underlying9
  a9 := Tryz.isAgg9
  z9 := Tryz.sizeOf9
  v9 := Tryz.zeroValue9
  t21 := Tryz.underlying21
  a21 := Tryz.isAgg21
  z21 := Tryz.sizeOf21
  v21 := Tryz.zeroValue21
  t31 := Tryz.underlying118
  a31 := Tryz.isAgg118
  z31 := Tryz.sizeOf118
  v31 := Tryz.zeroValue118
  t46 := Tryz.underlying171
  a46 := Tryz.isAgg171
  z46 := Tryz.sizeOf171
  v46 := Tryz.zeroValue171
  t51 := Tryz.underlying168
  a51 := Tryz.isAgg168
  z51 := Tryz.sizeOf168
  v51 := Tryz.zeroValue168
  t105 := Tryz.underlying163
  a105 := Tryz.isAgg163
  z105 := Tryz.sizeOf163
  v105 := Tryz.zeroValue163
  t119 := Tryz.underlying174
  a119 := Tryz.isAgg174
  z119 := Tryz.sizeOf174
  t138 := Tryz.underlying176
  a138 := Tryz.isAgg176
  z138 := Tryz.sizeOf176
  v138 := Tryz.zeroValue176
  t139 := Tryz.underlying177
  a139 := Tryz.isAgg177
  z139 := Tryz.sizeOf177
  v139 := Tryz.zeroValue177
  t146 := Tryz.underlying178
  a146 := Tryz.isAgg178
  z146 := Tryz.sizeOf178
  v146 := Tryz.zeroValue178
  g1 := by kernel_rfl
  g3 := by kernel_rfl
  g4 := by kernel_rfl }
open Go.RowKit Go.Lib in
/-- strings.Split. (LAID: no walk: one application.) -/
theorem Tryz.strings_Split (s sep : ByteArray) (m : Int) (w : World) (hs : s.size < 4294967281) (hm : w.cell? ⟨1, 0, none⟩ = some (.int .i64 m)) (h1 : 1 ≤ sep.size) :
    Calls Tryz.prog 128 #[.string s, .string sep] w fun e w' =>
      e = .returned (.slice (some ⟨w.heap.size, 0, none⟩) (Lib.countB s sep + 1) (Lib.countB s sep + 1)) ∧ w' = w.alloc (.cells ((Lib.splitB sep 0 (Lib.countB s sep) s).map Value.string).toArray 9) := Any.strings_Split Tryz.lays146 (by kernel_rfl) s sep m w hs hm h1
end Go.Proofs
/- Contracts: words, numbers, written: a line of a text. No condition beyond small numbers. -/
namespace Go.Proofs.YtiehfpkcaoeieaaGreatDoor
open Go.RowKit Go.My Go.StripM

/-- Bytes as a string. -/
abbrev bs (l : List UInt8) : ByteArray := ⟨l.toArray⟩
theorem bs_append (a b : List UInt8) : bs a ++ bs b = bs (a ++ b) := by
  apply ByteArray.ext
  simp [ByteArray.data_append]
theorem bs_size (l : List UInt8) : (bs l).size = l.length := by simp [bs, ByteArray.size]
theorem run_add (a b : List UInt8) (h : a.length + b.length ≤ 9223372036854775807) (w : World) : (Op.stringOp .add (bs a) (bs b)).run Tryz.prog w = .ok (.string (bs (a ++ b))) w := by
  have := run_string_add_sum (P := Tryz.prog) (w := w) (bs a) (bs b) (by rw [bs_size, bs_size]; exact h)
  rw [bs_append] at this
  exact this

def digs (n : Nat) : List UInt8 := Lib.decDigits n
theorem digs_len {n : Nat} (h : n < 100) : (digs n).length ≤ 2 := by
  unfold digs
  rw [Lib.decDigits]
  split
  · simp
  · rw [Lib.decDigits, dif_pos (by omega)]; simp
/-- A line: a word, and numbers. -/
def rowB (word : List UInt8) (ns : List Nat) : List UInt8 := word ++ ns.flatMap fun n => 32 :: digs n
theorem rowB_snoc (word : List UInt8) (ns : List Nat) (n : Nat) : rowB word (ns ++ [n]) = rowB word ns ++ 32 :: digs n := by simp [rowB]
theorem rowB_len (word : List UInt8) {ns : List Nat} (h : ∀ n ∈ ns, n < 100) : (rowB word ns).length ≤ word.length + 3 * ns.length := by
  induction ns with
  | nil => simp [rowB]
  | cons n ns ih =>
    have := ih fun m hm => h m (by simp [hm])
    have := digs_len (h n (by simp))
    simp only [rowB, List.flatMap_cons, List.length_append, List.length_cons] at *
    omega
def wBoard : List UInt8 := [98, 111, 97, 114, 100]
def wSpot : List UInt8 := [115, 112, 111, 116]

theorem numbers_head (n : Int) (sv : Value) (w : World) : Calls Tryz.prog 180 #[.agg #[.int .i64 n, sv]] w fun e w' => ∃ b, e = .returned (.slice (some ⟨b, 0, none⟩) 1 1) ∧ b < w'.heap.size ∧ w'.cell? ⟨b, 0, none⟩ = some (.int .i64 n) ∧ Ext w w' := by
  go_enter Tryz.func180, Tryz.ntmps180
  go_wp2
  go_ret
  exact ⟨_, rfl, by simp, by go_simp, ((Ext.refl w).alloc _).alloc _⟩

theorem numbers_spot (oa : Option Addr) (n c : Nat) (w : World) : Calls Tryz.prog 181 #[.agg #[.slice oa n c]] w fun e w' => e = .returned (.slice oa n c) ∧ Ext w w' := by
  go_enter Tryz.func181, Tryz.ntmps181
  go_wp2
  go_ret
  exact ⟨rfl, (Ext.refl w).alloc _⟩

theorem results_cell144 {fn : Func} {p : Tmp} (h : fn.results = #[.cell p 144]) (tmps : Array Value) (w : World) (b : Nat) (x y : Value) (hp : tmps.getD p undef = .pointer (some ⟨b, 0, none⟩))
    (h0 : w.cell? ⟨b, 0, none⟩ = some x) (h1 : w.cell? ⟨b, 1, none⟩ = some y) : (results fn tmps).run Tryz.prog w = .ok (.agg #[x, y]) w := by
  have hp' : tmps[p]?.getD undef = .pointer (some ⟨b, 0, none⟩) := by simpa using hp
  have hagg : (isAgg 144).run Tryz.prog w = .ok true w := by kernel_rfl
  have hsz : (sizeOf 144).run Tryz.prog w = .ok 2 w := by kernel_rfl
  have hl : (loadCells ⟨b, 0, none⟩ 2).run Tryz.prog w = .ok #[x, y] w := run_loadCells_list (P := Tryz.prog) w ⟨b, 0, none⟩ [x, y] (fun j v hv => by
    rw [add_none]
    match j, hv with
    | 0, hv => simp at hv; subst hv; simpa using h0
    | 1, hv => simp at hv; subst hv; simpa using h1)
  simp [results, h, hp', asAddr, loadVar, Sem.run_bind, hagg, hsz, hl]

theorem words_any (w : World) : Calls Tryz.prog 130 #[] w fun e w' => e = .returned (.agg #[.string (bs wBoard), .string (bs wSpot)]) ∧ Ext w w' := by
  go_enter Tryz.func130, Tryz.ntmps130
  go_wp2
  refine bodyPost_ret (v := .agg #[.string (bs wBoard), .string (bs wSpot)]) (results_cell144 rfl _ _ w.heap.size _ _ (by simp) (by go_simp; rfl) (by go_simp; rfl)) (by simp) ⟨rfl, (Ext.refl w).alloc _⟩

theorem upon_method {o : Oper} {a : Act} {next : Act → World → Prop} {Q : Exit → Act → World → Prop} {w : World} {m : Sem (FuncId × Value)} {k : FuncId × Value → World → Result Next} (r : FuncId × Value) (h : m.run Tryz.prog w = .ok r w)
    (h2 : o.upon Tryz.prog a next Q (k r w)) : o.upon Tryz.prog a next Q ((m.run Tryz.prog w).andThen k) := by rw [h]; exact h2

theorem ta_head (n : Int) (sv : Value) (w : World) : (Instr.typeAssert (.iface 134 (.agg #[.int .i64 n, sv])) 139 137 true).run Tryz.prog w = .ok (.tuple #[.agg #[.slice none 0 0], .bool false]) w := by kernel_rfl
theorem ta_spot (sv : Value) (w : World) : (Instr.typeAssert (.iface 137 (.agg #[sv])) 139 137 true).run Tryz.prog w = .ok (.tuple #[.agg #[sv], .bool true]) w := by kernel_rfl

theorem idx0 (a b : ByteArray) (w : World) : (Instr.index 144 (.agg #[.string a, .string b]) (.int .i64 0)).run Tryz.prog w = .ok (.string a) w := by kernel_rfl
theorem idx1 (a b : ByteArray) (w : World) : (Instr.index 144 (.agg #[.string a, .string b]) (.int .i64 1)).run Tryz.prog w = .ok (.string b) w := by kernel_rfl

theorem add3 (c : List UInt8) (n : Nat) : bs c ++ ((⟨#[32]⟩ : ByteArray) ++ ⟨(Lib.decDigits n).toArray⟩) = bs (c ++ 32 :: digs n) := by
  have h := bs_append [32] (digs n)
  have h2 := bs_append c ([32] ++ digs n)
  rw [← h] at h2
  exact h2
theorem rowB_small (word : List UInt8) {ns : List Nat} (hw : word.length ≤ 5) (h : ∀ n ∈ ns, n < 100) (hl : ns.length ≤ 1000) : (rowB word ns).length ≤ 4000 := by
  have := rowB_len word h; omega

set_option maxRecDepth 100000 in
set_option maxHeartbeats 1000000 in
theorem written_head (n : Nat) (sv : Value) (w : World) (hn : n < 100) : Calls Tryz.prog 126 #[.iface 134 (.agg #[.int .i64 n, sv])] w fun e w' => e = .returned (.string (bs (rowB wBoard [n]))) ∧ Ext w w' := by
  have e0 := ta_head
  have e2 := idx0
  go_enter Tryz.func126, Tryz.ntmps126
  go_wp2_with (first | (go_at_call 130; refine (words_any _).mono ?_; rintro e w1 ⟨rfl, hE1⟩))
  refine upon_method (180, .agg #[.int .i64 n, sv]) (by kernel_rfl) ?_
  go_wp2_with (first | (go_at_call 180; refine (numbers_head n sv _).mono ?_; rintro e w2 ⟨b, rfl, hb, hc, hE2⟩))
  clear e0 e2
  go_loopg [4, 17] 1 (fun g o i wr => ∃ k : Nat, k + g = 1 ∧ i = .int .i64 k ∧ Ext w2 wr ∧ o = .string (bs (rowB wBoard ([n].take k))))
  case atStart => exact ⟨0, rfl, rfl, Ext.refl _, rfl⟩
  case round =>
    obtain ⟨k, hk, rfl, hE, rfl⟩ := hrel
    by_cases hlt : k < 1
    · obtain rfl : k = 0 := by omega
      have hc2 := cell_ext hE hc
      have hd : (Lib.decDigits n).length ≤ 2 := digs_len hn
      have hcl := rowB_small wBoard (ns := [n].take 0) (by decide) (by simp) (by simp)
      have ho : rowB wBoard ([n].take 1) = rowB wBoard ([n].take 0) ++ 32 :: digs n := rowB_snoc wBoard [] n
      have Ho := Lib.hid ho
      clear ho
      generalize hC : rowB wBoard ([n].take 0) = C at *
      clear hC
      go_wp2_with (first | (go_at_call 127; refine (Tryz.strconv_Itoa_small n hn _).mono ?_; rintro e w3 ⟨rfl, rfl⟩))
      go_roundg (gk - 1)
      case measure => omega
      case rel => exact ⟨1, by omega, by go_num, hE, by rw [add3, Ho.out]⟩
    · obtain rfl : k = 1 := by omega
      go_wp2
      go_ret
      exact ⟨rfl, (hE1.trans hE2).trans hE⟩

set_option maxRecDepth 100000 in
set_option maxHeartbeats 1000000 in
theorem written_spot (l : List Nat) (oa : Option Addr) (cap : Nat) (w : World) (h : IntsAt w oa (up l)) (hl : l.length ≤ 1000) (hs : ∀ n ∈ l, n < 100) : Calls Tryz.prog 126 #[.iface 137 (.agg #[.slice oa l.length cap])] w fun e w' => e = .returned (.string (bs (rowB wSpot l))) ∧ Ext w w' := by
  have H := Lib.hid h
  have Hs := Lib.hid hs
  clear h hs
  have e1 := ta_spot
  have e3 := idx1
  go_enter Tryz.func126, Tryz.ntmps126
  go_wp2_with (first | (go_at_call 130; refine (words_any _).mono ?_; rintro e w1 ⟨rfl, hE1⟩))
  refine upon_method (181, .agg #[.slice oa l.length cap]) (by kernel_rfl) ?_
  go_wp2_with (first | (go_at_call 181; refine (numbers_spot oa l.length cap _).mono ?_; rintro e w2 ⟨rfl, hE2⟩))
  clear e1 e3
  go_loopg [4, 17] l.length (fun g o i wr => ∃ k : Nat, k + g = l.length ∧ i = .int .i64 k ∧ Ext w2 wr ∧ o = .string (bs (rowB wSpot (l.take k))))
  case atStart => exact ⟨0, by simp, rfl, Ext.refl _, by simp [rowB]⟩
  case round =>
    obtain ⟨k, hk, rfl, hE, rfl⟩ := hrel
    by_cases hlt : k < l.length
    · obtain ⟨b, off, rfl, _, hc2⟩ := ints_up (H.out.ext ((hE1.trans hE2).trans hE)) hlt
      have hn := Hs.out _ (List.getElem_mem hlt)
      have hd : (Lib.decDigits l[k]).length ≤ 2 := digs_len hn
      have hcl := rowB_small wSpot (ns := l.take k) (by decide) (fun n hn => Hs.out n (List.mem_of_mem_take hn)) (by rw [List.length_take]; omega)
      have ho : rowB wSpot (l.take (k + 1)) = rowB wSpot (l.take k) ++ 32 :: digs l[k] := by rw [List.take_succ_eq_append_getElem hlt, rowB_snoc]
      have Ho := Lib.hid ho
      clear ho
      generalize hC : rowB wSpot (l.take k) = C at *
      clear hC
      generalize hX : l[k] = X at *
      clear hX
      go_wp2_with (first | (go_at_call 127; refine (Tryz.strconv_Itoa_small X hn _).mono ?_; rintro e w3 ⟨rfl, rfl⟩))
      go_roundg (gk - 1)
      case measure => omega
      case rel => exact ⟨k + 1, by omega, by go_num, hE, by rw [add3, Ho.out]⟩
    · have hkk : l.take k = l := List.take_of_length_le (by omega)
      rw [hkk]
      go_wp2
      go_ret
      exact ⟨rfl, (hE1.trans hE2).trans hE⟩

end Go.Proofs.YtiehfpkcaoeieaaGreatDoor
/- Contracts: text, strip.Print. No condition beyond small numbers. -/
namespace Go.Proofs.YtiehfpkcaoeieaaGreatDoor
open Go.RowKit Go.My Go.StripM

/-- The sum of a line, up to its k-th byte, in row i. -/
def sumTo (i : Nat) (s : List UInt8) (k : Nat) : Nat := ((List.range k).map fun j => (s.getD j 0).toNat * (j + 1) * (i + 1)).sum
theorem sumTo_succ (i : Nat) (s : List UInt8) (k : Nat) : sumTo i s (k + 1) = sumTo i s k + (s.getD k 0).toNat * (k + 1) * (i + 1) := by simp [sumTo, List.range_succ]
theorem term_le {x k i K I : Nat} (hx : x < 256) (hk : k < K) (hi : i < I) : x * (k + 1) * (i + 1) ≤ 256 * K * I := Nat.mul_le_mul (Nat.mul_le_mul (by omega) (by omega)) (by omega)
theorem sumTo_le (i : Nat) (s : List UInt8) {k K I : Nat} (hk : k ≤ K) (hi : i < I) : sumTo i s k ≤ k * (256 * K * I) := by
  induction k with
  | zero => simp [sumTo]
  | succ k ih =>
    rw [sumTo_succ, Nat.succ_mul]
    have := ih (by omega)
    have := term_le (x := (s.getD k 0).toNat) (UInt8.toNat_lt _) (k := k) (K := K) (by omega) hi
    omega
/-- The sum of the first k lines. -/
def sumAll (L : List (List UInt8)) (k : Nat) : Nat := ((List.range k).map fun i => sumTo i (L.getD i []) (L.getD i []).length).sum
theorem sumAll_succ (L : List (List UInt8)) (k : Nat) : sumAll L (k + 1) = sumAll L k + sumTo k (L.getD k []) (L.getD k []).length := by simp [sumAll, List.range_succ]
theorem sumAll_le {L : List (List UInt8)} {k : Nat} (h : ∀ s ∈ L, s.length ≤ 4000) (hk : k ≤ L.length) (hL : L.length ≤ 1000) : sumAll L k ≤ k * 4096000000000 := by
  induction k with
  | zero => simp [sumAll]
  | succ k ih =>
    rw [sumAll_succ, Nat.succ_mul]
    have := ih (by omega)
    have e : L.getD k [] = L[k] := by simp [List.getD, show k < L.length by omega]
    have h1 := h _ (List.getElem_mem (show k < L.length by omega))
    have := sumTo_le k (L.getD k []) (k := (L.getD k []).length) (K := 4000) (I := 1000) (by rw [e]; exact h1) (by omega)
    have : (L.getD k []).length * (256 * 4000 * 1000) ≤ 4000 * (256 * 4000 * 1000) := Nat.mul_le_mul_right _ (by rw [e]; exact h1)
    omega
/-- The first k lines, each with its end. -/
def outAll (L : List (List UInt8)) (k : Nat) : List UInt8 := (L.take k).flatMap fun s => s ++ [10]
theorem outAll_succ {L : List (List UInt8)} {k : Nat} (hk : k < L.length) : outAll L (k + 1) = outAll L k ++ (L[k] ++ [10]) := by
  rw [outAll, List.take_succ_eq_append_getElem hk, List.flatMap_append]; simp [outAll]
theorem outAll_le {L : List (List UInt8)} {k : Nat} (h : ∀ s ∈ L, s.length ≤ 4000) (hk : k ≤ L.length) : (outAll L k).length ≤ k * 4001 := by
  induction k with
  | zero => simp [outAll]
  | succ k ih =>
    have := ih (by omega)
    have := h _ (List.getElem_mem (show k < L.length by omega))
    rw [outAll_succ (by omega), List.length_append, List.length_append, List.length_singleton, Nat.succ_mul]
    omega
def linesB (n : Nat) (ss : List (List Nat)) : List (List UInt8) := rowB wBoard [n] :: ss.map (rowB wSpot)
def checkOf (L : List (List UInt8)) : Nat := sumAll L L.length % 193
def wEnd : List UInt8 := [101, 110, 100, 32]
def sealB (L : List (List UInt8)) : List UInt8 := outAll L L.length ++ wEnd ++ digs (checkOf L / 100) ++ digs (checkOf L / 10 % 10) ++ digs (checkOf L % 10) ++ [10]
def textB (n : Nat) (ss : List (List Nat)) : List UInt8 := sealB (linesB n ss)

/-- Small lists of small numbers. -/
structure Small (n : Nat) (ss : List (List Nat)) : Prop where
  n : n < 100
  len : ss.length ≤ 999
  row : ∀ s ∈ ss, s.length ≤ 1000 ∧ ∀ x ∈ s, x < 100
theorem Small.lines {n : Nat} {ss : List (List Nat)} (h : Small n ss) : ∀ s ∈ linesB n ss, s.length ≤ 4000 := by
  intro s hs
  rcases List.mem_cons.1 hs with rfl | hs
  · exact rowB_small wBoard (by decide) (by simp; exact h.n) (by simp)
  · obtain ⟨l, hl, rfl⟩ := List.mem_map.1 hs
    exact rowB_small wSpot (by decide) (h.row l hl).2 (h.row l hl).1
theorem linesB_length (n : Nat) (ss : List (List Nat)) : (linesB n ss).length = ss.length + 1 := by simp [linesB]

/-- The lines as the program has them. -/
def rowsV (n : Nat) (sv : Value) (us : List Value) : List Value := .iface 134 (.agg #[.int .i64 n, sv]) :: us.map fun u => .iface 137 (.agg #[u])

theorem written_at {n : Nat} {ss : List (List Nat)} {sv : Value} {us : List Value} {w : World} (h : Small n ss) (hl : us.length = ss.length) (hx : ∀ (i : Nat) (l : List Int), (upp ss)[i]? = some l → ∃ u, us[i]? = some u ∧ IsInts w u l)
    {i : Nat} (hi : i < ss.length + 1) (W : World) (hE : Ext w W) : Calls Tryz.prog 126 #[(rowsV n sv us)[i]'(by simp [rowsV, hl]; omega)] W fun e w' => e = .returned (.string (bs ((linesB n ss)[i]'(by rw [linesB_length]; exact hi)))) ∧ Ext W w' := by
  cases i with
  | zero => exact written_head n sv W h.n
  | succ i =>
    have hi' : i < ss.length := by omega
    obtain ⟨u, hu, hI⟩ := hx i (up ss[i]) (upp_get hi')
    obtain ⟨_, hu2⟩ := List.getElem?_eq_some_iff.1 hu
    obtain ⟨oa, cap, rfl, h1, h2, h3, h4⟩ := hI.ext hE
    have hr := h.row _ (List.getElem_mem hi')
    have := written_spot ss[i] oa cap W h4 hr.1 hr.2
    rw [up_length] at hu2
    simpa [rowsV, linesB, hu2] using this

theorem wrap3 {C S x K I y z : Nat} (hy : y = x * K) (hz : z = y * I) (h0 : x ≤ 1000000000000) (h1 : y ≤ 1000000000000) (h2 : z ≤ 1000000000000) (hC : C ≤ 4096000000000000) (hS : S ≤ 4096000000000) :
    wrap64 ((C : Int) + (S : Int) + wrap64 (wrap64 (wrap64 (x : Int) * (K : Int)) * (I : Int))) = ((C + (S + z) : Nat) : Int) := by
  have e1 : wrap64 (x : Int) = (x : Int) := wrap64_in _ (by omega) (by omega)
  have c1 : (x : Int) * (K : Int) = (y : Int) := by rw [hy]; push_cast; rfl
  have e2 : wrap64 (y : Int) = (y : Int) := wrap64_in _ (by omega) (by omega)
  have c2 : (y : Int) * (I : Int) = (z : Int) := by rw [hz]; push_cast; rfl
  have e3 : wrap64 (z : Int) = (z : Int) := wrap64_in _ (by omega) (by omega)
  rw [e1, c1, e2, c2, e3, wrap64_in _ (by omega) (by omega)]
  omega

theorem step_sum {C i k : Nat} {s : List UInt8} (hk : k < s.length) (h : k < (bs s).size) (hsl : s.length ≤ 4000) (hi : i < 1000) (hC : C ≤ 4096000000000000) :
    wrap64 ((C : Int) + ((sumTo i s k : Nat) : Int) + wrap64 (wrap64 (wrap64 (((bs s)[k]'h).toNat : Int) * ((k : Int) + 1)) * ((i : Int) + 1))) = ((C + sumTo i s (k + 1) : Nat) : Int) := by
  have hx : (bs s)[k]'h = s[k] := by simp [ByteArray.getElem_eq_getElem_data]
  have hd : s.getD k 0 = s[k] := by simp [List.getD, hk]
  have hb := UInt8.toNat_lt s[k]
  have h1 : s[k].toNat * (k + 1) ≤ 1024000 := Nat.le_trans (Nat.mul_le_mul (show s[k].toNat ≤ 256 by omega) (show k + 1 ≤ 4000 by omega)) (by decide)
  have h2 : s[k].toNat * (k + 1) * (i + 1) ≤ 1024000000 := Nat.le_trans (Nat.mul_le_mul h1 (show i + 1 ≤ 1000 by omega)) (by decide)
  have h3 := sumTo_le i s (k := k) (K := 4000) (I := 1000) (by omega) hi
  have h5 : sumTo i s k ≤ 4096000000000 := Nat.le_trans h3 (Nat.le_trans (Nat.mul_le_mul_right _ (show k ≤ 4000 by omega)) (by decide))
  have := wrap3 (C := C) (S := sumTo i s k) (x := s[k].toNat) (K := k + 1) (I := i + 1) rfl rfl (by omega) (by omega) (by omega) hC h5
  rw [hx, sumTo_succ, hd]
  exact this

abbrev allDigits : ByteArray := ⟨#[48, 49, 50, 51, 52, 53, 54, 55, 56, 57, 97, 98, 99, 100, 101, 102, 103, 104, 105, 106, 107, 108, 109, 110, 111, 112, 113, 114, 115, 116, 117, 118, 119, 120, 121, 122]⟩
theorem digit1 {d : Nat} (h : d < 10) : allDigits.extract d (d + 1) = bs (digs d) := by
  have h1 : ∀ d : Fin 10, allDigits.extract d.1 (d.1 + 1) = bs [UInt8.ofNat (48 + d.1)] := by decide +kernel
  have h2 : digs d = [UInt8.ofNat (48 + d)] := by unfold digs; rw [Lib.decDigits, dif_pos h]
  rw [h2]
  exact h1 ⟨d, h⟩

theorem i139 : (Tryz.prog.info? 139).map (fun i => (i.zero, i.size, i.bytes)) = some (some .nilIface, 1, 16) := by kernel_rfl

set_option maxRecDepth 100000 in
set_option maxHeartbeats 1000000 in
theorem text_any (n : Nat) (ss : List (List Nat)) (oa : Option Addr) (cap : Nat) (w : World) (h : RowsAt w oa (upp ss)) (hs : Small n ss) :
    Calls Tryz.prog 108 #[.agg #[.int .i64 n, .slice oa ss.length cap]] w fun e w' => e = .returned (.string (bs (textB n ss))) ∧ Ext w w' := by
  obtain ⟨us, hx1, hx2, hx3, hx4⟩ := rows_vals h
  rw [upp_length] at hx1
  have hlen := hs.len
  have Hs := Lib.hid hs
  have Hx2 := Lib.hid hx2
  have Hx4 := Lib.hid hx4
  have Hr := Lib.hid h
  clear hs hx2 hx3 hx4 h
  go_enter Tryz.func108, Tryz.ntmps108
  go_wp2
  go_loopg [3, 19] ss.length (fun g v i wr => ∃ k : Nat, k + g = ss.length ∧ i = .int .i64 k ∧ Ext w wr ∧ Own wr (w.heap.size + 1) 139 v (rowsV n (.slice oa ss.length cap) (us.take k)))
  case atStart => exact ⟨0, by simp, rfl, ((Ext.refl w).alloc _).alloc _, rfl, .inr ⟨w.heap.size + 1, 1, _, rfl, Nat.le_refl _, by have := heap_alloc_new (w.alloc (.cells #[.int .i64 n, .slice oa ss.length cap] 24)) (.cells #[.iface 134 (.agg #[.int .i64 n, .slice oa ss.length cap])] 139); simpa only [World.size_alloc] using this, Nat.le_refl _, by decide, rfl, rfl⟩⟩
  case round =>
    obtain ⟨k, hk, rfl, hE, hown⟩ := hrel
    have Hown := Lib.hid hown
    clear hown
    obtain ⟨wo, rfl⟩ : ∃ wo : World, wo = wr := ⟨_, rfl⟩
    have hrl : (rowsV n (.slice oa ss.length cap) (us.take k)).length = k + 1 := by simp [rowsV, hx1]; omega
    by_cases hlt : k < ss.length
    · obtain ⟨b, off, _, _, hoa, _⟩ := rows_up Hr.out hlt
      obtain ⟨u, hu, hI⟩ := Hx4.out k _ (upp_get hlt)
      have hcw := Hx2.out ⟨b, off, none⟩ k u hoa hu
      rw [add_none] at hcw
      obtain ⟨o2, c2, rfl, _⟩ := hI
      have hcx := cell_ext hE hcw
      have htk : rowsV n (.slice oa ss.length cap) (us.take (k + 1)) = rowsV n (.slice oa ss.length cap) (us.take k) ++ [.iface 137 (.agg #[.slice o2 (up ss[k]).length c2])] := by
        obtain ⟨hku, hu2⟩ := List.getElem?_eq_some_iff.1 hu
        rw [List.take_succ_eq_append_getElem hku, hu2]; simp [rowsV]
      have Htk := Lib.hid htk
      clear htk hcw hu
      subst hoa
      generalize hL : (up ss[k]).length = L at *
      clear hL
      go_wp2_with (first | (at_builtin; refine wpList_app1 _ rfl _ _ 135 rfl 139 Tryz.underlying135 .nilIface 16 i139 rfl (by decide) (w.heap.size + 1) _ _ rfl (Hown.out.ext ((Ext.refl _).alloc _)) wo.heap.size (.iface 137 (.agg #[.slice o2 L c2])) rfl (by go_simp) rfl ?_ ?_ ?_))
      · rw [hrl]; omega
      · have := hE.size; simp; omega
      · intro v' w2 hown2 hBl _
        have Ho2 := Lib.hid hown2; clear hown2
        go_wp2
        go_roundg (gk - 1)
        case measure => omega
        case rel => exact ⟨k + 1, by omega, by go_num, (hE.alloc _).below hBl (by omega), by rw [Htk.out]; exact Ho2.out⟩
    · have hkk : k = ss.length := by omega
      have htk : us.take k = us := List.take_of_length_le (by omega)
      rw [htk] at hrl
      have ho := Hown.out
      rw [htk] at ho
      obtain ⟨oR, cR, hv, r1, r2, r3, r4⟩ := ho.slice
      rw [hrl] at hv r1
      subst hv
      have hwr : ∀ i, i < ss.length + 1 → ∃ b rv s, oR = some ⟨b, 0, none⟩ ∧ wo.cell? ⟨b, i, none⟩ = some rv ∧ (linesB n ss)[i]? = some s ∧ s.length ≤ 4000 ∧ ∀ W, Ext wo W → Calls Tryz.prog 126 #[rv] W fun e w' => e = .returned (.string (bs s)) ∧ Ext W w' := by
        intro i hi
        obtain ⟨b, e1, _, e2⟩ := r4 i _ (List.getElem?_eq_getElem (by rw [hrl]; omega))
        exact ⟨b, _, _, e1, e2, List.getElem?_eq_getElem (by rw [linesB_length]; omega), Hs.out.lines _ (List.getElem_mem _), fun W hW => written_at (sv := .slice oa ss.length cap) Hs.out hx1 Hx4.out hi W (hE.trans hW)⟩
      have hLl := Hs.out.lines
      have hLn := linesB_length n ss
      have htx : textB n ss = sealB (linesB n ss) := rfl
      have Htx := Lib.hid htx
      have Hwr := Lib.hid hwr
      have HLl := Lib.hid hLl
      clear hwr htx r4 Hown ho htk hLl hrl
      generalize hLL : linesB n ss = L at *
      clear hLL
      subst hkk
      go_wp2
      go_loopg [6, 7, 32] (ss.length + 1) (fun g o c i wr => ∃ k : Nat, k + g = ss.length + 1 ∧ i = .int .i64 k ∧ Ext wo wr ∧ o = .string (bs (outAll L k)) ∧ c = .int .i64 (sumAll L k : Nat))
      case atStart => exact ⟨0, by simp, rfl, Ext.refl _, by simp [outAll], by simp [sumAll]⟩
      case round =>
        obtain ⟨i, hi, rfl, hE1, rfl, rfl⟩ := hrel
        obtain ⟨w1, rfl⟩ : ∃ w1 : World, w1 = wr := ⟨_, rfl⟩
        obtain ⟨g1, rfl⟩ : ∃ g1 : Nat, g1 = gk := ⟨_, rfl⟩
        by_cases hlt : i < ss.length + 1
        · obtain ⟨b, rv, s, rfl, hrv, hs, hsl, hcall⟩ := Hwr.out i hlt
          have hrv1 := cell_ext hE1 hrv
          have Hcall := Lib.hid hcall
          have hiL : i < L.length := by omega
          have hsi : L[i] = s := by rw [List.getElem?_eq_getElem hiL] at hs; exact Option.some.inj hs
          have hos : outAll L (i + 1) = outAll L i ++ (s ++ [10]) := by rw [outAll_succ hiL, hsi]
          have hss : sumAll L (i + 1) = sumAll L i + sumTo i s s.length := by rw [sumAll_succ]; simp [List.getD, hs]
          have hol := outAll_le HLl.out (k := i) (by omega)
          have hsu := sumAll_le HLl.out (k := i) (by omega) (by omega)
          have Hos := Lib.hid hos
          have Hss := Lib.hid hss
          clear hrv hcall hs hsi hos hss
          generalize hO : outAll L i = O at *
          generalize hC : sumAll L i = C at *
          clear hO hC
          go_wp2_with (first | (go_at_call 126; refine (Hcall.out _ hE1).mono ?_; rintro e w2 ⟨rfl, hE2⟩))
          go_loopg [7, 41] s.length (fun g c v wr => ∃ k : Nat, k + g = s.length ∧ v = .int .i64 k ∧ wr = w2 ∧ c = .int .i64 ((C + sumTo i s k : Nat) : Int))
          case atStart => exact ⟨0, by simp, rfl, rfl, by simp [sumTo]⟩
          case round =>
            obtain ⟨k, hk, rfl, rfl, rfl⟩ := hrel
            by_cases hlt2 : k < s.length
            · have hsk := sumTo_succ i s k
              go_wp2
              go_roundg (gk - 1)
              case measure => omega
              case rel => exact ⟨k + 1, by omega, by go_num, rfl, by first | rfl | (congr 1; exact step_sum hlt2 _ hsl (by omega) (by omega))⟩
            · have hkk : k = s.length := by omega
              subst hkk
              have hcs : C + sumTo i s s.length = sumAll L (i + 1) := Hss.out.symm
              rw [hcs]
              clear Hcall
              generalize hC2 : sumAll L (i + 1) = C2 at *
              clear hcs
              go_wp2
              go_roundg (g1 - 1)
              case measure => omega
              case rel => exact ⟨i + 1, by omega, by go_num, hE1.trans hE2, by rw [Hos.out]; rfl, by rw [hC2]⟩
        · have hiL : i = L.length := by omega
          have hol := outAll_le HLl.out (k := i) (by omega)
          have hsu := sumAll_le HLl.out (k := i) (by omega) (by omega)
          have hse : sealB L = outAll L i ++ wEnd ++ digs (sumAll L i % 193 / 100) ++ digs (sumAll L i % 193 / 10 % 10) ++ digs (sumAll L i % 193 % 10) ++ [10] := by rw [hiL]; rfl
          have Hse := Lib.hid hse
          clear hse
          generalize hO : outAll L i = O at *
          generalize hC : sumAll L i = C at *
          clear hO hC
          go_wp2
          go_ret
          refine ⟨?_, hE.trans hE1⟩
          rw [Htx.out, Hse.out]
          have c1 : C % 193 / 100 < 10 := by omega
          have c2 : C % 193 / 10 % 10 < 10 := by omega
          have c3 : C % 193 % 10 < 10 := by omega
          have d1 := digit1 c1
          have d2 := digit1 c2
          have d3 := digit1 c3
          simp only [allDigits] at d1 d2 d3
          rw [d1, d2, d3]
          show Ending.returned (.string (bs O ++ bs wEnd ++ bs _ ++ bs _ ++ bs _ ++ bs [10])) = _
          simp only [bs_append]

end Go.Proofs.YtiehfpkcaoeieaaGreatDoor
/- Contracts: strip.Print, sure, number, slices.Index of strings. No condition. -/
namespace Go.Proofs.YtiehfpkcaoeieaaGreatDoor
open Go.RowKit Go.My Go.StripM

theorem Good.small {n : Nat} {ss : List (List Nat)} (g : Good n ss) : Small n ss :=
  ⟨by have := g.le; omega, by have := g.len; omega, fun s hs => ⟨by have := nodup_le n s (g.valid s hs).1 (g.valid s hs).2; have := g.le; omega, fun x hx => by have := (g.valid s hs).2 x hx; have := g.le; omega⟩⟩

set_option maxHeartbeats 1000000 in
theorem print_bad (n : Int) (ls : List (List Int)) (oa : Option Addr) (cap : Nat) (w : World) (h : RowsAt w oa ls) (hl : ls.length ≤ 9223372036854775807) (hbad : boardB n ls = false) :
    Calls Tryz.prog 65 #[.agg #[.int .i64 n, .slice oa ls.length cap]] w fun e w' => e = .returned (.tuple #[.string (bs []), .int .i64 2]) ∧ Ext w w' := by
  have bx := Lib.hid (BxI.start (n := n) (cap := cap) h)
  clear h
  go_enter Tryz.func65, Tryz.ntmps65
  go_wp2_with (first | (go_at_call 73; refine (bx.out.board hl).mono ?_; rw [hbad]; rintro e w1 ⟨rfl, b1⟩))
  go_ret2
  exact ⟨rfl, b1.ext⟩

set_option maxHeartbeats 1000000 in
theorem print_any (n : Nat) (ss : List (List Nat)) (oa : Option Addr) (cap : Nat) (w : World) (h : RowsAt w oa (upp ss)) (g : Good n ss) :
    Calls Tryz.prog 65 #[.agg #[.int .i64 n, .slice oa ss.length cap]] w fun e w' => e = .returned (.tuple #[.string (bs (textB n ss)), .int .i64 0]) ∧ Ext w w' := by
  have bx := Lib.hid (Bx.start (n := n) (cap := cap) h)
  have G := Lib.hid g
  clear h g
  go_enter Tryz.func65, Tryz.ntmps65
  go_wp2_with (first | (go_at_call 73; refine (bx.out.board G.out).mono ?_; rintro e w1 ⟨rfl, b1⟩; have c0 := b1.c0; have c1 := b1.c1; have B1 := Lib.hid b1; clear b1) | (go_at_call 108; refine (text_any n ss oa cap _ B1.out.rows G.out.small).mono ?_; rintro e w2 ⟨rfl, hE2⟩))
  go_ret2
  exact ⟨rfl, B1.out.ext.trans hE2⟩

theorem sure_ok (s : ByteArray) (w : World) : Calls Tryz.prog 129 #[.bool true, .string s] w fun e w' => (∃ v, e = .returned v) ∧ w' = w := by
  go_enter Tryz.func129, Tryz.ntmps129
  go_wp2
  go_end0
  exact ⟨⟨_, rfl⟩, rfl⟩

/-- What gives up as no text. -/
def NoText (e : Ending) : Prop := ∃ s, e = .panicked [{ v := .iface 127 (.agg #[.string s]), recovered := false }]

theorem sure_bad (s : ByteArray) (w : World) : Calls Tryz.prog 129 #[.bool false, .string s] w fun e w' => NoText e ∧ w' = w := by
  go_enter Tryz.func129, Tryz.ntmps129
  go_wp2
  exact ⟨rfl, ⟨s, rfl⟩, rfl⟩

def isDig (b : UInt8) : Bool := decide (48 ≤ b.toNat) && decide (b.toNat ≤ 57)
def valOf (l : List UInt8) : Nat := l.foldl (fun n b => 10 * n + (b.toNat - 48)) 0
/-- The number that a word is. -/
def parseNum (l : List UInt8) : Option Nat := if (l ≠ [] ∧ l.length ≤ 2 ∧ l.all isDig = true) ∧ digs (valOf l) = l then some (valOf l) else none
theorem valOf_snoc (l : List UInt8) (b : UInt8) : valOf (l ++ [b]) = 10 * valOf l + (b.toNat - 48) := by simp [valOf]
def NumPost (l : List UInt8) (e : Ending) : Prop := (∀ n, parseNum l = some n → e = .returned (.int .i64 n)) ∧ (parseNum l = none → NoText e)
theorem num_bad {l : List UInt8} {e : Ending} (h : ¬ ((l ≠ [] ∧ l.length ≤ 2 ∧ l.all isDig = true) ∧ digs (valOf l) = l)) (he : NoText e) : NumPost l e := by
  have : parseNum l = none := if_neg h
  exact ⟨fun n hn => (by rw [this] at hn; cases hn), fun _ => he⟩
theorem num_ok {l : List UInt8} {e : Ending} (h : (l ≠ [] ∧ l.length ≤ 2 ∧ l.all isDig = true) ∧ digs (valOf l) = l) (he : e = .returned (.int .i64 (valOf l : Nat))) : NumPost l e := by
  have : parseNum l = some (valOf l) := if_pos h
  exact ⟨fun n hn => (by rw [this] at hn; cases hn; exact he), fun hn => (by rw [this] at hn; cases hn)⟩
theorem val2 {l : List UInt8} (h : l.length ≤ 2) (hd : l.all isDig = true) : valOf l < 100 := by
  match l, h with
  | [], _ => simp [valOf]
  | [a], _ => simp [isDig] at hd; simp [valOf]; omega
  | [a, b], _ => simp [isDig] at hd; simp [valOf]; omega

theorem val1 {l : List UInt8} (h : l.length ≤ 1) (hd : l.all isDig = true) : valOf l ≤ 9 := by
  match l, h with
  | [], _ => simp [valOf]
  | [a], _ => simp [isDig] at hd; simp [valOf]; omega

set_option maxRecDepth 100000 in
set_option maxHeartbeats 1000000 in
theorem number_any (l : List UInt8) (w : World) (hl : l.length ≤ 9223372036854775807) : Calls Tryz.prog 131 #[.string (bs l)] w fun e w' => NumPost l e ∧ Ext w w' := by
  have hsz := bs_size l
  go_enter Tryz.func131, Tryz.ntmps131
  go_wp2
  go_loopg [3] l.length (fun g v wr => ∃ k : Nat, k + g = l.length ∧ wr = w.iter (bs l) k ∧ v = .int .i64 (valOf (l.take k) : Nat) ∧ (l.take k).all isDig = true ∧ (0 < k → l.length ≤ 2))
  case atStart => exact ⟨0, by simp, rfl, by simp [valOf], by simp, by omega⟩
  case round =>
    obtain ⟨k, hk, rfl, rfl, hall, h2⟩ := hrel
    by_cases hlt : k < l.length
    · have hks : k < (bs l).size := by rw [hsz]; exact hlt
      have hx : (bs l)[k]'hks = l[k] := by simp [ByteArray.getElem_eq_getElem_data]
      by_cases ha : l[k].toNat < 128
      · have hnx := fun ty => run_next_ascii (P := Tryz.prog) w (bs l) k ty hks (by rw [hx]; exact ha)
        rw [hx] at hnx
        have hbad : ¬ (48 ≤ l[k].toNat ∧ l[k].toNat ≤ 57 ∧ l.length ≤ 2) → ¬ ((l ≠ [] ∧ l.length ≤ 2 ∧ l.all isDig = true) ∧ digs (valOf l) = l) := by
          rintro h ⟨⟨_, h3, h4⟩, _⟩
          have := List.all_eq_true.1 h4 _ (List.getElem_mem hlt)
          simp only [isDig, Bool.and_eq_true, decide_eq_true_eq] at this
          exact h ⟨this.1, this.2, h3⟩
        have Hbad := Lib.hid hbad
        have hvk : valOf (l.take (k + 1)) = 10 * valOf (l.take k) + (l[k].toNat - 48) := by rw [List.take_succ_eq_append_getElem hlt, valOf_snoc]
        have hak : (l.take (k + 1)).all isDig = ((l.take k).all isDig && isDig l[k]) := by rw [List.take_succ_eq_append_getElem hlt, List.all_append]; simp
        have Hvk := Lib.hid hvk
        have Hak := Lib.hid hak
        have Hall := Lib.hid hall
        have hv9 : k < 2 → valOf (l.take k) ≤ 9 := fun h => val1 (by rw [List.length_take]; omega) hall
        clear hbad hvk hak hall hx
        generalize hB : l[k] = b at *
        clear hB
        by_cases c1 : 48 ≤ b.toNat
        · have c1' : (48 : Int) ≤ (b.toNat : Int) := by omega
          by_cases c2 : b.toNat ≤ 57
          · have c2' : (b.toNat : Int) ≤ 57 := by omega
            by_cases c3 : l.length ≤ 2
            · have c3' : (l.length : Int) ≤ 2 := by omega
              have hv := hv9 (by omega)
              clear hv9
              generalize hV : valOf (l.take k) = V at *
              clear hV
              go_wp2_with (first | (go_at_call 129; refine (sure_ok _ _).mono ?_; rintro e w2 ⟨⟨v2, rfl⟩, rfl⟩))
              go_roundg (gk - 1)
              case measure => omega
              case rel => exact ⟨k + 1, by omega, rfl, by rw [Hvk.out]; congr 1; omega, by rw [Hak.out, Hall.out]; simp [isDig, c1, c2], fun _ => c3⟩
            · have c3' : ¬ ((l.length : Int) ≤ 2) := by omega
              go_wp2_with (first | (go_at_call 129; refine (sure_bad _ _).mono ?_; rintro e w2 ⟨⟨s2, rfl⟩, rfl⟩))
              exact ⟨rfl, num_bad (Hbad.out (by omega)) ⟨s2, rfl⟩, (Ext.refl w).alloc _⟩
          · have c2' : ¬ ((b.toNat : Int) ≤ 57) := by omega
            go_wp2_with (first | (go_at_call 129; refine (sure_bad _ _).mono ?_; rintro e w2 ⟨⟨s2, rfl⟩, rfl⟩))
            exact ⟨rfl, num_bad (Hbad.out (by omega)) ⟨s2, rfl⟩, (Ext.refl w).alloc _⟩
        · have c1' : ¬ ((48 : Int) ≤ (b.toNat : Int)) := by omega
          go_wp2_with (first | (go_at_call 129; refine (sure_bad _ _).mono ?_; rintro e w2 ⟨⟨s2, rfl⟩, rfl⟩))
          exact ⟨rfl, num_bad (Hbad.out (by omega)) ⟨s2, rfl⟩, (Ext.refl w).alloc _⟩
      · obtain ⟨d1, d2⟩ := decode_high (bs l) k hks (by rw [hx]; omega)
        have hnx := fun ty => run_next_any (P := Tryz.prog) w (bs l) k ty hks
        have hbad : ¬ ((l ≠ [] ∧ l.length ≤ 2 ∧ l.all isDig = true) ∧ digs (valOf l) = l) := by
          rintro ⟨⟨_, h3, h4⟩, _⟩
          have := List.all_eq_true.1 h4 _ (List.getElem_mem hlt)
          simp only [isDig, Bool.and_eq_true, decide_eq_true_eq] at this
          omega
        have Hbad := Lib.hid hbad
        have hle := decode_le (bs l) k
        clear hbad hall hx
        generalize hD : (Utf8.decode (bs l) k).1 = d at *
        clear hD
        have c1' : (48 : Int) ≤ (d : Int) := by omega
        have c2' : ¬ ((d : Int) ≤ 57) := by omega
        go_wp2_with (first | (go_at_call 129; refine (sure_bad _ _).mono ?_; rintro e w2 ⟨⟨s2, rfl⟩, rfl⟩))
        exact ⟨rfl, num_bad Hbad.out ⟨s2, rfl⟩, (Ext.refl w).alloc _⟩
    · have hkk : l.take k = l := List.take_of_length_le (by omega)
      have hke : k = l.length := by omega
      rw [hkk] at hall ⊢
      have hnx := fun ty => run_next_end (P := Tryz.prog) w (bs l) k ty (by rw [hsz]; omega)
      by_cases he : l = []
      · have hem : l.isEmpty = true := by rw [he]; rfl
        have hb := Lib.hid (fun h : (l ≠ [] ∧ l.length ≤ 2 ∧ l.all isDig = true) ∧ digs (valOf l) = l => h.1.1 he)
        clear he hall hkk hke
        go_wp2_with (first | (go_at_call 129; refine (sure_bad _ _).mono ?_; rintro e w2 ⟨⟨s2, rfl⟩, rfl⟩))
        exact ⟨rfl, num_bad hb.out ⟨s2, rfl⟩, (Ext.refl w).alloc _⟩
      · have hpos := List.length_pos_iff.2 he
        have h3 := h2 (by omega)
        have hem : l.isEmpty = false := by simpa using he
        have hv := val2 h3 hall
        have hg := (show (l ≠ [] ∧ l.length ≤ 2 ∧ l.all isDig = true) from ⟨he, h3, hall⟩)
        have Hg := Lib.hid hg
        clear hg he hall hkk hke h2
        by_cases hq : digs (valOf l) = l
        · have heq : (Lib.decDigits (valOf l) == l) = true := by rw [beq_iff_eq]; exact hq
          have hf := Lib.hid (⟨Hg.out, hq⟩ : (l ≠ [] ∧ l.length ≤ 2 ∧ l.all isDig = true) ∧ digs (valOf l) = l)
          clear hq
          generalize hV : valOf l = V at *
          have HV := Lib.hid hV
          clear hV
          go_wp2_with (first | (go_at_call 127; refine (Tryz.strconv_Itoa_small V hv _).mono ?_; rintro e w3 ⟨rfl, rfl⟩) | (go_at_call 129; refine (sure_ok _ _).mono ?_; rintro e w2 ⟨⟨v2, rfl⟩, rfl⟩))
          go_ret
          exact ⟨num_ok (by rw [HV.out]; exact hf.out) (by rw [HV.out]; rfl), (Ext.refl w).alloc _⟩
        · have heq : (Lib.decDigits (valOf l) == l) = false := by rw [beq_eq_false_iff_ne]; exact hq
          have hf := Lib.hid (fun h : (l ≠ [] ∧ l.length ≤ 2 ∧ l.all isDig = true) ∧ digs (valOf l) = l => hq h.2)
          clear hq
          generalize hV : valOf l = V at *
          have HV := Lib.hid hV
          clear hV
          go_wp2_with (first | (go_at_call 127; refine (Tryz.strconv_Itoa_small V hv _).mono ?_; rintro e w3 ⟨rfl, rfl⟩) | (go_at_call 129; refine (sure_bad _ _).mono ?_; rintro e w2 ⟨⟨s2, rfl⟩, rfl⟩))
          exact ⟨rfl, num_bad (by rw [HV.out]; exact hf.out) ⟨s2, rfl⟩, (Ext.refl w).alloc _⟩

end Go.Proofs.YtiehfpkcaoeieaaGreatDoor
/- Plain mathematics: texts and what is read of them. No condition; nothing of the program but what it was shown to compute. -/
namespace Go.Proofs.YtiehfpkcaoeieaaGreatDoor
open Go.StripM

/-- The parts between one byte. -/
def spl (c : UInt8) : List UInt8 → List (List UInt8)
  | [] => [[]]
  | x :: l => if x = c then [] :: spl c l else (x :: (spl c l).headD []) :: (spl c l).tail
theorem spl_pos (c : UInt8) (l : List UInt8) : 1 ≤ (spl c l).length := by
  cases l with
  | nil => simp [spl]
  | cons x l => simp only [spl]; split <;> simp
theorem spl_ne (c : UInt8) (l : List UInt8) : spl c l ≠ [] := fun h => by have := spl_pos c l; rw [h] at this; simp at this
theorem spl_none {c : UInt8} {l : List UInt8} (h : c ∉ l) : spl c l = [l] := by
  induction l with
  | nil => rfl
  | cons x l ih =>
    have h1 : ¬ x = c := fun e => h (by simp [e])
    rw [spl, if_neg h1, ih (fun hm => h (by simp [hm]))]; rfl
theorem spl_hit {c : UInt8} {a : List UInt8} (b : List UInt8) (h : c ∉ a) : spl c (a ++ c :: b) = a :: spl c b := by
  induction a with
  | nil => simp [spl]
  | cons x a ih =>
    have h1 : ¬ x = c := fun e => h (by simp [e])
    rw [List.cons_append, spl, if_neg h1, ih (fun hm => h (by simp [hm]))]; rfl
theorem spl_len (c : UInt8) (l : List UInt8) : (spl c l).length ≤ l.length + 1 := by
  induction l with
  | nil => simp [spl]
  | cons x l ih =>
    simp only [spl]
    split
    · simp; exact ih
    · have := spl_pos c l; simp; omega
theorem spl_part {c : UInt8} {l p : List UInt8} (h : p ∈ spl c l) : p.length ≤ l.length := by
  induction l generalizing p with
  | nil => simp [spl] at h; simp [h]
  | cons x l ih =>
    simp only [spl] at h
    split at h
    · rcases List.mem_cons.1 h with rfl | h
      · simp
      · have := ih h; simp; omega
    · rcases List.mem_cons.1 h with rfl | h
      · have : (spl c l).headD [] ∈ spl c l := by
          cases hs : spl c l with
          | nil => exact absurd hs (spl_ne c l)
          | cons a b => simp
        have := ih this
        simp; simpa using this
      · have := ih (List.mem_of_mem_tail h); simp; omega

theorem split_spl (c : UInt8) : ∀ (m : Nat) (l : List UInt8), l.length ≤ m → Lib.splitK [c] 0 (Lib.count l [c]) l = spl c l ∧ Lib.count l [c] + 1 = (spl c l).length := by
  intro m
  induction m with
  | zero =>
    intro l h
    have : l = [] := List.eq_nil_of_length_eq_zero (by omega)
    subst this
    have h1 : Lib.index [] [c] = -1 := by rw [Lib.index_one]; rfl
    rw [Lib.count_miss h1]
    exact ⟨rfl, rfl⟩
  | succ m ih =>
    intro l h
    have hi := Lib.index_one l c
    have hge := Lib.indexByte_ge l c
    by_cases hm : Lib.indexByte l c = -1
    · have h1 : Lib.index l [c] = -1 := by rw [hi]; exact hm
      have hno := Lib.indexByte_none hm
      have hnot : c ∉ l := fun hc => by
        obtain ⟨k, hk⟩ := List.mem_iff_getElem?.1 hc
        exact hno k hk
      rw [Lib.count_miss h1, spl_none hnot]
      exact ⟨rfl, rfl⟩
    · obtain ⟨o, ho⟩ : ∃ o : Nat, Lib.indexByte l c = o := ⟨(Lib.indexByte l c).toNat, by omega⟩
      obtain ⟨h1, h2⟩ := Lib.indexByte_some ho
      have hidx : Lib.index l [c] = o := by rw [hi]; exact ho
      obtain ⟨hol, hoc⟩ := List.getElem?_eq_some_iff.1 h1
      have hl : l = l.take o ++ c :: l.drop (o + 1) := by
        have := List.drop_eq_getElem_cons hol
        rw [hoc] at this
        rw [← this, List.take_append_drop]
      have hnot : c ∉ l.take o := fun hc => by
        obtain ⟨k, hk⟩ := List.mem_iff_getElem?.1 hc
        rw [List.getElem?_take] at hk
        split at hk
        · rename_i hlt; exact h2 k hlt hk
        · cases hk
      have hs : spl c l = l.take o :: spl c (l.drop (o + 1)) := by
        have := spl_hit (l.drop (o + 1)) hnot
        rw [← hl] at this; exact this
      have hc := Lib.count_hit (by simp) hidx
      obtain ⟨i1, i2⟩ := ih (l.drop (o + 1)) (by rw [List.length_drop]; omega)
      rw [List.length_singleton] at hc
      have hne : ¬ (Lib.index l [c] == -1) = true := fun e => by have := beq_iff_eq.1 e; omega
      have hto : (Lib.index l [c]).toNat = o := by omega
      rw [hc, hs]
      refine ⟨?_, by rw [List.length_cons, ← i2]; omega⟩
      rw [Nat.add_comm, Lib.splitK, if_neg hne, hto, Nat.add_zero, List.length_singleton, i1]

theorem splitB_spl (c : UInt8) (l : List UInt8) : Lib.splitB (bs [c]) 0 (Lib.countB (bs l) (bs [c])) (bs l) = (spl c l).map bs ∧ Lib.countB (bs l) (bs [c]) + 1 = (spl c l).length := by
  obtain ⟨h1, h2⟩ := split_spl c l.length l (Nat.le_refl _)
  have h3 := Lib.splitB_data (bs [c]) 0 (Lib.countB (bs l) (bs [c])) (bs l)
  have hcb : Lib.countB (bs l) (bs [c]) = Lib.count l [c] := rfl
  have h4 : (Lib.splitB (bs [c]) 0 (Lib.countB (bs l) (bs [c])) (bs l)).map (·.data.toList) = spl c l := h3.trans (by rw [hcb]; exact h1)
  refine ⟨?_, by rw [hcb]; exact h2⟩
  rw [← h4, List.map_map]
  have : (bs ∘ fun x : ByteArray => x.data.toList) = id := by funext x; simp [bs]
  rw [this, List.map_id]

/-! ### digits -/
theorem digs_eq {n : Nat} (h : n < 100) : digs n = if n < 10 then [UInt8.ofNat (48 + n)] else [UInt8.ofNat (48 + n / 10), UInt8.ofNat (48 + n % 10)] := by
  unfold digs
  rw [Lib.decDigits]
  split
  · rfl
  · rw [Lib.decDigits, dif_pos (by omega)]; rfl
theorem digs_facts : ∀ n, n < 100 → (digs n ≠ [] ∧ (digs n).length ≤ 2 ∧ (digs n).all isDig = true) ∧ valOf (digs n) = n := by
  have h : ∀ n : Fin 100, ∀ d, d = (if n.1 < 10 then [UInt8.ofNat (48 + n.1)] else [UInt8.ofNat (48 + n.1 / 10), UInt8.ofNat (48 + n.1 % 10)]) → (d ≠ [] ∧ d.length ≤ 2 ∧ d.all isDig = true) ∧ valOf d = n.1 := by
    intro n d e
    subst e
    revert n
    decide +kernel
  intro n hn
  exact h ⟨n, hn⟩ _ (digs_eq hn)
theorem parse_digs {n : Nat} (h : n < 100) : parseNum (digs n) = some n := by
  obtain ⟨h1, h2⟩ := digs_facts n h
  rw [parseNum, h2, if_pos ⟨h1, rfl⟩]
theorem parse_num {l : List UInt8} {n : Nat} (h : parseNum l = some n) : n < 100 ∧ digs n = l := by
  unfold parseNum at h
  split at h
  · rename_i hc
    injection h with h
    subst h
    exact ⟨val2 hc.1.2.1 hc.1.2.2, hc.2⟩
  · cases h
theorem digs_no {n : Nat} (h : n < 100) {c : UInt8} (hc : c.toNat < 48) : c ∉ digs n := fun hm => by
  have := List.all_eq_true.1 (digs_facts n h).1.2.2 c hm
  simp only [isDig, Bool.and_eq_true, decide_eq_true_eq] at this
  omega

/-! ### lines -/
theorem spl_row {word : List UInt8} (hw : (32 : UInt8) ∉ word) {ns : List Nat} (h : ∀ n ∈ ns, n < 100) : spl 32 (rowB word ns) = word :: ns.map digs := by
  induction ns generalizing word with
  | nil => rw [show rowB word [] = word by simp [rowB], spl_none hw]; rfl
  | cons n ns ih =>
    have e : rowB word (n :: ns) = word ++ 32 :: rowB (digs n) ns := by simp [rowB]
    rw [e, spl_hit _ hw, ih (digs_no (h n (by simp)) (by decide)) (fun m hm => h m (by simp [hm]))]; rfl
theorem row_no10 {word : List UInt8} (hw : (10 : UInt8) ∉ word) {ns : List Nat} (h : ∀ n ∈ ns, n < 100) : (10 : UInt8) ∉ rowB word ns := by
  intro hm
  rcases List.mem_append.1 hm with hm | hm
  · exact hw hm
  · obtain ⟨n, hn, hm⟩ := List.mem_flatMap.1 hm
    rcases List.mem_cons.1 hm with e | hm
    · exact absurd e (by decide)
    · exact digs_no (h n hn) (by decide) hm
theorem spl_lines {L : List (List UInt8)} (hL : ∀ s ∈ L, (10 : UInt8) ∉ s) (t : List UInt8) : spl 10 ((L.flatMap fun s => s ++ [10]) ++ t) = L ++ spl 10 t := by
  induction L with
  | nil => rfl
  | cons s L ih =>
    have e : ((s :: L).flatMap fun s => s ++ [10]) ++ t = s ++ 10 :: ((L.flatMap fun s => s ++ [10]) ++ t) := by simp
    rw [e, spl_hit _ (hL s (by simp)), ih fun s hs => hL s (by simp [hs])]; rfl

/-- Small numbers. -/
def Sm (n : Nat) (ss : List (List Nat)) : Prop := n < 100 ∧ ∀ s ∈ ss, ∀ x ∈ s, x < 100
theorem lines_no10 {n : Nat} {ss : List (List Nat)} (h : Sm n ss) : ∀ s ∈ linesB n ss, (10 : UInt8) ∉ s := by
  intro s hs
  rcases List.mem_cons.1 hs with rfl | hs
  · exact row_no10 (by decide) (by simp; exact h.1)
  · obtain ⟨l, hl, rfl⟩ := List.mem_map.1 hs
    exact row_no10 (by decide) (h.2 l hl)
theorem check_small (L : List (List UInt8)) : checkOf L < 193 := Nat.mod_lt _ (by decide)
def endB (L : List (List UInt8)) : List UInt8 := wEnd ++ digs (checkOf L / 100) ++ digs (checkOf L / 10 % 10) ++ digs (checkOf L % 10)
theorem sealB_eq (L : List (List UInt8)) : sealB L = (L.flatMap fun s => s ++ [10]) ++ (endB L ++ [10]) := by
  rw [sealB, outAll, List.take_length]; simp [endB]
theorem end_no10 (L : List (List UInt8)) : (10 : UInt8) ∉ endB L := by
  have := check_small L
  intro hm
  rcases List.mem_append.1 hm with hm | hm
  · rcases List.mem_append.1 hm with hm | hm
    · rcases List.mem_append.1 hm with hm | hm
      · exact absurd hm (by decide)
      · exact digs_no (by omega) (by decide) hm
    · exact digs_no (by omega) (by decide) hm
  · exact digs_no (by omega) (by decide) hm
theorem spl_text {n : Nat} {ss : List (List Nat)} (h : Sm n ss) : spl 10 (textB n ss) = linesB n ss ++ [endB (linesB n ss), []] := by
  rw [textB, sealB_eq, spl_lines (lines_no10 h), spl_hit [] (end_no10 _)]; rfl

/-! ### what is read -/
def lineOk (first : Bool) (row : List UInt8) : Option (List Nat) :=
  ((spl 32 row).tail.mapM parseNum).bind fun ns => if first = true then (if (spl 32 row).headD [] = wBoard ∧ ns.length = 1 then some ns else none) else if (spl 32 row).headD [] = wSpot then some ns else none
def stTo (rows : List (List UInt8)) : Nat → Option (Nat × List (List Nat))
  | 0 => some (0, [])
  | i + 1 => (stTo rows i).bind fun p => if i = 0 then (lineOk true (rows.getD i [])).map fun ns => (ns.headD 0, p.2) else (lineOk false (rows.getD i [])).map fun s => (p.1, p.2 ++ [s])
def parse (l : List UInt8) : Option (Nat × List (List Nat)) :=
  if (spl 10 l).length < 3 then none else (stTo (spl 10 l) ((spl 10 l).length - 2)).bind fun p => if textB p.1 p.2 = l then some p else none

theorem stTo_none {rows : List (List UInt8)} {i : Nat} (h : stTo rows i = none) : ∀ {k : Nat}, i ≤ k → stTo rows k = none := by
  intro k hk
  induction hk with
  | refl => exact h
  | step _ ih => rw [stTo, ih]; rfl

theorem mapM_digs {ns : List Nat} (h : ∀ n ∈ ns, n < 100) : (ns.map digs).mapM parseNum = some ns := by
  induction ns with
  | nil => rfl
  | cons n ns ih =>
    rw [List.map_cons, List.mapM_cons, parse_digs (h n (by simp)), ih fun m hm => h m (by simp [hm])]; rfl
theorem mapM_small {ws : List (List UInt8)} {ns : List Nat} (h : ws.mapM parseNum = some ns) : ∀ n ∈ ns, n < 100 := by
  induction ws generalizing ns with
  | nil => simp at h; subst h; simp
  | cons w ws ih =>
    rw [List.mapM_cons] at h
    cases h1 : parseNum w with
    | none => rw [h1] at h; cases h
    | some a =>
      cases h2 : ws.mapM parseNum with
      | none => rw [h1, h2] at h; cases h
      | some xs =>
        rw [h1, h2] at h
        injection h with h
        subst h
        intro n hn
        rcases List.mem_cons.1 hn with rfl | hn
        · exact (parse_num h1).1
        · exact ih h2 n hn
theorem lineOk_small {f : Bool} {row : List UInt8} {ns : List Nat} (h : lineOk f row = some ns) : ∀ n ∈ ns, n < 100 := by
  unfold lineOk at h
  cases h1 : (spl 32 row).tail.mapM parseNum with
  | none => rw [h1] at h; cases h
  | some xs =>
    rw [h1] at h
    simp only [Option.bind_some] at h
    split at h
    · split at h
      · injection h with h; subst h; exact mapM_small h1
      · cases h
    · split at h
      · injection h with h; subst h; exact mapM_small h1
      · cases h
theorem lineOk_board {n : Nat} (h : n < 100) : lineOk true (rowB wBoard [n]) = some [n] := by
  rw [lineOk, spl_row (by decide) (by simp; exact h), List.tail_cons, mapM_digs (by simp; exact h)]; rfl
theorem lineOk_spot {s : List Nat} (h : ∀ n ∈ s, n < 100) : lineOk false (rowB wSpot s) = some s := by
  rw [lineOk, spl_row (by decide) h, List.tail_cons, mapM_digs h]; rfl

theorem stTo_small {rows : List (List UInt8)} : ∀ {i : Nat} {p : Nat × List (List Nat)}, stTo rows i = some p → Sm p.1 p.2 := by
  intro i
  induction i with
  | zero => intro p h; injection h with h; subst h; exact ⟨by simp, by simp⟩
  | succ i ih =>
    intro p h
    rw [stTo] at h
    cases h1 : stTo rows i with
    | none => rw [h1] at h; cases h
    | some q =>
      rw [h1, Option.bind_some] at h
      have hq := ih h1
      split at h
      · cases h2 : lineOk true (rows.getD i []) with
        | none => rw [h2] at h; cases h
        | some ns =>
          rw [h2] at h
          injection h with h
          subst h
          have := lineOk_small h2
          refine ⟨?_, hq.2⟩
          cases ns with
          | nil => simp
          | cons a xs => exact this a (by simp)
      · cases h2 : lineOk false (rows.getD i []) with
        | none => rw [h2] at h; cases h
        | some ns =>
          rw [h2] at h
          injection h with h
          subst h
          refine ⟨hq.1, fun s hs => ?_⟩
          rcases List.mem_append.1 hs with hs | hs
          · exact hq.2 s hs
          · rw [List.mem_singleton.1 hs]; exact lineOk_small h2

theorem stTo_lines {n : Nat} {ss : List (List Nat)} (h : Sm n ss) (t : List (List UInt8)) : ∀ i, i ≤ ss.length → stTo (linesB n ss ++ t) (i + 1) = some (n, ss.take i) := by
  intro i
  induction i with
  | zero =>
    intro _
    rw [stTo, stTo, Option.bind_some, if_pos rfl]
    have : (linesB n ss ++ t).getD 0 [] = rowB wBoard [n] := rfl
    rw [this, lineOk_board h.1]; rfl
  | succ i ih =>
    intro hi
    rw [stTo, ih (by omega), Option.bind_some, if_neg (by omega)]
    have : (linesB n ss ++ t).getD (i + 1) [] = rowB wSpot ss[i] := by
      have h1 : (linesB n ss ++ t)[i + 1]? = some (rowB wSpot ss[i]) := by
        rw [List.getElem?_append_left (by rw [linesB_length]; omega)]
        simp [linesB, show i < ss.length by omega]
      simp only [List.getD, h1, Option.getD_some]
    rw [this, lineOk_spot (h.2 _ (List.getElem_mem _)), List.take_succ_eq_append_getElem (by omega)]; rfl

/-- What is read of a text is what was written. -/
theorem parse_text {n : Nat} {ss : List (List Nat)} (h : Sm n ss) : parse (textB n ss) = some (n, ss) := by
  have hs := spl_text h
  have hl : (spl 10 (textB n ss)).length = ss.length + 3 := by rw [hs, List.length_append, linesB_length]; rfl
  rw [parse, if_neg (by omega), hl, hs]
  have e : ss.length + 3 - 2 = ss.length + 1 := by omega
  rw [e, stTo_lines h _ ss.length (Nat.le_refl _), List.take_length, Option.bind_some, if_pos rfl]

theorem parse_iff {l : List UInt8} {n : Nat} {ss : List (List Nat)} : parse l = some (n, ss) ↔ Sm n ss ∧ textB n ss = l := by
  constructor
  · intro h
    unfold parse at h
    split at h
    · cases h
    · cases h1 : stTo (spl 10 l) ((spl 10 l).length - 2) with
      | none => rw [h1] at h; cases h
      | some p =>
        rw [h1, Option.bind_some] at h
        split at h
        · rename_i ht
          injection h with h
          subst h
          exact ⟨stTo_small h1, ht⟩
        · cases h
  · rintro ⟨h, rfl⟩
    exact parse_text h

end Go.Proofs.YtiehfpkcaoeieaaGreatDoor
