/-
  NARROWER THAN 'FOR EVERY INPUT', by the rows' own cells (each row's printed sentence says how): TintTruths: laid · TintWords: laid · TintTrue: laid · TintCorners: laid · TintFirsts: laid · TintRival: laid · TintNears: laid · TintNearer: laid · TintNeeds: laid · TintEnough: laid · TintProofs: laid · TintProved: laid · TintMade: laid · TintMore: laid · TintSums: laid · TintPrints: laid · TintReads: laid · TintSpoilt: laid.
  DERIVED. THE GIVEN ROWS OF THIS SEAT. 18 by the template 'for every input the law returns true; each argument reads behind the call as it read before'; 0 by the template 'total and deterministic' (their statements: YtjpekonfjihcoaaGreatDoorTotals.lean).
  GIVEN WITH THE SEED: the statements are not yours to turn. If you find one false, say at which input.
  Laid BY PROGRAM, IN A SANDBOX (cutbox-rows.mjs): the forced cells as the released guide's own fill.sh prints them over the translation 115ca245c2ce8718… (all of the seat's roots in one cut). By AI agents, Wed Nov 11 2026. No macro, syntax, notation, axiom, sorry.
-/
import Derived.Test.YtjpekonfjihcoaaGreatDoorChecked
import GoSem.PinnedTables
import GoSem.Claim
import GoSem.ClaimJoined
import GoSem.ClaimMapViews
import Derived.JoinedTies
import Derived.KernelRfl
namespace Go.Proofs.YtjpekonfjihcoaaGreatDoor
/- THE CELL 'sum', in the pinned program and in every row, IS THE sha256 OF THE DUMP (.gsa) THAT YtjpekonfjihcoaaGreatDoorProg.lean LOADS. Nothing in Lean hashes anything: it is a label: what it is worth is what the hold of that sum in a sandbox is worth. -/
noncomputable def Tryz.pinned : Pinned := { name := "ytjpekonfjihcoaagreatdoor", sum := "115ca245c2ce8718598374d6d343291ab3e57ba0f00985012de97b86549b722b", checked := Tryz.checked }
namespace Rows
def none {H : Type} : Left H := { results := [], args := [] }

/- WHAT THE LISTED PACKAGE-LEVEL VARIABLES READ AS WHEN THE CALL BEGINS. Each datum BY PROGRAM (the guide's laid-datum.mjs) off the statement by which the dump's own 'gosem.cut.vars' lays the variable. In a bare row this is a premise. The card (YtjpekonfjihcoaaGreatDoorCards.lean) ties it to the program's text. -/
def laid_math_bits_deBruijn32tab {H : Type} : DataW H := .agg [.lit (.int .u8 0), .lit (.int .u8 1), .lit (.int .u8 28), .lit (.int .u8 2), .lit (.int .u8 29), .lit (.int .u8 14), .lit (.int .u8 24), .lit (.int .u8 3), .lit (.int .u8 30), .lit (.int .u8 22), .lit (.int .u8 20), .lit (.int .u8 15), .lit (.int .u8 25), .lit (.int .u8 17), .lit (.int .u8 4), .lit (.int .u8 8), .lit (.int .u8 31), .lit (.int .u8 27), .lit (.int .u8 13), .lit (.int .u8 23), .lit (.int .u8 21), .lit (.int .u8 19), .lit (.int .u8 16), .lit (.int .u8 7), .lit (.int .u8 26), .lit (.int .u8 12), .lit (.int .u8 18), .lit (.int .u8 6), .lit (.int .u8 11), .lit (.int .u8 5), .lit (.int .u8 10), .lit (.int .u8 9)]
def laid_math_bits_deBruijn64tab {H : Type} : DataW H := .agg [.lit (.int .u8 0), .lit (.int .u8 1), .lit (.int .u8 56), .lit (.int .u8 2), .lit (.int .u8 57), .lit (.int .u8 49), .lit (.int .u8 28), .lit (.int .u8 3), .lit (.int .u8 61), .lit (.int .u8 58), .lit (.int .u8 42), .lit (.int .u8 50), .lit (.int .u8 38), .lit (.int .u8 29), .lit (.int .u8 17), .lit (.int .u8 4), .lit (.int .u8 62), .lit (.int .u8 47), .lit (.int .u8 59), .lit (.int .u8 36), .lit (.int .u8 45), .lit (.int .u8 43), .lit (.int .u8 51), .lit (.int .u8 22), .lit (.int .u8 53), .lit (.int .u8 39), .lit (.int .u8 33), .lit (.int .u8 30), .lit (.int .u8 24), .lit (.int .u8 18), .lit (.int .u8 12), .lit (.int .u8 5), .lit (.int .u8 63), .lit (.int .u8 55), .lit (.int .u8 48), .lit (.int .u8 27), .lit (.int .u8 60), .lit (.int .u8 41), .lit (.int .u8 37), .lit (.int .u8 16), .lit (.int .u8 46), .lit (.int .u8 35), .lit (.int .u8 44), .lit (.int .u8 21), .lit (.int .u8 52), .lit (.int .u8 32), .lit (.int .u8 23), .lit (.int .u8 11), .lit (.int .u8 54), .lit (.int .u8 26), .lit (.int .u8 40), .lit (.int .u8 15), .lit (.int .u8 34), .lit (.int .u8 20), .lit (.int .u8 31), .lit (.int .u8 10), .lit (.int .u8 25), .lit (.int .u8 14), .lit (.int .u8 19), .lit (.int .u8 9), .lit (.int .u8 13), .lit (.int .u8 8), .lit (.int .u8 7), .lit (.int .u8 6)]
def laid_internal_strconv_uint64pow10 {H : Type} : DataW H := .agg [.lit (.int .u64 1), .lit (.int .u64 10), .lit (.int .u64 100), .lit (.int .u64 1000), .lit (.int .u64 10000), .lit (.int .u64 100000), .lit (.int .u64 1000000), .lit (.int .u64 10000000), .lit (.int .u64 100000000), .lit (.int .u64 1000000000), .lit (.int .u64 10000000000), .lit (.int .u64 100000000000), .lit (.int .u64 1000000000000), .lit (.int .u64 10000000000000), .lit (.int .u64 100000000000000), .lit (.int .u64 1000000000000000), .lit (.int .u64 10000000000000000), .lit (.int .u64 100000000000000000), .lit (.int .u64 1000000000000000000), .lit (.int .u64 10000000000000000000)]
def laid_unicode_utf8_acceptRanges {H : Type} : DataW H := .agg [.agg [.lit (.int .u8 128), .lit (.int .u8 191)], .agg [.lit (.int .u8 160), .lit (.int .u8 191)], .agg [.lit (.int .u8 128), .lit (.int .u8 159)], .agg [.lit (.int .u8 144), .lit (.int .u8 191)], .agg [.lit (.int .u8 128), .lit (.int .u8 143)], .agg [.lit (.int .u8 0), .lit (.int .u8 0)], .agg [.lit (.int .u8 0), .lit (.int .u8 0)], .agg [.lit (.int .u8 0), .lit (.int .u8 0)], .agg [.lit (.int .u8 0), .lit (.int .u8 0)], .agg [.lit (.int .u8 0), .lit (.int .u8 0)], .agg [.lit (.int .u8 0), .lit (.int .u8 0)], .agg [.lit (.int .u8 0), .lit (.int .u8 0)], .agg [.lit (.int .u8 0), .lit (.int .u8 0)], .agg [.lit (.int .u8 0), .lit (.int .u8 0)], .agg [.lit (.int .u8 0), .lit (.int .u8 0)], .agg [.lit (.int .u8 0), .lit (.int .u8 0)]]
/-- One of Go's own tables, pinned by name: the form's constant. -/
def laid_unicode_utf8_first : DataW Unit := Go.Pinned.utf8First

/-- 'mahlsticklaw07.TintTruths': WHATEVER THE INPUT: true; the input reads as it did. -/
def tintTruthsSpec : ChangeSpec := { name := "tintTruths", fn := fun _ => fun
  | [d1, d2, d3] => { results := [.lit (.bool true)], args := [d1, d2, d3] }
  | _ => none }
def tintTruthsRow : OpenClaim := { program := "ytjpekonfjihcoaagreatdoor", sum := "115ca245c2ce8718598374d6d343291ab3e57ba0f00985012de97b86549b722b", func := "mahlstick/mahlsticklaw07.TintTruths", spec := "tintTruths", inPlace := ["internal/bytealg.CountString", "internal/bytealg.IndexByteString", "internal/bytealg.IndexString"], unfollowed := true, recurses := true, named := ["unicode/utf8.first", "unicode/utf8.acceptRanges", "internal/bytealg.MaxLen", "internal/strconv.uint64pow10", "math/bits.deBruijn32tab", "math/bits.deBruijn64tab"], plainKeys := false, apart := false, laid := [("math/bits.deBruijn32tab", laid_math_bits_deBruijn32tab), ("math/bits.deBruijn64tab", laid_math_bits_deBruijn64tab), ("internal/strconv.uint64pow10", laid_internal_strconv_uint64pow10), ("unicode/utf8.acceptRanges", laid_unicode_utf8_acceptRanges), ("unicode/utf8.first", laid_unicode_utf8_first)] }
def TintTruthsSaid : Prop := tintTruthsRow.holds Tryz.pinned (OpenSpec.ofChange tintTruthsSpec)

/-- ITS FALSE NEIGHBOUR: 'it returns false'. Refute it at one input. -/
def tintTruthsWrong : ChangeSpec := { name := "tintTruths", fn := fun _ => fun
  | [d1, d2, d3] => { results := [.lit (.bool false)], args := [d1, d2, d3] }
  | _ => none }
def TintTruthsWrongFalsely : Prop := tintTruthsRow.holds Tryz.pinned (OpenSpec.ofChange tintTruthsWrong)

/-- 'mahlsticklaw07.TintWords': WHATEVER THE INPUT: true; the input reads as it did. -/
def tintWordsSpec : ChangeSpec := { name := "tintWords", fn := fun _ => fun
  | [d1, d2] => { results := [.lit (.bool true)], args := [d1, d2] }
  | _ => none }
def tintWordsRow : OpenClaim := { program := "ytjpekonfjihcoaagreatdoor", sum := "115ca245c2ce8718598374d6d343291ab3e57ba0f00985012de97b86549b722b", func := "mahlstick/mahlsticklaw07.TintWords", spec := "tintWords", inPlace := ["internal/bytealg.CountString", "internal/bytealg.IndexByteString", "internal/bytealg.IndexString"], unfollowed := true, recurses := true, named := ["unicode/utf8.first", "unicode/utf8.acceptRanges", "internal/bytealg.MaxLen", "internal/strconv.uint64pow10", "math/bits.deBruijn32tab", "math/bits.deBruijn64tab"], plainKeys := false, apart := false, laid := [("math/bits.deBruijn32tab", laid_math_bits_deBruijn32tab), ("math/bits.deBruijn64tab", laid_math_bits_deBruijn64tab), ("internal/strconv.uint64pow10", laid_internal_strconv_uint64pow10), ("unicode/utf8.acceptRanges", laid_unicode_utf8_acceptRanges), ("unicode/utf8.first", laid_unicode_utf8_first)] }
def TintWordsSaid : Prop := tintWordsRow.holds Tryz.pinned (OpenSpec.ofChange tintWordsSpec)

/-- ITS FALSE NEIGHBOUR: 'it returns false'. Refute it at one input. -/
def tintWordsWrong : ChangeSpec := { name := "tintWords", fn := fun _ => fun
  | [d1, d2] => { results := [.lit (.bool false)], args := [d1, d2] }
  | _ => none }
def TintWordsWrongFalsely : Prop := tintWordsRow.holds Tryz.pinned (OpenSpec.ofChange tintWordsWrong)

/-- 'mahlsticklaw07.TintTrue': WHATEVER THE INPUT: true; the input reads as it did. -/
def tintTrueSpec : ChangeSpec := { name := "tintTrue", fn := fun _ => fun
  | [d1, d2, d3] => { results := [.lit (.bool true)], args := [d1, d2, d3] }
  | _ => none }
def tintTrueRow : OpenClaim := { program := "ytjpekonfjihcoaagreatdoor", sum := "115ca245c2ce8718598374d6d343291ab3e57ba0f00985012de97b86549b722b", func := "mahlstick/mahlsticklaw07.TintTrue", spec := "tintTrue", inPlace := ["internal/bytealg.CountString", "internal/bytealg.IndexByteString", "internal/bytealg.IndexString"], unfollowed := true, recurses := true, named := ["unicode/utf8.first", "unicode/utf8.acceptRanges", "internal/bytealg.MaxLen", "internal/strconv.uint64pow10", "math/bits.deBruijn32tab", "math/bits.deBruijn64tab"], plainKeys := false, apart := false, laid := [("math/bits.deBruijn32tab", laid_math_bits_deBruijn32tab), ("math/bits.deBruijn64tab", laid_math_bits_deBruijn64tab), ("internal/strconv.uint64pow10", laid_internal_strconv_uint64pow10), ("unicode/utf8.acceptRanges", laid_unicode_utf8_acceptRanges), ("unicode/utf8.first", laid_unicode_utf8_first)] }
def TintTrueSaid : Prop := tintTrueRow.holds Tryz.pinned (OpenSpec.ofChange tintTrueSpec)

/-- ITS FALSE NEIGHBOUR: 'it returns false'. Refute it at one input. -/
def tintTrueWrong : ChangeSpec := { name := "tintTrue", fn := fun _ => fun
  | [d1, d2, d3] => { results := [.lit (.bool false)], args := [d1, d2, d3] }
  | _ => none }
def TintTrueWrongFalsely : Prop := tintTrueRow.holds Tryz.pinned (OpenSpec.ofChange tintTrueWrong)

/-- 'mahlsticklaw07.TintCorners': WHATEVER THE INPUT: true; the input reads as it did. -/
def tintCornersSpec : ChangeSpec := { name := "tintCorners", fn := fun _ => fun
  | [d1, d2] => { results := [.lit (.bool true)], args := [d1, d2] }
  | _ => none }
def tintCornersRow : OpenClaim := { program := "ytjpekonfjihcoaagreatdoor", sum := "115ca245c2ce8718598374d6d343291ab3e57ba0f00985012de97b86549b722b", func := "mahlstick/mahlsticklaw07.TintCorners", spec := "tintCorners", inPlace := ["internal/bytealg.CountString", "internal/bytealg.IndexByteString", "internal/bytealg.IndexString"], unfollowed := true, recurses := true, named := ["unicode/utf8.first", "unicode/utf8.acceptRanges", "internal/bytealg.MaxLen", "internal/strconv.uint64pow10", "math/bits.deBruijn32tab", "math/bits.deBruijn64tab"], plainKeys := false, apart := false, laid := [("math/bits.deBruijn32tab", laid_math_bits_deBruijn32tab), ("math/bits.deBruijn64tab", laid_math_bits_deBruijn64tab), ("internal/strconv.uint64pow10", laid_internal_strconv_uint64pow10), ("unicode/utf8.acceptRanges", laid_unicode_utf8_acceptRanges), ("unicode/utf8.first", laid_unicode_utf8_first)] }
def TintCornersSaid : Prop := tintCornersRow.holds Tryz.pinned (OpenSpec.ofChange tintCornersSpec)

/-- ITS FALSE NEIGHBOUR: 'it returns false'. Refute it at one input. -/
def tintCornersWrong : ChangeSpec := { name := "tintCorners", fn := fun _ => fun
  | [d1, d2] => { results := [.lit (.bool false)], args := [d1, d2] }
  | _ => none }
def TintCornersWrongFalsely : Prop := tintCornersRow.holds Tryz.pinned (OpenSpec.ofChange tintCornersWrong)

/-- 'mahlsticklaw07.TintFirsts': WHATEVER THE INPUT: true; the input reads as it did. -/
def tintFirstsSpec : ChangeSpec := { name := "tintFirsts", fn := fun _ => fun
  | [d] => { results := [.lit (.bool true)], args := [d] }
  | _ => none }
def tintFirstsRow : OpenClaim := { program := "ytjpekonfjihcoaagreatdoor", sum := "115ca245c2ce8718598374d6d343291ab3e57ba0f00985012de97b86549b722b", func := "mahlstick/mahlsticklaw07.TintFirsts", spec := "tintFirsts", inPlace := ["internal/bytealg.CountString", "internal/bytealg.IndexByteString", "internal/bytealg.IndexString"], unfollowed := true, recurses := true, named := ["unicode/utf8.first", "unicode/utf8.acceptRanges", "internal/bytealg.MaxLen", "internal/strconv.uint64pow10", "math/bits.deBruijn32tab", "math/bits.deBruijn64tab"], plainKeys := false, apart := false, laid := [("math/bits.deBruijn32tab", laid_math_bits_deBruijn32tab), ("math/bits.deBruijn64tab", laid_math_bits_deBruijn64tab), ("internal/strconv.uint64pow10", laid_internal_strconv_uint64pow10), ("unicode/utf8.acceptRanges", laid_unicode_utf8_acceptRanges), ("unicode/utf8.first", laid_unicode_utf8_first)] }
def TintFirstsSaid : Prop := tintFirstsRow.holds Tryz.pinned (OpenSpec.ofChange tintFirstsSpec)

/-- ITS FALSE NEIGHBOUR: 'it returns false'. Refute it at one input. -/
def tintFirstsWrong : ChangeSpec := { name := "tintFirsts", fn := fun _ => fun
  | [d] => { results := [.lit (.bool false)], args := [d] }
  | _ => none }
def TintFirstsWrongFalsely : Prop := tintFirstsRow.holds Tryz.pinned (OpenSpec.ofChange tintFirstsWrong)

/-- 'mahlsticklaw07.TintRival': WHATEVER THE INPUT: true; the input reads as it did. -/
def tintRivalSpec : ChangeSpec := { name := "tintRival", fn := fun _ => fun
  | [d1, d2] => { results := [.lit (.bool true)], args := [d1, d2] }
  | _ => none }
def tintRivalRow : OpenClaim := { program := "ytjpekonfjihcoaagreatdoor", sum := "115ca245c2ce8718598374d6d343291ab3e57ba0f00985012de97b86549b722b", func := "mahlstick/mahlsticklaw07.TintRival", spec := "tintRival", inPlace := ["internal/bytealg.CountString", "internal/bytealg.IndexByteString", "internal/bytealg.IndexString"], unfollowed := true, recurses := true, named := ["unicode/utf8.first", "unicode/utf8.acceptRanges", "internal/bytealg.MaxLen", "internal/strconv.uint64pow10", "math/bits.deBruijn32tab", "math/bits.deBruijn64tab"], plainKeys := false, apart := false, laid := [("math/bits.deBruijn32tab", laid_math_bits_deBruijn32tab), ("math/bits.deBruijn64tab", laid_math_bits_deBruijn64tab), ("internal/strconv.uint64pow10", laid_internal_strconv_uint64pow10), ("unicode/utf8.acceptRanges", laid_unicode_utf8_acceptRanges), ("unicode/utf8.first", laid_unicode_utf8_first)] }
def TintRivalSaid : Prop := tintRivalRow.holds Tryz.pinned (OpenSpec.ofChange tintRivalSpec)

/-- ITS FALSE NEIGHBOUR: 'it returns false'. Refute it at one input. -/
def tintRivalWrong : ChangeSpec := { name := "tintRival", fn := fun _ => fun
  | [d1, d2] => { results := [.lit (.bool false)], args := [d1, d2] }
  | _ => none }
def TintRivalWrongFalsely : Prop := tintRivalRow.holds Tryz.pinned (OpenSpec.ofChange tintRivalWrong)

/-- 'mahlsticklaw07.TintNears': WHATEVER THE INPUT: true; the input reads as it did. -/
def tintNearsSpec : ChangeSpec := { name := "tintNears", fn := fun _ => fun
  | [d] => { results := [.lit (.bool true)], args := [d] }
  | _ => none }
def tintNearsRow : OpenClaim := { program := "ytjpekonfjihcoaagreatdoor", sum := "115ca245c2ce8718598374d6d343291ab3e57ba0f00985012de97b86549b722b", func := "mahlstick/mahlsticklaw07.TintNears", spec := "tintNears", inPlace := ["internal/bytealg.CountString", "internal/bytealg.IndexByteString", "internal/bytealg.IndexString"], unfollowed := true, recurses := true, named := ["unicode/utf8.first", "unicode/utf8.acceptRanges", "internal/bytealg.MaxLen", "internal/strconv.uint64pow10", "math/bits.deBruijn32tab", "math/bits.deBruijn64tab"], plainKeys := false, apart := false, laid := [("math/bits.deBruijn32tab", laid_math_bits_deBruijn32tab), ("math/bits.deBruijn64tab", laid_math_bits_deBruijn64tab), ("internal/strconv.uint64pow10", laid_internal_strconv_uint64pow10), ("unicode/utf8.acceptRanges", laid_unicode_utf8_acceptRanges), ("unicode/utf8.first", laid_unicode_utf8_first)] }
def TintNearsSaid : Prop := tintNearsRow.holds Tryz.pinned (OpenSpec.ofChange tintNearsSpec)

/-- ITS FALSE NEIGHBOUR: 'it returns false'. Refute it at one input. -/
def tintNearsWrong : ChangeSpec := { name := "tintNears", fn := fun _ => fun
  | [d] => { results := [.lit (.bool false)], args := [d] }
  | _ => none }
def TintNearsWrongFalsely : Prop := tintNearsRow.holds Tryz.pinned (OpenSpec.ofChange tintNearsWrong)

/-- 'mahlsticklaw07.TintNearer': WHATEVER THE INPUT: true; the input reads as it did. -/
def tintNearerSpec : ChangeSpec := { name := "tintNearer", fn := fun _ => fun
  | [d1, d2, d3] => { results := [.lit (.bool true)], args := [d1, d2, d3] }
  | _ => none }
def tintNearerRow : OpenClaim := { program := "ytjpekonfjihcoaagreatdoor", sum := "115ca245c2ce8718598374d6d343291ab3e57ba0f00985012de97b86549b722b", func := "mahlstick/mahlsticklaw07.TintNearer", spec := "tintNearer", inPlace := ["internal/bytealg.CountString", "internal/bytealg.IndexByteString", "internal/bytealg.IndexString"], unfollowed := true, recurses := true, named := ["unicode/utf8.first", "unicode/utf8.acceptRanges", "internal/bytealg.MaxLen", "internal/strconv.uint64pow10", "math/bits.deBruijn32tab", "math/bits.deBruijn64tab"], plainKeys := false, apart := false, laid := [("math/bits.deBruijn32tab", laid_math_bits_deBruijn32tab), ("math/bits.deBruijn64tab", laid_math_bits_deBruijn64tab), ("internal/strconv.uint64pow10", laid_internal_strconv_uint64pow10), ("unicode/utf8.acceptRanges", laid_unicode_utf8_acceptRanges), ("unicode/utf8.first", laid_unicode_utf8_first)] }
def TintNearerSaid : Prop := tintNearerRow.holds Tryz.pinned (OpenSpec.ofChange tintNearerSpec)

/-- ITS FALSE NEIGHBOUR: 'it returns false'. Refute it at one input. -/
def tintNearerWrong : ChangeSpec := { name := "tintNearer", fn := fun _ => fun
  | [d1, d2, d3] => { results := [.lit (.bool false)], args := [d1, d2, d3] }
  | _ => none }
def TintNearerWrongFalsely : Prop := tintNearerRow.holds Tryz.pinned (OpenSpec.ofChange tintNearerWrong)

/-- 'mahlsticklaw07.TintNeeds': WHATEVER THE INPUT: true; the input reads as it did. -/
def tintNeedsSpec : ChangeSpec := { name := "tintNeeds", fn := fun _ => fun
  | [d] => { results := [.lit (.bool true)], args := [d] }
  | _ => none }
def tintNeedsRow : OpenClaim := { program := "ytjpekonfjihcoaagreatdoor", sum := "115ca245c2ce8718598374d6d343291ab3e57ba0f00985012de97b86549b722b", func := "mahlstick/mahlsticklaw07.TintNeeds", spec := "tintNeeds", inPlace := ["internal/bytealg.CountString", "internal/bytealg.IndexByteString", "internal/bytealg.IndexString"], unfollowed := true, recurses := true, named := ["unicode/utf8.first", "unicode/utf8.acceptRanges", "internal/bytealg.MaxLen", "internal/strconv.uint64pow10", "math/bits.deBruijn32tab", "math/bits.deBruijn64tab"], plainKeys := false, apart := false, laid := [("math/bits.deBruijn32tab", laid_math_bits_deBruijn32tab), ("math/bits.deBruijn64tab", laid_math_bits_deBruijn64tab), ("internal/strconv.uint64pow10", laid_internal_strconv_uint64pow10), ("unicode/utf8.acceptRanges", laid_unicode_utf8_acceptRanges), ("unicode/utf8.first", laid_unicode_utf8_first)] }
def TintNeedsSaid : Prop := tintNeedsRow.holds Tryz.pinned (OpenSpec.ofChange tintNeedsSpec)

/-- ITS FALSE NEIGHBOUR: 'it returns false'. Refute it at one input. -/
def tintNeedsWrong : ChangeSpec := { name := "tintNeeds", fn := fun _ => fun
  | [d] => { results := [.lit (.bool false)], args := [d] }
  | _ => none }
def TintNeedsWrongFalsely : Prop := tintNeedsRow.holds Tryz.pinned (OpenSpec.ofChange tintNeedsWrong)

/-- 'mahlsticklaw07.TintEnough': WHATEVER THE INPUT: true; the input reads as it did. -/
def tintEnoughSpec : ChangeSpec := { name := "tintEnough", fn := fun _ => fun
  | [d1, d2] => { results := [.lit (.bool true)], args := [d1, d2] }
  | _ => none }
def tintEnoughRow : OpenClaim := { program := "ytjpekonfjihcoaagreatdoor", sum := "115ca245c2ce8718598374d6d343291ab3e57ba0f00985012de97b86549b722b", func := "mahlstick/mahlsticklaw07.TintEnough", spec := "tintEnough", inPlace := ["internal/bytealg.CountString", "internal/bytealg.IndexByteString", "internal/bytealg.IndexString"], unfollowed := true, recurses := true, named := ["unicode/utf8.first", "unicode/utf8.acceptRanges", "internal/bytealg.MaxLen", "internal/strconv.uint64pow10", "math/bits.deBruijn32tab", "math/bits.deBruijn64tab"], plainKeys := false, apart := false, laid := [("math/bits.deBruijn32tab", laid_math_bits_deBruijn32tab), ("math/bits.deBruijn64tab", laid_math_bits_deBruijn64tab), ("internal/strconv.uint64pow10", laid_internal_strconv_uint64pow10), ("unicode/utf8.acceptRanges", laid_unicode_utf8_acceptRanges), ("unicode/utf8.first", laid_unicode_utf8_first)] }
def TintEnoughSaid : Prop := tintEnoughRow.holds Tryz.pinned (OpenSpec.ofChange tintEnoughSpec)

/-- ITS FALSE NEIGHBOUR: 'it returns false'. Refute it at one input. -/
def tintEnoughWrong : ChangeSpec := { name := "tintEnough", fn := fun _ => fun
  | [d1, d2] => { results := [.lit (.bool false)], args := [d1, d2] }
  | _ => none }
def TintEnoughWrongFalsely : Prop := tintEnoughRow.holds Tryz.pinned (OpenSpec.ofChange tintEnoughWrong)

/-- 'mahlsticklaw07.TintProofs': WHATEVER THE INPUT: true; the input reads as it did. -/
def tintProofsSpec : ChangeSpec := { name := "tintProofs", fn := fun _ => fun
  | [d] => { results := [.lit (.bool true)], args := [d] }
  | _ => none }
def tintProofsRow : OpenClaim := { program := "ytjpekonfjihcoaagreatdoor", sum := "115ca245c2ce8718598374d6d343291ab3e57ba0f00985012de97b86549b722b", func := "mahlstick/mahlsticklaw07.TintProofs", spec := "tintProofs", inPlace := ["internal/bytealg.CountString", "internal/bytealg.IndexByteString", "internal/bytealg.IndexString"], unfollowed := true, recurses := true, named := ["unicode/utf8.first", "unicode/utf8.acceptRanges", "internal/bytealg.MaxLen", "internal/strconv.uint64pow10", "math/bits.deBruijn32tab", "math/bits.deBruijn64tab"], plainKeys := false, apart := false, laid := [("math/bits.deBruijn32tab", laid_math_bits_deBruijn32tab), ("math/bits.deBruijn64tab", laid_math_bits_deBruijn64tab), ("internal/strconv.uint64pow10", laid_internal_strconv_uint64pow10), ("unicode/utf8.acceptRanges", laid_unicode_utf8_acceptRanges), ("unicode/utf8.first", laid_unicode_utf8_first)] }
def TintProofsSaid : Prop := tintProofsRow.holds Tryz.pinned (OpenSpec.ofChange tintProofsSpec)

/-- ITS FALSE NEIGHBOUR: 'it returns false'. Refute it at one input. -/
def tintProofsWrong : ChangeSpec := { name := "tintProofs", fn := fun _ => fun
  | [d] => { results := [.lit (.bool false)], args := [d] }
  | _ => none }
def TintProofsWrongFalsely : Prop := tintProofsRow.holds Tryz.pinned (OpenSpec.ofChange tintProofsWrong)

/-- 'mahlsticklaw07.TintProved': WHATEVER THE INPUT: true; the input reads as it did. -/
def tintProvedSpec : ChangeSpec := { name := "tintProved", fn := fun _ => fun
  | [d1, d2, d3, d4] => { results := [.lit (.bool true)], args := [d1, d2, d3, d4] }
  | _ => none }
def tintProvedRow : OpenClaim := { program := "ytjpekonfjihcoaagreatdoor", sum := "115ca245c2ce8718598374d6d343291ab3e57ba0f00985012de97b86549b722b", func := "mahlstick/mahlsticklaw07.TintProved", spec := "tintProved", inPlace := ["internal/bytealg.CountString", "internal/bytealg.IndexByteString", "internal/bytealg.IndexString"], unfollowed := true, recurses := true, named := ["unicode/utf8.first", "unicode/utf8.acceptRanges", "internal/bytealg.MaxLen", "internal/strconv.uint64pow10", "math/bits.deBruijn32tab", "math/bits.deBruijn64tab"], plainKeys := false, apart := false, laid := [("math/bits.deBruijn32tab", laid_math_bits_deBruijn32tab), ("math/bits.deBruijn64tab", laid_math_bits_deBruijn64tab), ("internal/strconv.uint64pow10", laid_internal_strconv_uint64pow10), ("unicode/utf8.acceptRanges", laid_unicode_utf8_acceptRanges), ("unicode/utf8.first", laid_unicode_utf8_first)] }
def TintProvedSaid : Prop := tintProvedRow.holds Tryz.pinned (OpenSpec.ofChange tintProvedSpec)

/-- ITS FALSE NEIGHBOUR: 'it returns false'. Refute it at one input. -/
def tintProvedWrong : ChangeSpec := { name := "tintProved", fn := fun _ => fun
  | [d1, d2, d3, d4] => { results := [.lit (.bool false)], args := [d1, d2, d3, d4] }
  | _ => none }
def TintProvedWrongFalsely : Prop := tintProvedRow.holds Tryz.pinned (OpenSpec.ofChange tintProvedWrong)

/-- 'mahlsticklaw07.TintMade': WHATEVER THE INPUT: true; the input reads as it did. -/
def tintMadeSpec : ChangeSpec := { name := "tintMade", fn := fun _ => fun
  | [d1, d2, d3, d4] => { results := [.lit (.bool true)], args := [d1, d2, d3, d4] }
  | _ => none }
def tintMadeRow : OpenClaim := { program := "ytjpekonfjihcoaagreatdoor", sum := "115ca245c2ce8718598374d6d343291ab3e57ba0f00985012de97b86549b722b", func := "mahlstick/mahlsticklaw07.TintMade", spec := "tintMade", inPlace := ["internal/bytealg.CountString", "internal/bytealg.IndexByteString", "internal/bytealg.IndexString"], unfollowed := true, recurses := true, named := ["unicode/utf8.first", "unicode/utf8.acceptRanges", "internal/bytealg.MaxLen", "internal/strconv.uint64pow10", "math/bits.deBruijn32tab", "math/bits.deBruijn64tab"], plainKeys := false, apart := false, laid := [("math/bits.deBruijn32tab", laid_math_bits_deBruijn32tab), ("math/bits.deBruijn64tab", laid_math_bits_deBruijn64tab), ("internal/strconv.uint64pow10", laid_internal_strconv_uint64pow10), ("unicode/utf8.acceptRanges", laid_unicode_utf8_acceptRanges), ("unicode/utf8.first", laid_unicode_utf8_first)] }
def TintMadeSaid : Prop := tintMadeRow.holds Tryz.pinned (OpenSpec.ofChange tintMadeSpec)

/-- ITS FALSE NEIGHBOUR: 'it returns false'. Refute it at one input. -/
def tintMadeWrong : ChangeSpec := { name := "tintMade", fn := fun _ => fun
  | [d1, d2, d3, d4] => { results := [.lit (.bool false)], args := [d1, d2, d3, d4] }
  | _ => none }
def TintMadeWrongFalsely : Prop := tintMadeRow.holds Tryz.pinned (OpenSpec.ofChange tintMadeWrong)

/-- 'mahlsticklaw07.TintMore': WHATEVER THE INPUT: true; the input reads as it did. -/
def tintMoreSpec : ChangeSpec := { name := "tintMore", fn := fun _ => fun
  | [d1, d2, d3, d4, d5, d6, d7, d8, d9] => { results := [.lit (.bool true)], args := [d1, d2, d3, d4, d5, d6, d7, d8, d9] }
  | _ => none }
def tintMoreRow : OpenClaim := { program := "ytjpekonfjihcoaagreatdoor", sum := "115ca245c2ce8718598374d6d343291ab3e57ba0f00985012de97b86549b722b", func := "mahlstick/mahlsticklaw07.TintMore", spec := "tintMore", inPlace := ["internal/bytealg.CountString", "internal/bytealg.IndexByteString", "internal/bytealg.IndexString"], unfollowed := true, recurses := true, named := ["unicode/utf8.first", "unicode/utf8.acceptRanges", "internal/bytealg.MaxLen", "internal/strconv.uint64pow10", "math/bits.deBruijn32tab", "math/bits.deBruijn64tab"], plainKeys := false, apart := false, laid := [("math/bits.deBruijn32tab", laid_math_bits_deBruijn32tab), ("math/bits.deBruijn64tab", laid_math_bits_deBruijn64tab), ("internal/strconv.uint64pow10", laid_internal_strconv_uint64pow10), ("unicode/utf8.acceptRanges", laid_unicode_utf8_acceptRanges), ("unicode/utf8.first", laid_unicode_utf8_first)] }
def TintMoreSaid : Prop := tintMoreRow.holds Tryz.pinned (OpenSpec.ofChange tintMoreSpec)

/-- ITS FALSE NEIGHBOUR: 'it returns false'. Refute it at one input. -/
def tintMoreWrong : ChangeSpec := { name := "tintMore", fn := fun _ => fun
  | [d1, d2, d3, d4, d5, d6, d7, d8, d9] => { results := [.lit (.bool false)], args := [d1, d2, d3, d4, d5, d6, d7, d8, d9] }
  | _ => none }
def TintMoreWrongFalsely : Prop := tintMoreRow.holds Tryz.pinned (OpenSpec.ofChange tintMoreWrong)

/-- 'mahlsticklaw07.TintSums': WHATEVER THE INPUT: true; the input reads as it did. -/
def tintSumsSpec : ChangeSpec := { name := "tintSums", fn := fun _ => fun
  | [d1, d2] => { results := [.lit (.bool true)], args := [d1, d2] }
  | _ => none }
def tintSumsRow : OpenClaim := { program := "ytjpekonfjihcoaagreatdoor", sum := "115ca245c2ce8718598374d6d343291ab3e57ba0f00985012de97b86549b722b", func := "mahlstick/mahlsticklaw07.TintSums", spec := "tintSums", inPlace := ["internal/bytealg.CountString", "internal/bytealg.IndexByteString", "internal/bytealg.IndexString"], unfollowed := true, recurses := true, named := ["unicode/utf8.first", "unicode/utf8.acceptRanges", "internal/bytealg.MaxLen", "internal/strconv.uint64pow10", "math/bits.deBruijn32tab", "math/bits.deBruijn64tab"], plainKeys := false, apart := false, laid := [("math/bits.deBruijn32tab", laid_math_bits_deBruijn32tab), ("math/bits.deBruijn64tab", laid_math_bits_deBruijn64tab), ("internal/strconv.uint64pow10", laid_internal_strconv_uint64pow10), ("unicode/utf8.acceptRanges", laid_unicode_utf8_acceptRanges), ("unicode/utf8.first", laid_unicode_utf8_first)] }
def TintSumsSaid : Prop := tintSumsRow.holds Tryz.pinned (OpenSpec.ofChange tintSumsSpec)

/-- ITS FALSE NEIGHBOUR: 'it returns false'. Refute it at one input. -/
def tintSumsWrong : ChangeSpec := { name := "tintSums", fn := fun _ => fun
  | [d1, d2] => { results := [.lit (.bool false)], args := [d1, d2] }
  | _ => none }
def TintSumsWrongFalsely : Prop := tintSumsRow.holds Tryz.pinned (OpenSpec.ofChange tintSumsWrong)

/-- 'mahlsticklaw07.TintPrints': WHATEVER THE INPUT: true; the input reads as it did. -/
def tintPrintsSpec : ChangeSpec := { name := "tintPrints", fn := fun _ => fun
  | [d] => { results := [.lit (.bool true)], args := [d] }
  | _ => none }
def tintPrintsRow : OpenClaim := { program := "ytjpekonfjihcoaagreatdoor", sum := "115ca245c2ce8718598374d6d343291ab3e57ba0f00985012de97b86549b722b", func := "mahlstick/mahlsticklaw07.TintPrints", spec := "tintPrints", inPlace := ["internal/bytealg.CountString", "internal/bytealg.IndexByteString", "internal/bytealg.IndexString"], unfollowed := true, recurses := true, named := ["unicode/utf8.first", "unicode/utf8.acceptRanges", "internal/bytealg.MaxLen", "internal/strconv.uint64pow10", "math/bits.deBruijn32tab", "math/bits.deBruijn64tab"], plainKeys := false, apart := false, laid := [("math/bits.deBruijn32tab", laid_math_bits_deBruijn32tab), ("math/bits.deBruijn64tab", laid_math_bits_deBruijn64tab), ("internal/strconv.uint64pow10", laid_internal_strconv_uint64pow10), ("unicode/utf8.acceptRanges", laid_unicode_utf8_acceptRanges), ("unicode/utf8.first", laid_unicode_utf8_first)] }
def TintPrintsSaid : Prop := tintPrintsRow.holds Tryz.pinned (OpenSpec.ofChange tintPrintsSpec)

/-- ITS FALSE NEIGHBOUR: 'it returns false'. Refute it at one input. -/
def tintPrintsWrong : ChangeSpec := { name := "tintPrints", fn := fun _ => fun
  | [d] => { results := [.lit (.bool false)], args := [d] }
  | _ => none }
def TintPrintsWrongFalsely : Prop := tintPrintsRow.holds Tryz.pinned (OpenSpec.ofChange tintPrintsWrong)

/-- 'mahlsticklaw07.TintReads': WHATEVER THE INPUT: true; the input reads as it did. -/
def tintReadsSpec : ChangeSpec := { name := "tintReads", fn := fun _ => fun
  | [d] => { results := [.lit (.bool true)], args := [d] }
  | _ => none }
def tintReadsRow : OpenClaim := { program := "ytjpekonfjihcoaagreatdoor", sum := "115ca245c2ce8718598374d6d343291ab3e57ba0f00985012de97b86549b722b", func := "mahlstick/mahlsticklaw07.TintReads", spec := "tintReads", inPlace := ["internal/bytealg.CountString", "internal/bytealg.IndexByteString", "internal/bytealg.IndexString"], unfollowed := true, recurses := true, named := ["unicode/utf8.first", "unicode/utf8.acceptRanges", "internal/bytealg.MaxLen", "internal/strconv.uint64pow10", "math/bits.deBruijn32tab", "math/bits.deBruijn64tab"], plainKeys := false, apart := false, laid := [("math/bits.deBruijn32tab", laid_math_bits_deBruijn32tab), ("math/bits.deBruijn64tab", laid_math_bits_deBruijn64tab), ("internal/strconv.uint64pow10", laid_internal_strconv_uint64pow10), ("unicode/utf8.acceptRanges", laid_unicode_utf8_acceptRanges), ("unicode/utf8.first", laid_unicode_utf8_first)] }
def TintReadsSaid : Prop := tintReadsRow.holds Tryz.pinned (OpenSpec.ofChange tintReadsSpec)

/-- ITS FALSE NEIGHBOUR: 'it returns false'. Refute it at one input. -/
def tintReadsWrong : ChangeSpec := { name := "tintReads", fn := fun _ => fun
  | [d] => { results := [.lit (.bool false)], args := [d] }
  | _ => none }
def TintReadsWrongFalsely : Prop := tintReadsRow.holds Tryz.pinned (OpenSpec.ofChange tintReadsWrong)

/-- 'mahlsticklaw07.TintSpoilt': WHATEVER THE INPUT: true; the input reads as it did. -/
def tintSpoiltSpec : ChangeSpec := { name := "tintSpoilt", fn := fun _ => fun
  | [d1, d2, d3] => { results := [.lit (.bool true)], args := [d1, d2, d3] }
  | _ => none }
def tintSpoiltRow : OpenClaim := { program := "ytjpekonfjihcoaagreatdoor", sum := "115ca245c2ce8718598374d6d343291ab3e57ba0f00985012de97b86549b722b", func := "mahlstick/mahlsticklaw07.TintSpoilt", spec := "tintSpoilt", inPlace := ["internal/bytealg.CountString", "internal/bytealg.IndexByteString", "internal/bytealg.IndexString"], unfollowed := true, recurses := true, named := ["unicode/utf8.first", "unicode/utf8.acceptRanges", "internal/bytealg.MaxLen", "internal/strconv.uint64pow10", "math/bits.deBruijn32tab", "math/bits.deBruijn64tab"], plainKeys := false, apart := false, laid := [("math/bits.deBruijn32tab", laid_math_bits_deBruijn32tab), ("math/bits.deBruijn64tab", laid_math_bits_deBruijn64tab), ("internal/strconv.uint64pow10", laid_internal_strconv_uint64pow10), ("unicode/utf8.acceptRanges", laid_unicode_utf8_acceptRanges), ("unicode/utf8.first", laid_unicode_utf8_first)] }
def TintSpoiltSaid : Prop := tintSpoiltRow.holds Tryz.pinned (OpenSpec.ofChange tintSpoiltSpec)

/-- ITS FALSE NEIGHBOUR: 'it returns false'. Refute it at one input. -/
def tintSpoiltWrong : ChangeSpec := { name := "tintSpoilt", fn := fun _ => fun
  | [d1, d2, d3] => { results := [.lit (.bool false)], args := [d1, d2, d3] }
  | _ => none }
def TintSpoiltWrongFalsely : Prop := tintSpoiltRow.holds Tryz.pinned (OpenSpec.ofChange tintSpoiltWrong)

/- THE SECOND FORM. 'bulk': how many values and letters a reading holds, each counted each time it is reached (what is shared counts as often as it is met; a slice's spare places count too). A statement '..UptoSaid' is the law's where the arguments, and the package variables that the reading takes, are together of bulk at most 1048576: NARROWER than '..Said'. Prove '..Said' where nothing that the law and all that it calls make is longer than what came in: it says more and counts as full. Else prove '..UptoSaid'. A law counts once. -/
mutual
def uptoBulk {H : Type} : DataW H → Nat
  | .lit (.string bytes) => bytes.length + 1
  | .lit _ => 1
  | .nil => 1
  | .ptr d => uptoBulk d + 1
  | .slice elems spare => uptoBulkAll elems + uptoBulkAll spare + 1
  | .agg parts => uptoBulkAll parts + 1
  | .iface _ d => uptoBulk d + 1
  | .map entries => uptoBulkEntries entries + 1
  | .held _ => 1
def uptoBulkAll {H : Type} : List (DataW H) → Nat
  | [] => 0
  | d :: r => uptoBulk d + uptoBulkAll r
def uptoBulkEntries {H : Type} : List (Lit × DataW H) → Nat
  | [] => 0
  | x :: r => uptoBulkEntry x + uptoBulkEntries r
def uptoBulkEntry {H : Type} : Lit × DataW H → Nat
  | (.string bytes, d) => bytes.length + uptoBulk d + 1
  | (_, d) => uptoBulk d + 1
 end
def uptoSmall : (H : Type) → List (DataW H) → Bool := fun _ ds => decide (uptoBulkAll ds ≤ 1048576)
def OpenSpec.upto (s : _root_.Go.ChangeSpec) : _root_.Go.OpenSpec := { _root_.Go.OpenSpec.ofChange s with cond := some uptoSmall }

/-- 'mahlsticklaw07.TintTruths', WHERE WHAT IT READS IS OF BULK AT MOST 1048576: true; the input reads as it did. -/
def tintTruthsUptoRow : OpenClaim := { program := "ytjpekonfjihcoaagreatdoor", sum := "115ca245c2ce8718598374d6d343291ab3e57ba0f00985012de97b86549b722b", func := "mahlstick/mahlsticklaw07.TintTruths", spec := "tintTruths", inPlace := ["internal/bytealg.CountString", "internal/bytealg.IndexByteString", "internal/bytealg.IndexString"], unfollowed := true, recurses := true, named := ["unicode/utf8.first", "unicode/utf8.acceptRanges", "internal/bytealg.MaxLen", "internal/strconv.uint64pow10", "math/bits.deBruijn32tab", "math/bits.deBruijn64tab"], plainKeys := false, apart := false, laid := [("math/bits.deBruijn32tab", laid_math_bits_deBruijn32tab), ("math/bits.deBruijn64tab", laid_math_bits_deBruijn64tab), ("internal/strconv.uint64pow10", laid_internal_strconv_uint64pow10), ("unicode/utf8.acceptRanges", laid_unicode_utf8_acceptRanges), ("unicode/utf8.first", laid_unicode_utf8_first)], narrowed := true }
def TintTruthsUptoSaid : Prop := tintTruthsUptoRow.holds Tryz.pinned (OpenSpec.upto tintTruthsSpec)

/-- 'mahlsticklaw07.TintWords', WHERE WHAT IT READS IS OF BULK AT MOST 1048576: true; the input reads as it did. -/
def tintWordsUptoRow : OpenClaim := { program := "ytjpekonfjihcoaagreatdoor", sum := "115ca245c2ce8718598374d6d343291ab3e57ba0f00985012de97b86549b722b", func := "mahlstick/mahlsticklaw07.TintWords", spec := "tintWords", inPlace := ["internal/bytealg.CountString", "internal/bytealg.IndexByteString", "internal/bytealg.IndexString"], unfollowed := true, recurses := true, named := ["unicode/utf8.first", "unicode/utf8.acceptRanges", "internal/bytealg.MaxLen", "internal/strconv.uint64pow10", "math/bits.deBruijn32tab", "math/bits.deBruijn64tab"], plainKeys := false, apart := false, laid := [("math/bits.deBruijn32tab", laid_math_bits_deBruijn32tab), ("math/bits.deBruijn64tab", laid_math_bits_deBruijn64tab), ("internal/strconv.uint64pow10", laid_internal_strconv_uint64pow10), ("unicode/utf8.acceptRanges", laid_unicode_utf8_acceptRanges), ("unicode/utf8.first", laid_unicode_utf8_first)], narrowed := true }
def TintWordsUptoSaid : Prop := tintWordsUptoRow.holds Tryz.pinned (OpenSpec.upto tintWordsSpec)

/-- 'mahlsticklaw07.TintTrue', WHERE WHAT IT READS IS OF BULK AT MOST 1048576: true; the input reads as it did. -/
def tintTrueUptoRow : OpenClaim := { program := "ytjpekonfjihcoaagreatdoor", sum := "115ca245c2ce8718598374d6d343291ab3e57ba0f00985012de97b86549b722b", func := "mahlstick/mahlsticklaw07.TintTrue", spec := "tintTrue", inPlace := ["internal/bytealg.CountString", "internal/bytealg.IndexByteString", "internal/bytealg.IndexString"], unfollowed := true, recurses := true, named := ["unicode/utf8.first", "unicode/utf8.acceptRanges", "internal/bytealg.MaxLen", "internal/strconv.uint64pow10", "math/bits.deBruijn32tab", "math/bits.deBruijn64tab"], plainKeys := false, apart := false, laid := [("math/bits.deBruijn32tab", laid_math_bits_deBruijn32tab), ("math/bits.deBruijn64tab", laid_math_bits_deBruijn64tab), ("internal/strconv.uint64pow10", laid_internal_strconv_uint64pow10), ("unicode/utf8.acceptRanges", laid_unicode_utf8_acceptRanges), ("unicode/utf8.first", laid_unicode_utf8_first)], narrowed := true }
def TintTrueUptoSaid : Prop := tintTrueUptoRow.holds Tryz.pinned (OpenSpec.upto tintTrueSpec)

/-- 'mahlsticklaw07.TintCorners', WHERE WHAT IT READS IS OF BULK AT MOST 1048576: true; the input reads as it did. -/
def tintCornersUptoRow : OpenClaim := { program := "ytjpekonfjihcoaagreatdoor", sum := "115ca245c2ce8718598374d6d343291ab3e57ba0f00985012de97b86549b722b", func := "mahlstick/mahlsticklaw07.TintCorners", spec := "tintCorners", inPlace := ["internal/bytealg.CountString", "internal/bytealg.IndexByteString", "internal/bytealg.IndexString"], unfollowed := true, recurses := true, named := ["unicode/utf8.first", "unicode/utf8.acceptRanges", "internal/bytealg.MaxLen", "internal/strconv.uint64pow10", "math/bits.deBruijn32tab", "math/bits.deBruijn64tab"], plainKeys := false, apart := false, laid := [("math/bits.deBruijn32tab", laid_math_bits_deBruijn32tab), ("math/bits.deBruijn64tab", laid_math_bits_deBruijn64tab), ("internal/strconv.uint64pow10", laid_internal_strconv_uint64pow10), ("unicode/utf8.acceptRanges", laid_unicode_utf8_acceptRanges), ("unicode/utf8.first", laid_unicode_utf8_first)], narrowed := true }
def TintCornersUptoSaid : Prop := tintCornersUptoRow.holds Tryz.pinned (OpenSpec.upto tintCornersSpec)

/-- 'mahlsticklaw07.TintFirsts', WHERE WHAT IT READS IS OF BULK AT MOST 1048576: true; the input reads as it did. -/
def tintFirstsUptoRow : OpenClaim := { program := "ytjpekonfjihcoaagreatdoor", sum := "115ca245c2ce8718598374d6d343291ab3e57ba0f00985012de97b86549b722b", func := "mahlstick/mahlsticklaw07.TintFirsts", spec := "tintFirsts", inPlace := ["internal/bytealg.CountString", "internal/bytealg.IndexByteString", "internal/bytealg.IndexString"], unfollowed := true, recurses := true, named := ["unicode/utf8.first", "unicode/utf8.acceptRanges", "internal/bytealg.MaxLen", "internal/strconv.uint64pow10", "math/bits.deBruijn32tab", "math/bits.deBruijn64tab"], plainKeys := false, apart := false, laid := [("math/bits.deBruijn32tab", laid_math_bits_deBruijn32tab), ("math/bits.deBruijn64tab", laid_math_bits_deBruijn64tab), ("internal/strconv.uint64pow10", laid_internal_strconv_uint64pow10), ("unicode/utf8.acceptRanges", laid_unicode_utf8_acceptRanges), ("unicode/utf8.first", laid_unicode_utf8_first)], narrowed := true }
def TintFirstsUptoSaid : Prop := tintFirstsUptoRow.holds Tryz.pinned (OpenSpec.upto tintFirstsSpec)

/-- 'mahlsticklaw07.TintRival', WHERE WHAT IT READS IS OF BULK AT MOST 1048576: true; the input reads as it did. -/
def tintRivalUptoRow : OpenClaim := { program := "ytjpekonfjihcoaagreatdoor", sum := "115ca245c2ce8718598374d6d343291ab3e57ba0f00985012de97b86549b722b", func := "mahlstick/mahlsticklaw07.TintRival", spec := "tintRival", inPlace := ["internal/bytealg.CountString", "internal/bytealg.IndexByteString", "internal/bytealg.IndexString"], unfollowed := true, recurses := true, named := ["unicode/utf8.first", "unicode/utf8.acceptRanges", "internal/bytealg.MaxLen", "internal/strconv.uint64pow10", "math/bits.deBruijn32tab", "math/bits.deBruijn64tab"], plainKeys := false, apart := false, laid := [("math/bits.deBruijn32tab", laid_math_bits_deBruijn32tab), ("math/bits.deBruijn64tab", laid_math_bits_deBruijn64tab), ("internal/strconv.uint64pow10", laid_internal_strconv_uint64pow10), ("unicode/utf8.acceptRanges", laid_unicode_utf8_acceptRanges), ("unicode/utf8.first", laid_unicode_utf8_first)], narrowed := true }
def TintRivalUptoSaid : Prop := tintRivalUptoRow.holds Tryz.pinned (OpenSpec.upto tintRivalSpec)

/-- 'mahlsticklaw07.TintNears', WHERE WHAT IT READS IS OF BULK AT MOST 1048576: true; the input reads as it did. -/
def tintNearsUptoRow : OpenClaim := { program := "ytjpekonfjihcoaagreatdoor", sum := "115ca245c2ce8718598374d6d343291ab3e57ba0f00985012de97b86549b722b", func := "mahlstick/mahlsticklaw07.TintNears", spec := "tintNears", inPlace := ["internal/bytealg.CountString", "internal/bytealg.IndexByteString", "internal/bytealg.IndexString"], unfollowed := true, recurses := true, named := ["unicode/utf8.first", "unicode/utf8.acceptRanges", "internal/bytealg.MaxLen", "internal/strconv.uint64pow10", "math/bits.deBruijn32tab", "math/bits.deBruijn64tab"], plainKeys := false, apart := false, laid := [("math/bits.deBruijn32tab", laid_math_bits_deBruijn32tab), ("math/bits.deBruijn64tab", laid_math_bits_deBruijn64tab), ("internal/strconv.uint64pow10", laid_internal_strconv_uint64pow10), ("unicode/utf8.acceptRanges", laid_unicode_utf8_acceptRanges), ("unicode/utf8.first", laid_unicode_utf8_first)], narrowed := true }
def TintNearsUptoSaid : Prop := tintNearsUptoRow.holds Tryz.pinned (OpenSpec.upto tintNearsSpec)

/-- 'mahlsticklaw07.TintNearer', WHERE WHAT IT READS IS OF BULK AT MOST 1048576: true; the input reads as it did. -/
def tintNearerUptoRow : OpenClaim := { program := "ytjpekonfjihcoaagreatdoor", sum := "115ca245c2ce8718598374d6d343291ab3e57ba0f00985012de97b86549b722b", func := "mahlstick/mahlsticklaw07.TintNearer", spec := "tintNearer", inPlace := ["internal/bytealg.CountString", "internal/bytealg.IndexByteString", "internal/bytealg.IndexString"], unfollowed := true, recurses := true, named := ["unicode/utf8.first", "unicode/utf8.acceptRanges", "internal/bytealg.MaxLen", "internal/strconv.uint64pow10", "math/bits.deBruijn32tab", "math/bits.deBruijn64tab"], plainKeys := false, apart := false, laid := [("math/bits.deBruijn32tab", laid_math_bits_deBruijn32tab), ("math/bits.deBruijn64tab", laid_math_bits_deBruijn64tab), ("internal/strconv.uint64pow10", laid_internal_strconv_uint64pow10), ("unicode/utf8.acceptRanges", laid_unicode_utf8_acceptRanges), ("unicode/utf8.first", laid_unicode_utf8_first)], narrowed := true }
def TintNearerUptoSaid : Prop := tintNearerUptoRow.holds Tryz.pinned (OpenSpec.upto tintNearerSpec)

/-- 'mahlsticklaw07.TintNeeds', WHERE WHAT IT READS IS OF BULK AT MOST 1048576: true; the input reads as it did. -/
def tintNeedsUptoRow : OpenClaim := { program := "ytjpekonfjihcoaagreatdoor", sum := "115ca245c2ce8718598374d6d343291ab3e57ba0f00985012de97b86549b722b", func := "mahlstick/mahlsticklaw07.TintNeeds", spec := "tintNeeds", inPlace := ["internal/bytealg.CountString", "internal/bytealg.IndexByteString", "internal/bytealg.IndexString"], unfollowed := true, recurses := true, named := ["unicode/utf8.first", "unicode/utf8.acceptRanges", "internal/bytealg.MaxLen", "internal/strconv.uint64pow10", "math/bits.deBruijn32tab", "math/bits.deBruijn64tab"], plainKeys := false, apart := false, laid := [("math/bits.deBruijn32tab", laid_math_bits_deBruijn32tab), ("math/bits.deBruijn64tab", laid_math_bits_deBruijn64tab), ("internal/strconv.uint64pow10", laid_internal_strconv_uint64pow10), ("unicode/utf8.acceptRanges", laid_unicode_utf8_acceptRanges), ("unicode/utf8.first", laid_unicode_utf8_first)], narrowed := true }
def TintNeedsUptoSaid : Prop := tintNeedsUptoRow.holds Tryz.pinned (OpenSpec.upto tintNeedsSpec)

/-- 'mahlsticklaw07.TintEnough', WHERE WHAT IT READS IS OF BULK AT MOST 1048576: true; the input reads as it did. -/
def tintEnoughUptoRow : OpenClaim := { program := "ytjpekonfjihcoaagreatdoor", sum := "115ca245c2ce8718598374d6d343291ab3e57ba0f00985012de97b86549b722b", func := "mahlstick/mahlsticklaw07.TintEnough", spec := "tintEnough", inPlace := ["internal/bytealg.CountString", "internal/bytealg.IndexByteString", "internal/bytealg.IndexString"], unfollowed := true, recurses := true, named := ["unicode/utf8.first", "unicode/utf8.acceptRanges", "internal/bytealg.MaxLen", "internal/strconv.uint64pow10", "math/bits.deBruijn32tab", "math/bits.deBruijn64tab"], plainKeys := false, apart := false, laid := [("math/bits.deBruijn32tab", laid_math_bits_deBruijn32tab), ("math/bits.deBruijn64tab", laid_math_bits_deBruijn64tab), ("internal/strconv.uint64pow10", laid_internal_strconv_uint64pow10), ("unicode/utf8.acceptRanges", laid_unicode_utf8_acceptRanges), ("unicode/utf8.first", laid_unicode_utf8_first)], narrowed := true }
def TintEnoughUptoSaid : Prop := tintEnoughUptoRow.holds Tryz.pinned (OpenSpec.upto tintEnoughSpec)

/-- 'mahlsticklaw07.TintProofs', WHERE WHAT IT READS IS OF BULK AT MOST 1048576: true; the input reads as it did. -/
def tintProofsUptoRow : OpenClaim := { program := "ytjpekonfjihcoaagreatdoor", sum := "115ca245c2ce8718598374d6d343291ab3e57ba0f00985012de97b86549b722b", func := "mahlstick/mahlsticklaw07.TintProofs", spec := "tintProofs", inPlace := ["internal/bytealg.CountString", "internal/bytealg.IndexByteString", "internal/bytealg.IndexString"], unfollowed := true, recurses := true, named := ["unicode/utf8.first", "unicode/utf8.acceptRanges", "internal/bytealg.MaxLen", "internal/strconv.uint64pow10", "math/bits.deBruijn32tab", "math/bits.deBruijn64tab"], plainKeys := false, apart := false, laid := [("math/bits.deBruijn32tab", laid_math_bits_deBruijn32tab), ("math/bits.deBruijn64tab", laid_math_bits_deBruijn64tab), ("internal/strconv.uint64pow10", laid_internal_strconv_uint64pow10), ("unicode/utf8.acceptRanges", laid_unicode_utf8_acceptRanges), ("unicode/utf8.first", laid_unicode_utf8_first)], narrowed := true }
def TintProofsUptoSaid : Prop := tintProofsUptoRow.holds Tryz.pinned (OpenSpec.upto tintProofsSpec)

/-- 'mahlsticklaw07.TintProved', WHERE WHAT IT READS IS OF BULK AT MOST 1048576: true; the input reads as it did. -/
def tintProvedUptoRow : OpenClaim := { program := "ytjpekonfjihcoaagreatdoor", sum := "115ca245c2ce8718598374d6d343291ab3e57ba0f00985012de97b86549b722b", func := "mahlstick/mahlsticklaw07.TintProved", spec := "tintProved", inPlace := ["internal/bytealg.CountString", "internal/bytealg.IndexByteString", "internal/bytealg.IndexString"], unfollowed := true, recurses := true, named := ["unicode/utf8.first", "unicode/utf8.acceptRanges", "internal/bytealg.MaxLen", "internal/strconv.uint64pow10", "math/bits.deBruijn32tab", "math/bits.deBruijn64tab"], plainKeys := false, apart := false, laid := [("math/bits.deBruijn32tab", laid_math_bits_deBruijn32tab), ("math/bits.deBruijn64tab", laid_math_bits_deBruijn64tab), ("internal/strconv.uint64pow10", laid_internal_strconv_uint64pow10), ("unicode/utf8.acceptRanges", laid_unicode_utf8_acceptRanges), ("unicode/utf8.first", laid_unicode_utf8_first)], narrowed := true }
def TintProvedUptoSaid : Prop := tintProvedUptoRow.holds Tryz.pinned (OpenSpec.upto tintProvedSpec)

/-- 'mahlsticklaw07.TintMade', WHERE WHAT IT READS IS OF BULK AT MOST 1048576: true; the input reads as it did. -/
def tintMadeUptoRow : OpenClaim := { program := "ytjpekonfjihcoaagreatdoor", sum := "115ca245c2ce8718598374d6d343291ab3e57ba0f00985012de97b86549b722b", func := "mahlstick/mahlsticklaw07.TintMade", spec := "tintMade", inPlace := ["internal/bytealg.CountString", "internal/bytealg.IndexByteString", "internal/bytealg.IndexString"], unfollowed := true, recurses := true, named := ["unicode/utf8.first", "unicode/utf8.acceptRanges", "internal/bytealg.MaxLen", "internal/strconv.uint64pow10", "math/bits.deBruijn32tab", "math/bits.deBruijn64tab"], plainKeys := false, apart := false, laid := [("math/bits.deBruijn32tab", laid_math_bits_deBruijn32tab), ("math/bits.deBruijn64tab", laid_math_bits_deBruijn64tab), ("internal/strconv.uint64pow10", laid_internal_strconv_uint64pow10), ("unicode/utf8.acceptRanges", laid_unicode_utf8_acceptRanges), ("unicode/utf8.first", laid_unicode_utf8_first)], narrowed := true }
def TintMadeUptoSaid : Prop := tintMadeUptoRow.holds Tryz.pinned (OpenSpec.upto tintMadeSpec)

/-- 'mahlsticklaw07.TintMore', WHERE WHAT IT READS IS OF BULK AT MOST 1048576: true; the input reads as it did. -/
def tintMoreUptoRow : OpenClaim := { program := "ytjpekonfjihcoaagreatdoor", sum := "115ca245c2ce8718598374d6d343291ab3e57ba0f00985012de97b86549b722b", func := "mahlstick/mahlsticklaw07.TintMore", spec := "tintMore", inPlace := ["internal/bytealg.CountString", "internal/bytealg.IndexByteString", "internal/bytealg.IndexString"], unfollowed := true, recurses := true, named := ["unicode/utf8.first", "unicode/utf8.acceptRanges", "internal/bytealg.MaxLen", "internal/strconv.uint64pow10", "math/bits.deBruijn32tab", "math/bits.deBruijn64tab"], plainKeys := false, apart := false, laid := [("math/bits.deBruijn32tab", laid_math_bits_deBruijn32tab), ("math/bits.deBruijn64tab", laid_math_bits_deBruijn64tab), ("internal/strconv.uint64pow10", laid_internal_strconv_uint64pow10), ("unicode/utf8.acceptRanges", laid_unicode_utf8_acceptRanges), ("unicode/utf8.first", laid_unicode_utf8_first)], narrowed := true }
def TintMoreUptoSaid : Prop := tintMoreUptoRow.holds Tryz.pinned (OpenSpec.upto tintMoreSpec)

/-- 'mahlsticklaw07.TintSums', WHERE WHAT IT READS IS OF BULK AT MOST 1048576: true; the input reads as it did. -/
def tintSumsUptoRow : OpenClaim := { program := "ytjpekonfjihcoaagreatdoor", sum := "115ca245c2ce8718598374d6d343291ab3e57ba0f00985012de97b86549b722b", func := "mahlstick/mahlsticklaw07.TintSums", spec := "tintSums", inPlace := ["internal/bytealg.CountString", "internal/bytealg.IndexByteString", "internal/bytealg.IndexString"], unfollowed := true, recurses := true, named := ["unicode/utf8.first", "unicode/utf8.acceptRanges", "internal/bytealg.MaxLen", "internal/strconv.uint64pow10", "math/bits.deBruijn32tab", "math/bits.deBruijn64tab"], plainKeys := false, apart := false, laid := [("math/bits.deBruijn32tab", laid_math_bits_deBruijn32tab), ("math/bits.deBruijn64tab", laid_math_bits_deBruijn64tab), ("internal/strconv.uint64pow10", laid_internal_strconv_uint64pow10), ("unicode/utf8.acceptRanges", laid_unicode_utf8_acceptRanges), ("unicode/utf8.first", laid_unicode_utf8_first)], narrowed := true }
def TintSumsUptoSaid : Prop := tintSumsUptoRow.holds Tryz.pinned (OpenSpec.upto tintSumsSpec)

/-- 'mahlsticklaw07.TintPrints', WHERE WHAT IT READS IS OF BULK AT MOST 1048576: true; the input reads as it did. -/
def tintPrintsUptoRow : OpenClaim := { program := "ytjpekonfjihcoaagreatdoor", sum := "115ca245c2ce8718598374d6d343291ab3e57ba0f00985012de97b86549b722b", func := "mahlstick/mahlsticklaw07.TintPrints", spec := "tintPrints", inPlace := ["internal/bytealg.CountString", "internal/bytealg.IndexByteString", "internal/bytealg.IndexString"], unfollowed := true, recurses := true, named := ["unicode/utf8.first", "unicode/utf8.acceptRanges", "internal/bytealg.MaxLen", "internal/strconv.uint64pow10", "math/bits.deBruijn32tab", "math/bits.deBruijn64tab"], plainKeys := false, apart := false, laid := [("math/bits.deBruijn32tab", laid_math_bits_deBruijn32tab), ("math/bits.deBruijn64tab", laid_math_bits_deBruijn64tab), ("internal/strconv.uint64pow10", laid_internal_strconv_uint64pow10), ("unicode/utf8.acceptRanges", laid_unicode_utf8_acceptRanges), ("unicode/utf8.first", laid_unicode_utf8_first)], narrowed := true }
def TintPrintsUptoSaid : Prop := tintPrintsUptoRow.holds Tryz.pinned (OpenSpec.upto tintPrintsSpec)

/-- 'mahlsticklaw07.TintReads', WHERE WHAT IT READS IS OF BULK AT MOST 1048576: true; the input reads as it did. -/
def tintReadsUptoRow : OpenClaim := { program := "ytjpekonfjihcoaagreatdoor", sum := "115ca245c2ce8718598374d6d343291ab3e57ba0f00985012de97b86549b722b", func := "mahlstick/mahlsticklaw07.TintReads", spec := "tintReads", inPlace := ["internal/bytealg.CountString", "internal/bytealg.IndexByteString", "internal/bytealg.IndexString"], unfollowed := true, recurses := true, named := ["unicode/utf8.first", "unicode/utf8.acceptRanges", "internal/bytealg.MaxLen", "internal/strconv.uint64pow10", "math/bits.deBruijn32tab", "math/bits.deBruijn64tab"], plainKeys := false, apart := false, laid := [("math/bits.deBruijn32tab", laid_math_bits_deBruijn32tab), ("math/bits.deBruijn64tab", laid_math_bits_deBruijn64tab), ("internal/strconv.uint64pow10", laid_internal_strconv_uint64pow10), ("unicode/utf8.acceptRanges", laid_unicode_utf8_acceptRanges), ("unicode/utf8.first", laid_unicode_utf8_first)], narrowed := true }
def TintReadsUptoSaid : Prop := tintReadsUptoRow.holds Tryz.pinned (OpenSpec.upto tintReadsSpec)

/-- 'mahlsticklaw07.TintSpoilt', WHERE WHAT IT READS IS OF BULK AT MOST 1048576: true; the input reads as it did. -/
def tintSpoiltUptoRow : OpenClaim := { program := "ytjpekonfjihcoaagreatdoor", sum := "115ca245c2ce8718598374d6d343291ab3e57ba0f00985012de97b86549b722b", func := "mahlstick/mahlsticklaw07.TintSpoilt", spec := "tintSpoilt", inPlace := ["internal/bytealg.CountString", "internal/bytealg.IndexByteString", "internal/bytealg.IndexString"], unfollowed := true, recurses := true, named := ["unicode/utf8.first", "unicode/utf8.acceptRanges", "internal/bytealg.MaxLen", "internal/strconv.uint64pow10", "math/bits.deBruijn32tab", "math/bits.deBruijn64tab"], plainKeys := false, apart := false, laid := [("math/bits.deBruijn32tab", laid_math_bits_deBruijn32tab), ("math/bits.deBruijn64tab", laid_math_bits_deBruijn64tab), ("internal/strconv.uint64pow10", laid_internal_strconv_uint64pow10), ("unicode/utf8.acceptRanges", laid_unicode_utf8_acceptRanges), ("unicode/utf8.first", laid_unicode_utf8_first)], narrowed := true }
def TintSpoiltUptoSaid : Prop := tintSpoiltUptoRow.holds Tryz.pinned (OpenSpec.upto tintSpoiltSpec)

end Rows
end Go.Proofs.YtjpekonfjihcoaaGreatDoor
