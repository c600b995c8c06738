/-
  NARROWER THAN 'FOR EVERY INPUT', by the rows' own cells (each row's printed sentence says how): StripFirsts: laid · StripEarly: laid · StripWords: laid · StripTrue: laid · StripAdds: laid · StripSeen: laid · StripNexts: laid · StripAsked: laid · StripClashes: laid · StripProved: laid · StripWrongs: laid · StripBlamed: laid · StripSames: laid · StripOwned: laid · StripMore: laid · StripMisses: laid · StripPrints: laid · StripReads: laid · StripSpoilt: laid.
  DERIVED. THE GIVEN ROWS OF THIS SEAT. 19 by the template 'for every input the law returns true; each argument reads behind the call as it read before'; 0 by the template 'total and deterministic' (their statements: YtiehfpkcaoeieaaGreatDoorTotals.lean).
  GIVEN WITH THE SEED: the statements are not yours to turn. If you find one false, say at which input.
  Laid BY PROGRAM, IN A SANDBOX (cutbox-rows.mjs): the forced cells as the released guide's own fill.sh prints them over the translation 267ef411169d344d… (all of the seat's roots in one cut). By AI agents, Wed Nov 11 2026. No macro, syntax, notation, axiom, sorry.
-/
import Derived.Test.YtiehfpkcaoeieaaGreatDoorChecked
import GoSem.PinnedTables
import GoSem.Claim
import GoSem.ClaimJoined
import GoSem.ClaimMapViews
import Derived.JoinedTies
import Derived.KernelRfl
namespace Go.Proofs.YtiehfpkcaoeieaaGreatDoor
/- THE CELL 'sum', in the pinned program and in every row, IS THE sha256 OF THE DUMP (.gsa) THAT YtiehfpkcaoeieaaGreatDoorProg.lean LOADS. Nothing in Lean hashes anything: it is a label: what it is worth is what the hold of that sum in a sandbox is worth. -/
noncomputable def Tryz.pinned : Pinned := { name := "ytiehfpkcaoeieaagreatdoor", sum := "267ef411169d344d6b5885efb856eec5d321e2208d86c3c78a0df870ca155e68", checked := Tryz.checked }
namespace Rows
def none {H : Type} : Left H := { results := [], args := [] }

/- WHAT THE LISTED PACKAGE-LEVEL VARIABLES READ AS WHEN THE CALL BEGINS. Each datum BY PROGRAM (the guide's laid-datum.mjs) off the statement by which the dump's own 'gosem.cut.vars' lays the variable. In a bare row this is a premise. The card (YtiehfpkcaoeieaaGreatDoorCards.lean) ties it to the program's text. -/
def laid_math_bits_deBruijn32tab {H : Type} : DataW H := .agg [.lit (.int .u8 0), .lit (.int .u8 1), .lit (.int .u8 28), .lit (.int .u8 2), .lit (.int .u8 29), .lit (.int .u8 14), .lit (.int .u8 24), .lit (.int .u8 3), .lit (.int .u8 30), .lit (.int .u8 22), .lit (.int .u8 20), .lit (.int .u8 15), .lit (.int .u8 25), .lit (.int .u8 17), .lit (.int .u8 4), .lit (.int .u8 8), .lit (.int .u8 31), .lit (.int .u8 27), .lit (.int .u8 13), .lit (.int .u8 23), .lit (.int .u8 21), .lit (.int .u8 19), .lit (.int .u8 16), .lit (.int .u8 7), .lit (.int .u8 26), .lit (.int .u8 12), .lit (.int .u8 18), .lit (.int .u8 6), .lit (.int .u8 11), .lit (.int .u8 5), .lit (.int .u8 10), .lit (.int .u8 9)]
def laid_math_bits_deBruijn64tab {H : Type} : DataW H := .agg [.lit (.int .u8 0), .lit (.int .u8 1), .lit (.int .u8 56), .lit (.int .u8 2), .lit (.int .u8 57), .lit (.int .u8 49), .lit (.int .u8 28), .lit (.int .u8 3), .lit (.int .u8 61), .lit (.int .u8 58), .lit (.int .u8 42), .lit (.int .u8 50), .lit (.int .u8 38), .lit (.int .u8 29), .lit (.int .u8 17), .lit (.int .u8 4), .lit (.int .u8 62), .lit (.int .u8 47), .lit (.int .u8 59), .lit (.int .u8 36), .lit (.int .u8 45), .lit (.int .u8 43), .lit (.int .u8 51), .lit (.int .u8 22), .lit (.int .u8 53), .lit (.int .u8 39), .lit (.int .u8 33), .lit (.int .u8 30), .lit (.int .u8 24), .lit (.int .u8 18), .lit (.int .u8 12), .lit (.int .u8 5), .lit (.int .u8 63), .lit (.int .u8 55), .lit (.int .u8 48), .lit (.int .u8 27), .lit (.int .u8 60), .lit (.int .u8 41), .lit (.int .u8 37), .lit (.int .u8 16), .lit (.int .u8 46), .lit (.int .u8 35), .lit (.int .u8 44), .lit (.int .u8 21), .lit (.int .u8 52), .lit (.int .u8 32), .lit (.int .u8 23), .lit (.int .u8 11), .lit (.int .u8 54), .lit (.int .u8 26), .lit (.int .u8 40), .lit (.int .u8 15), .lit (.int .u8 34), .lit (.int .u8 20), .lit (.int .u8 31), .lit (.int .u8 10), .lit (.int .u8 25), .lit (.int .u8 14), .lit (.int .u8 19), .lit (.int .u8 9), .lit (.int .u8 13), .lit (.int .u8 8), .lit (.int .u8 7), .lit (.int .u8 6)]
def laid_internal_strconv_uint64pow10 {H : Type} : DataW H := .agg [.lit (.int .u64 1), .lit (.int .u64 10), .lit (.int .u64 100), .lit (.int .u64 1000), .lit (.int .u64 10000), .lit (.int .u64 100000), .lit (.int .u64 1000000), .lit (.int .u64 10000000), .lit (.int .u64 100000000), .lit (.int .u64 1000000000), .lit (.int .u64 10000000000), .lit (.int .u64 100000000000), .lit (.int .u64 1000000000000), .lit (.int .u64 10000000000000), .lit (.int .u64 100000000000000), .lit (.int .u64 1000000000000000), .lit (.int .u64 10000000000000000), .lit (.int .u64 100000000000000000), .lit (.int .u64 1000000000000000000), .lit (.int .u64 10000000000000000000)]
def laid_unicode_utf8_acceptRanges {H : Type} : DataW H := .agg [.agg [.lit (.int .u8 128), .lit (.int .u8 191)], .agg [.lit (.int .u8 160), .lit (.int .u8 191)], .agg [.lit (.int .u8 128), .lit (.int .u8 159)], .agg [.lit (.int .u8 144), .lit (.int .u8 191)], .agg [.lit (.int .u8 128), .lit (.int .u8 143)], .agg [.lit (.int .u8 0), .lit (.int .u8 0)], .agg [.lit (.int .u8 0), .lit (.int .u8 0)], .agg [.lit (.int .u8 0), .lit (.int .u8 0)], .agg [.lit (.int .u8 0), .lit (.int .u8 0)], .agg [.lit (.int .u8 0), .lit (.int .u8 0)], .agg [.lit (.int .u8 0), .lit (.int .u8 0)], .agg [.lit (.int .u8 0), .lit (.int .u8 0)], .agg [.lit (.int .u8 0), .lit (.int .u8 0)], .agg [.lit (.int .u8 0), .lit (.int .u8 0)], .agg [.lit (.int .u8 0), .lit (.int .u8 0)], .agg [.lit (.int .u8 0), .lit (.int .u8 0)]]
/-- One of Go's own tables, pinned by name: the form's constant. -/
def laid_unicode_utf8_first : DataW Unit := Go.Pinned.utf8First

/-- 'mahlsticklaw05.StripFirsts': WHATEVER THE INPUT: true; the input reads as it did. -/
def stripFirstsSpec : ChangeSpec := { name := "stripFirsts", fn := fun _ => fun
  | [d] => { results := [.lit (.bool true)], args := [d] }
  | _ => none }
def stripFirstsRow : OpenClaim := { program := "ytiehfpkcaoeieaagreatdoor", sum := "267ef411169d344d6b5885efb856eec5d321e2208d86c3c78a0df870ca155e68", func := "mahlstick/mahlsticklaw05.StripFirsts", spec := "stripFirsts", inPlace := ["internal/bytealg.CountString", "internal/bytealg.IndexByteString", "internal/bytealg.IndexString"], unfollowed := true, recurses := true, named := ["unicode/utf8.first", "unicode/utf8.acceptRanges", "internal/bytealg.MaxLen", "internal/strconv.uint64pow10", "math/bits.deBruijn32tab", "math/bits.deBruijn64tab"], plainKeys := false, apart := false, laid := [("math/bits.deBruijn32tab", laid_math_bits_deBruijn32tab), ("math/bits.deBruijn64tab", laid_math_bits_deBruijn64tab), ("internal/strconv.uint64pow10", laid_internal_strconv_uint64pow10), ("unicode/utf8.acceptRanges", laid_unicode_utf8_acceptRanges), ("unicode/utf8.first", laid_unicode_utf8_first)] }
def StripFirstsSaid : Prop := stripFirstsRow.holds Tryz.pinned (OpenSpec.ofChange stripFirstsSpec)

/-- ITS FALSE NEIGHBOUR: 'it returns false'. Refute it at one input. -/
def stripFirstsWrong : ChangeSpec := { name := "stripFirsts", fn := fun _ => fun
  | [d] => { results := [.lit (.bool false)], args := [d] }
  | _ => none }
def StripFirstsWrongFalsely : Prop := stripFirstsRow.holds Tryz.pinned (OpenSpec.ofChange stripFirstsWrong)

/-- 'mahlsticklaw05.StripEarly': WHATEVER THE INPUT: true; the input reads as it did. -/
def stripEarlySpec : ChangeSpec := { name := "stripEarly", fn := fun _ => fun
  | [d1, d2] => { results := [.lit (.bool true)], args := [d1, d2] }
  | _ => none }
def stripEarlyRow : OpenClaim := { program := "ytiehfpkcaoeieaagreatdoor", sum := "267ef411169d344d6b5885efb856eec5d321e2208d86c3c78a0df870ca155e68", func := "mahlstick/mahlsticklaw05.StripEarly", spec := "stripEarly", inPlace := ["internal/bytealg.CountString", "internal/bytealg.IndexByteString", "internal/bytealg.IndexString"], unfollowed := true, recurses := true, named := ["unicode/utf8.first", "unicode/utf8.acceptRanges", "internal/bytealg.MaxLen", "internal/strconv.uint64pow10", "math/bits.deBruijn32tab", "math/bits.deBruijn64tab"], plainKeys := false, apart := false, laid := [("math/bits.deBruijn32tab", laid_math_bits_deBruijn32tab), ("math/bits.deBruijn64tab", laid_math_bits_deBruijn64tab), ("internal/strconv.uint64pow10", laid_internal_strconv_uint64pow10), ("unicode/utf8.acceptRanges", laid_unicode_utf8_acceptRanges), ("unicode/utf8.first", laid_unicode_utf8_first)] }
def StripEarlySaid : Prop := stripEarlyRow.holds Tryz.pinned (OpenSpec.ofChange stripEarlySpec)

/-- ITS FALSE NEIGHBOUR: 'it returns false'. Refute it at one input. -/
def stripEarlyWrong : ChangeSpec := { name := "stripEarly", fn := fun _ => fun
  | [d1, d2] => { results := [.lit (.bool false)], args := [d1, d2] }
  | _ => none }
def StripEarlyWrongFalsely : Prop := stripEarlyRow.holds Tryz.pinned (OpenSpec.ofChange stripEarlyWrong)

/-- 'mahlsticklaw05.StripWords': WHATEVER THE INPUT: true; the input reads as it did. -/
def stripWordsSpec : ChangeSpec := { name := "stripWords", fn := fun _ => fun
  | [d1, d2, d3] => { results := [.lit (.bool true)], args := [d1, d2, d3] }
  | _ => none }
def stripWordsRow : OpenClaim := { program := "ytiehfpkcaoeieaagreatdoor", sum := "267ef411169d344d6b5885efb856eec5d321e2208d86c3c78a0df870ca155e68", func := "mahlstick/mahlsticklaw05.StripWords", spec := "stripWords", inPlace := ["internal/bytealg.CountString", "internal/bytealg.IndexByteString", "internal/bytealg.IndexString"], unfollowed := true, recurses := true, named := ["unicode/utf8.first", "unicode/utf8.acceptRanges", "internal/bytealg.MaxLen", "internal/strconv.uint64pow10", "math/bits.deBruijn32tab", "math/bits.deBruijn64tab"], plainKeys := false, apart := false, laid := [("math/bits.deBruijn32tab", laid_math_bits_deBruijn32tab), ("math/bits.deBruijn64tab", laid_math_bits_deBruijn64tab), ("internal/strconv.uint64pow10", laid_internal_strconv_uint64pow10), ("unicode/utf8.acceptRanges", laid_unicode_utf8_acceptRanges), ("unicode/utf8.first", laid_unicode_utf8_first)] }
def StripWordsSaid : Prop := stripWordsRow.holds Tryz.pinned (OpenSpec.ofChange stripWordsSpec)

/-- ITS FALSE NEIGHBOUR: 'it returns false'. Refute it at one input. -/
def stripWordsWrong : ChangeSpec := { name := "stripWords", fn := fun _ => fun
  | [d1, d2, d3] => { results := [.lit (.bool false)], args := [d1, d2, d3] }
  | _ => none }
def StripWordsWrongFalsely : Prop := stripWordsRow.holds Tryz.pinned (OpenSpec.ofChange stripWordsWrong)

/-- 'mahlsticklaw05.StripTrue': WHATEVER THE INPUT: true; the input reads as it did. -/
def stripTrueSpec : ChangeSpec := { name := "stripTrue", fn := fun _ => fun
  | [d1, d2, d3, d4] => { results := [.lit (.bool true)], args := [d1, d2, d3, d4] }
  | _ => none }
def stripTrueRow : OpenClaim := { program := "ytiehfpkcaoeieaagreatdoor", sum := "267ef411169d344d6b5885efb856eec5d321e2208d86c3c78a0df870ca155e68", func := "mahlstick/mahlsticklaw05.StripTrue", spec := "stripTrue", inPlace := ["internal/bytealg.CountString", "internal/bytealg.IndexByteString", "internal/bytealg.IndexString"], unfollowed := true, recurses := true, named := ["unicode/utf8.first", "unicode/utf8.acceptRanges", "internal/bytealg.MaxLen", "internal/strconv.uint64pow10", "math/bits.deBruijn32tab", "math/bits.deBruijn64tab"], plainKeys := false, apart := false, laid := [("math/bits.deBruijn32tab", laid_math_bits_deBruijn32tab), ("math/bits.deBruijn64tab", laid_math_bits_deBruijn64tab), ("internal/strconv.uint64pow10", laid_internal_strconv_uint64pow10), ("unicode/utf8.acceptRanges", laid_unicode_utf8_acceptRanges), ("unicode/utf8.first", laid_unicode_utf8_first)] }
def StripTrueSaid : Prop := stripTrueRow.holds Tryz.pinned (OpenSpec.ofChange stripTrueSpec)

/-- ITS FALSE NEIGHBOUR: 'it returns false'. Refute it at one input. -/
def stripTrueWrong : ChangeSpec := { name := "stripTrue", fn := fun _ => fun
  | [d1, d2, d3, d4] => { results := [.lit (.bool false)], args := [d1, d2, d3, d4] }
  | _ => none }
def StripTrueWrongFalsely : Prop := stripTrueRow.holds Tryz.pinned (OpenSpec.ofChange stripTrueWrong)

/-- 'mahlsticklaw05.StripAdds': WHATEVER THE INPUT: true; the input reads as it did. -/
def stripAddsSpec : ChangeSpec := { name := "stripAdds", fn := fun _ => fun
  | [d1, d2] => { results := [.lit (.bool true)], args := [d1, d2] }
  | _ => none }
def stripAddsRow : OpenClaim := { program := "ytiehfpkcaoeieaagreatdoor", sum := "267ef411169d344d6b5885efb856eec5d321e2208d86c3c78a0df870ca155e68", func := "mahlstick/mahlsticklaw05.StripAdds", spec := "stripAdds", inPlace := ["internal/bytealg.CountString", "internal/bytealg.IndexByteString", "internal/bytealg.IndexString"], unfollowed := true, recurses := true, named := ["unicode/utf8.first", "unicode/utf8.acceptRanges", "internal/bytealg.MaxLen", "internal/strconv.uint64pow10", "math/bits.deBruijn32tab", "math/bits.deBruijn64tab"], plainKeys := false, apart := false, laid := [("math/bits.deBruijn32tab", laid_math_bits_deBruijn32tab), ("math/bits.deBruijn64tab", laid_math_bits_deBruijn64tab), ("internal/strconv.uint64pow10", laid_internal_strconv_uint64pow10), ("unicode/utf8.acceptRanges", laid_unicode_utf8_acceptRanges), ("unicode/utf8.first", laid_unicode_utf8_first)] }
def StripAddsSaid : Prop := stripAddsRow.holds Tryz.pinned (OpenSpec.ofChange stripAddsSpec)

/-- ITS FALSE NEIGHBOUR: 'it returns false'. Refute it at one input. -/
def stripAddsWrong : ChangeSpec := { name := "stripAdds", fn := fun _ => fun
  | [d1, d2] => { results := [.lit (.bool false)], args := [d1, d2] }
  | _ => none }
def StripAddsWrongFalsely : Prop := stripAddsRow.holds Tryz.pinned (OpenSpec.ofChange stripAddsWrong)

/-- 'mahlsticklaw05.StripSeen': WHATEVER THE INPUT: true; the input reads as it did. -/
def stripSeenSpec : ChangeSpec := { name := "stripSeen", fn := fun _ => fun
  | [d1, d2] => { results := [.lit (.bool true)], args := [d1, d2] }
  | _ => none }
def stripSeenRow : OpenClaim := { program := "ytiehfpkcaoeieaagreatdoor", sum := "267ef411169d344d6b5885efb856eec5d321e2208d86c3c78a0df870ca155e68", func := "mahlstick/mahlsticklaw05.StripSeen", spec := "stripSeen", inPlace := ["internal/bytealg.CountString", "internal/bytealg.IndexByteString", "internal/bytealg.IndexString"], unfollowed := true, recurses := true, named := ["unicode/utf8.first", "unicode/utf8.acceptRanges", "internal/bytealg.MaxLen", "internal/strconv.uint64pow10", "math/bits.deBruijn32tab", "math/bits.deBruijn64tab"], plainKeys := false, apart := false, laid := [("math/bits.deBruijn32tab", laid_math_bits_deBruijn32tab), ("math/bits.deBruijn64tab", laid_math_bits_deBruijn64tab), ("internal/strconv.uint64pow10", laid_internal_strconv_uint64pow10), ("unicode/utf8.acceptRanges", laid_unicode_utf8_acceptRanges), ("unicode/utf8.first", laid_unicode_utf8_first)] }
def StripSeenSaid : Prop := stripSeenRow.holds Tryz.pinned (OpenSpec.ofChange stripSeenSpec)

/-- ITS FALSE NEIGHBOUR: 'it returns false'. Refute it at one input. -/
def stripSeenWrong : ChangeSpec := { name := "stripSeen", fn := fun _ => fun
  | [d1, d2] => { results := [.lit (.bool false)], args := [d1, d2] }
  | _ => none }
def StripSeenWrongFalsely : Prop := stripSeenRow.holds Tryz.pinned (OpenSpec.ofChange stripSeenWrong)

/-- 'mahlsticklaw05.StripNexts': WHATEVER THE INPUT: true; the input reads as it did. -/
def stripNextsSpec : ChangeSpec := { name := "stripNexts", fn := fun _ => fun
  | [d] => { results := [.lit (.bool true)], args := [d] }
  | _ => none }
def stripNextsRow : OpenClaim := { program := "ytiehfpkcaoeieaagreatdoor", sum := "267ef411169d344d6b5885efb856eec5d321e2208d86c3c78a0df870ca155e68", func := "mahlstick/mahlsticklaw05.StripNexts", spec := "stripNexts", inPlace := ["internal/bytealg.CountString", "internal/bytealg.IndexByteString", "internal/bytealg.IndexString"], unfollowed := true, recurses := true, named := ["unicode/utf8.first", "unicode/utf8.acceptRanges", "internal/bytealg.MaxLen", "internal/strconv.uint64pow10", "math/bits.deBruijn32tab", "math/bits.deBruijn64tab"], plainKeys := false, apart := false, laid := [("math/bits.deBruijn32tab", laid_math_bits_deBruijn32tab), ("math/bits.deBruijn64tab", laid_math_bits_deBruijn64tab), ("internal/strconv.uint64pow10", laid_internal_strconv_uint64pow10), ("unicode/utf8.acceptRanges", laid_unicode_utf8_acceptRanges), ("unicode/utf8.first", laid_unicode_utf8_first)] }
def StripNextsSaid : Prop := stripNextsRow.holds Tryz.pinned (OpenSpec.ofChange stripNextsSpec)

/-- ITS FALSE NEIGHBOUR: 'it returns false'. Refute it at one input. -/
def stripNextsWrong : ChangeSpec := { name := "stripNexts", fn := fun _ => fun
  | [d] => { results := [.lit (.bool false)], args := [d] }
  | _ => none }
def StripNextsWrongFalsely : Prop := stripNextsRow.holds Tryz.pinned (OpenSpec.ofChange stripNextsWrong)

/-- 'mahlsticklaw05.StripAsked': WHATEVER THE INPUT: true; the input reads as it did. -/
def stripAskedSpec : ChangeSpec := { name := "stripAsked", fn := fun _ => fun
  | [d1, d2, d3] => { results := [.lit (.bool true)], args := [d1, d2, d3] }
  | _ => none }
def stripAskedRow : OpenClaim := { program := "ytiehfpkcaoeieaagreatdoor", sum := "267ef411169d344d6b5885efb856eec5d321e2208d86c3c78a0df870ca155e68", func := "mahlstick/mahlsticklaw05.StripAsked", spec := "stripAsked", inPlace := ["internal/bytealg.CountString", "internal/bytealg.IndexByteString", "internal/bytealg.IndexString"], unfollowed := true, recurses := true, named := ["unicode/utf8.first", "unicode/utf8.acceptRanges", "internal/bytealg.MaxLen", "internal/strconv.uint64pow10", "math/bits.deBruijn32tab", "math/bits.deBruijn64tab"], plainKeys := false, apart := false, laid := [("math/bits.deBruijn32tab", laid_math_bits_deBruijn32tab), ("math/bits.deBruijn64tab", laid_math_bits_deBruijn64tab), ("internal/strconv.uint64pow10", laid_internal_strconv_uint64pow10), ("unicode/utf8.acceptRanges", laid_unicode_utf8_acceptRanges), ("unicode/utf8.first", laid_unicode_utf8_first)] }
def StripAskedSaid : Prop := stripAskedRow.holds Tryz.pinned (OpenSpec.ofChange stripAskedSpec)

/-- ITS FALSE NEIGHBOUR: 'it returns false'. Refute it at one input. -/
def stripAskedWrong : ChangeSpec := { name := "stripAsked", fn := fun _ => fun
  | [d1, d2, d3] => { results := [.lit (.bool false)], args := [d1, d2, d3] }
  | _ => none }
def StripAskedWrongFalsely : Prop := stripAskedRow.holds Tryz.pinned (OpenSpec.ofChange stripAskedWrong)

/-- 'mahlsticklaw05.StripClashes': WHATEVER THE INPUT: true; the input reads as it did. -/
def stripClashesSpec : ChangeSpec := { name := "stripClashes", fn := fun _ => fun
  | [d] => { results := [.lit (.bool true)], args := [d] }
  | _ => none }
def stripClashesRow : OpenClaim := { program := "ytiehfpkcaoeieaagreatdoor", sum := "267ef411169d344d6b5885efb856eec5d321e2208d86c3c78a0df870ca155e68", func := "mahlstick/mahlsticklaw05.StripClashes", spec := "stripClashes", inPlace := ["internal/bytealg.CountString", "internal/bytealg.IndexByteString", "internal/bytealg.IndexString"], unfollowed := true, recurses := true, named := ["unicode/utf8.first", "unicode/utf8.acceptRanges", "internal/bytealg.MaxLen", "internal/strconv.uint64pow10", "math/bits.deBruijn32tab", "math/bits.deBruijn64tab"], plainKeys := false, apart := false, laid := [("math/bits.deBruijn32tab", laid_math_bits_deBruijn32tab), ("math/bits.deBruijn64tab", laid_math_bits_deBruijn64tab), ("internal/strconv.uint64pow10", laid_internal_strconv_uint64pow10), ("unicode/utf8.acceptRanges", laid_unicode_utf8_acceptRanges), ("unicode/utf8.first", laid_unicode_utf8_first)] }
def StripClashesSaid : Prop := stripClashesRow.holds Tryz.pinned (OpenSpec.ofChange stripClashesSpec)

/-- ITS FALSE NEIGHBOUR: 'it returns false'. Refute it at one input. -/
def stripClashesWrong : ChangeSpec := { name := "stripClashes", fn := fun _ => fun
  | [d] => { results := [.lit (.bool false)], args := [d] }
  | _ => none }
def StripClashesWrongFalsely : Prop := stripClashesRow.holds Tryz.pinned (OpenSpec.ofChange stripClashesWrong)

/-- 'mahlsticklaw05.StripProved': WHATEVER THE INPUT: true; the input reads as it did. -/
def stripProvedSpec : ChangeSpec := { name := "stripProved", fn := fun _ => fun
  | [d1, d2] => { results := [.lit (.bool true)], args := [d1, d2] }
  | _ => none }
def stripProvedRow : OpenClaim := { program := "ytiehfpkcaoeieaagreatdoor", sum := "267ef411169d344d6b5885efb856eec5d321e2208d86c3c78a0df870ca155e68", func := "mahlstick/mahlsticklaw05.StripProved", spec := "stripProved", inPlace := ["internal/bytealg.CountString", "internal/bytealg.IndexByteString", "internal/bytealg.IndexString"], unfollowed := true, recurses := true, named := ["unicode/utf8.first", "unicode/utf8.acceptRanges", "internal/bytealg.MaxLen", "internal/strconv.uint64pow10", "math/bits.deBruijn32tab", "math/bits.deBruijn64tab"], plainKeys := false, apart := false, laid := [("math/bits.deBruijn32tab", laid_math_bits_deBruijn32tab), ("math/bits.deBruijn64tab", laid_math_bits_deBruijn64tab), ("internal/strconv.uint64pow10", laid_internal_strconv_uint64pow10), ("unicode/utf8.acceptRanges", laid_unicode_utf8_acceptRanges), ("unicode/utf8.first", laid_unicode_utf8_first)] }
def StripProvedSaid : Prop := stripProvedRow.holds Tryz.pinned (OpenSpec.ofChange stripProvedSpec)

/-- ITS FALSE NEIGHBOUR: 'it returns false'. Refute it at one input. -/
def stripProvedWrong : ChangeSpec := { name := "stripProved", fn := fun _ => fun
  | [d1, d2] => { results := [.lit (.bool false)], args := [d1, d2] }
  | _ => none }
def StripProvedWrongFalsely : Prop := stripProvedRow.holds Tryz.pinned (OpenSpec.ofChange stripProvedWrong)

/-- 'mahlsticklaw05.StripWrongs': WHATEVER THE INPUT: true; the input reads as it did. -/
def stripWrongsSpec : ChangeSpec := { name := "stripWrongs", fn := fun _ => fun
  | [d] => { results := [.lit (.bool true)], args := [d] }
  | _ => none }
def stripWrongsRow : OpenClaim := { program := "ytiehfpkcaoeieaagreatdoor", sum := "267ef411169d344d6b5885efb856eec5d321e2208d86c3c78a0df870ca155e68", func := "mahlstick/mahlsticklaw05.StripWrongs", spec := "stripWrongs", inPlace := ["internal/bytealg.CountString", "internal/bytealg.IndexByteString", "internal/bytealg.IndexString"], unfollowed := true, recurses := true, named := ["unicode/utf8.first", "unicode/utf8.acceptRanges", "internal/bytealg.MaxLen", "internal/strconv.uint64pow10", "math/bits.deBruijn32tab", "math/bits.deBruijn64tab"], plainKeys := false, apart := false, laid := [("math/bits.deBruijn32tab", laid_math_bits_deBruijn32tab), ("math/bits.deBruijn64tab", laid_math_bits_deBruijn64tab), ("internal/strconv.uint64pow10", laid_internal_strconv_uint64pow10), ("unicode/utf8.acceptRanges", laid_unicode_utf8_acceptRanges), ("unicode/utf8.first", laid_unicode_utf8_first)] }
def StripWrongsSaid : Prop := stripWrongsRow.holds Tryz.pinned (OpenSpec.ofChange stripWrongsSpec)

/-- ITS FALSE NEIGHBOUR: 'it returns false'. Refute it at one input. -/
def stripWrongsWrong : ChangeSpec := { name := "stripWrongs", fn := fun _ => fun
  | [d] => { results := [.lit (.bool false)], args := [d] }
  | _ => none }
def StripWrongsWrongFalsely : Prop := stripWrongsRow.holds Tryz.pinned (OpenSpec.ofChange stripWrongsWrong)

/-- 'mahlsticklaw05.StripBlamed': WHATEVER THE INPUT: true; the input reads as it did. -/
def stripBlamedSpec : ChangeSpec := { name := "stripBlamed", fn := fun _ => fun
  | [d1, d2] => { results := [.lit (.bool true)], args := [d1, d2] }
  | _ => none }
def stripBlamedRow : OpenClaim := { program := "ytiehfpkcaoeieaagreatdoor", sum := "267ef411169d344d6b5885efb856eec5d321e2208d86c3c78a0df870ca155e68", func := "mahlstick/mahlsticklaw05.StripBlamed", spec := "stripBlamed", inPlace := ["internal/bytealg.CountString", "internal/bytealg.IndexByteString", "internal/bytealg.IndexString"], unfollowed := true, recurses := true, named := ["unicode/utf8.first", "unicode/utf8.acceptRanges", "internal/bytealg.MaxLen", "internal/strconv.uint64pow10", "math/bits.deBruijn32tab", "math/bits.deBruijn64tab"], plainKeys := false, apart := false, laid := [("math/bits.deBruijn32tab", laid_math_bits_deBruijn32tab), ("math/bits.deBruijn64tab", laid_math_bits_deBruijn64tab), ("internal/strconv.uint64pow10", laid_internal_strconv_uint64pow10), ("unicode/utf8.acceptRanges", laid_unicode_utf8_acceptRanges), ("unicode/utf8.first", laid_unicode_utf8_first)] }
def StripBlamedSaid : Prop := stripBlamedRow.holds Tryz.pinned (OpenSpec.ofChange stripBlamedSpec)

/-- ITS FALSE NEIGHBOUR: 'it returns false'. Refute it at one input. -/
def stripBlamedWrong : ChangeSpec := { name := "stripBlamed", fn := fun _ => fun
  | [d1, d2] => { results := [.lit (.bool false)], args := [d1, d2] }
  | _ => none }
def StripBlamedWrongFalsely : Prop := stripBlamedRow.holds Tryz.pinned (OpenSpec.ofChange stripBlamedWrong)

/-- 'mahlsticklaw05.StripSames': WHATEVER THE INPUT: true; the input reads as it did. -/
def stripSamesSpec : ChangeSpec := { name := "stripSames", fn := fun _ => fun
  | [d1, d2, d3] => { results := [.lit (.bool true)], args := [d1, d2, d3] }
  | _ => none }
def stripSamesRow : OpenClaim := { program := "ytiehfpkcaoeieaagreatdoor", sum := "267ef411169d344d6b5885efb856eec5d321e2208d86c3c78a0df870ca155e68", func := "mahlstick/mahlsticklaw05.StripSames", spec := "stripSames", inPlace := ["internal/bytealg.CountString", "internal/bytealg.IndexByteString", "internal/bytealg.IndexString"], unfollowed := true, recurses := true, named := ["unicode/utf8.first", "unicode/utf8.acceptRanges", "internal/bytealg.MaxLen", "internal/strconv.uint64pow10", "math/bits.deBruijn32tab", "math/bits.deBruijn64tab"], plainKeys := false, apart := false, laid := [("math/bits.deBruijn32tab", laid_math_bits_deBruijn32tab), ("math/bits.deBruijn64tab", laid_math_bits_deBruijn64tab), ("internal/strconv.uint64pow10", laid_internal_strconv_uint64pow10), ("unicode/utf8.acceptRanges", laid_unicode_utf8_acceptRanges), ("unicode/utf8.first", laid_unicode_utf8_first)] }
def StripSamesSaid : Prop := stripSamesRow.holds Tryz.pinned (OpenSpec.ofChange stripSamesSpec)

/-- ITS FALSE NEIGHBOUR: 'it returns false'. Refute it at one input. -/
def stripSamesWrong : ChangeSpec := { name := "stripSames", fn := fun _ => fun
  | [d1, d2, d3] => { results := [.lit (.bool false)], args := [d1, d2, d3] }
  | _ => none }
def StripSamesWrongFalsely : Prop := stripSamesRow.holds Tryz.pinned (OpenSpec.ofChange stripSamesWrong)

/-- 'mahlsticklaw05.StripOwned': WHATEVER THE INPUT: true; the input reads as it did. -/
def stripOwnedSpec : ChangeSpec := { name := "stripOwned", fn := fun _ => fun
  | [d1, d2, d3, d4] => { results := [.lit (.bool true)], args := [d1, d2, d3, d4] }
  | _ => none }
def stripOwnedRow : OpenClaim := { program := "ytiehfpkcaoeieaagreatdoor", sum := "267ef411169d344d6b5885efb856eec5d321e2208d86c3c78a0df870ca155e68", func := "mahlstick/mahlsticklaw05.StripOwned", spec := "stripOwned", inPlace := ["internal/bytealg.CountString", "internal/bytealg.IndexByteString", "internal/bytealg.IndexString"], unfollowed := true, recurses := true, named := ["unicode/utf8.first", "unicode/utf8.acceptRanges", "internal/bytealg.MaxLen", "internal/strconv.uint64pow10", "math/bits.deBruijn32tab", "math/bits.deBruijn64tab"], plainKeys := false, apart := false, laid := [("math/bits.deBruijn32tab", laid_math_bits_deBruijn32tab), ("math/bits.deBruijn64tab", laid_math_bits_deBruijn64tab), ("internal/strconv.uint64pow10", laid_internal_strconv_uint64pow10), ("unicode/utf8.acceptRanges", laid_unicode_utf8_acceptRanges), ("unicode/utf8.first", laid_unicode_utf8_first)] }
def StripOwnedSaid : Prop := stripOwnedRow.holds Tryz.pinned (OpenSpec.ofChange stripOwnedSpec)

/-- ITS FALSE NEIGHBOUR: 'it returns false'. Refute it at one input. -/
def stripOwnedWrong : ChangeSpec := { name := "stripOwned", fn := fun _ => fun
  | [d1, d2, d3, d4] => { results := [.lit (.bool false)], args := [d1, d2, d3, d4] }
  | _ => none }
def StripOwnedWrongFalsely : Prop := stripOwnedRow.holds Tryz.pinned (OpenSpec.ofChange stripOwnedWrong)

/-- 'mahlsticklaw05.StripMore': WHATEVER THE INPUT: true; the input reads as it did. -/
def stripMoreSpec : ChangeSpec := { name := "stripMore", fn := fun _ => fun
  | [d1, d2, d3] => { results := [.lit (.bool true)], args := [d1, d2, d3] }
  | _ => none }
def stripMoreRow : OpenClaim := { program := "ytiehfpkcaoeieaagreatdoor", sum := "267ef411169d344d6b5885efb856eec5d321e2208d86c3c78a0df870ca155e68", func := "mahlstick/mahlsticklaw05.StripMore", spec := "stripMore", inPlace := ["internal/bytealg.CountString", "internal/bytealg.IndexByteString", "internal/bytealg.IndexString"], unfollowed := true, recurses := true, named := ["unicode/utf8.first", "unicode/utf8.acceptRanges", "internal/bytealg.MaxLen", "internal/strconv.uint64pow10", "math/bits.deBruijn32tab", "math/bits.deBruijn64tab"], plainKeys := false, apart := false, laid := [("math/bits.deBruijn32tab", laid_math_bits_deBruijn32tab), ("math/bits.deBruijn64tab", laid_math_bits_deBruijn64tab), ("internal/strconv.uint64pow10", laid_internal_strconv_uint64pow10), ("unicode/utf8.acceptRanges", laid_unicode_utf8_acceptRanges), ("unicode/utf8.first", laid_unicode_utf8_first)] }
def StripMoreSaid : Prop := stripMoreRow.holds Tryz.pinned (OpenSpec.ofChange stripMoreSpec)

/-- ITS FALSE NEIGHBOUR: 'it returns false'. Refute it at one input. -/
def stripMoreWrong : ChangeSpec := { name := "stripMore", fn := fun _ => fun
  | [d1, d2, d3] => { results := [.lit (.bool false)], args := [d1, d2, d3] }
  | _ => none }
def StripMoreWrongFalsely : Prop := stripMoreRow.holds Tryz.pinned (OpenSpec.ofChange stripMoreWrong)

/-- 'mahlsticklaw05.StripMisses': WHATEVER THE INPUT: true; the input reads as it did. -/
def stripMissesSpec : ChangeSpec := { name := "stripMisses", fn := fun _ => fun
  | [d1, d2] => { results := [.lit (.bool true)], args := [d1, d2] }
  | _ => none }
def stripMissesRow : OpenClaim := { program := "ytiehfpkcaoeieaagreatdoor", sum := "267ef411169d344d6b5885efb856eec5d321e2208d86c3c78a0df870ca155e68", func := "mahlstick/mahlsticklaw05.StripMisses", spec := "stripMisses", inPlace := ["internal/bytealg.CountString", "internal/bytealg.IndexByteString", "internal/bytealg.IndexString"], unfollowed := true, recurses := true, named := ["unicode/utf8.first", "unicode/utf8.acceptRanges", "internal/bytealg.MaxLen", "internal/strconv.uint64pow10", "math/bits.deBruijn32tab", "math/bits.deBruijn64tab"], plainKeys := false, apart := false, laid := [("math/bits.deBruijn32tab", laid_math_bits_deBruijn32tab), ("math/bits.deBruijn64tab", laid_math_bits_deBruijn64tab), ("internal/strconv.uint64pow10", laid_internal_strconv_uint64pow10), ("unicode/utf8.acceptRanges", laid_unicode_utf8_acceptRanges), ("unicode/utf8.first", laid_unicode_utf8_first)] }
def StripMissesSaid : Prop := stripMissesRow.holds Tryz.pinned (OpenSpec.ofChange stripMissesSpec)

/-- ITS FALSE NEIGHBOUR: 'it returns false'. Refute it at one input. -/
def stripMissesWrong : ChangeSpec := { name := "stripMisses", fn := fun _ => fun
  | [d1, d2] => { results := [.lit (.bool false)], args := [d1, d2] }
  | _ => none }
def StripMissesWrongFalsely : Prop := stripMissesRow.holds Tryz.pinned (OpenSpec.ofChange stripMissesWrong)

/-- 'mahlsticklaw05.StripPrints': WHATEVER THE INPUT: true; the input reads as it did. -/
def stripPrintsSpec : ChangeSpec := { name := "stripPrints", fn := fun _ => fun
  | [d] => { results := [.lit (.bool true)], args := [d] }
  | _ => none }
def stripPrintsRow : OpenClaim := { program := "ytiehfpkcaoeieaagreatdoor", sum := "267ef411169d344d6b5885efb856eec5d321e2208d86c3c78a0df870ca155e68", func := "mahlstick/mahlsticklaw05.StripPrints", spec := "stripPrints", inPlace := ["internal/bytealg.CountString", "internal/bytealg.IndexByteString", "internal/bytealg.IndexString"], unfollowed := true, recurses := true, named := ["unicode/utf8.first", "unicode/utf8.acceptRanges", "internal/bytealg.MaxLen", "internal/strconv.uint64pow10", "math/bits.deBruijn32tab", "math/bits.deBruijn64tab"], plainKeys := false, apart := false, laid := [("math/bits.deBruijn32tab", laid_math_bits_deBruijn32tab), ("math/bits.deBruijn64tab", laid_math_bits_deBruijn64tab), ("internal/strconv.uint64pow10", laid_internal_strconv_uint64pow10), ("unicode/utf8.acceptRanges", laid_unicode_utf8_acceptRanges), ("unicode/utf8.first", laid_unicode_utf8_first)] }
def StripPrintsSaid : Prop := stripPrintsRow.holds Tryz.pinned (OpenSpec.ofChange stripPrintsSpec)

/-- ITS FALSE NEIGHBOUR: 'it returns false'. Refute it at one input. -/
def stripPrintsWrong : ChangeSpec := { name := "stripPrints", fn := fun _ => fun
  | [d] => { results := [.lit (.bool false)], args := [d] }
  | _ => none }
def StripPrintsWrongFalsely : Prop := stripPrintsRow.holds Tryz.pinned (OpenSpec.ofChange stripPrintsWrong)

/-- 'mahlsticklaw05.StripReads': WHATEVER THE INPUT: true; the input reads as it did. -/
def stripReadsSpec : ChangeSpec := { name := "stripReads", fn := fun _ => fun
  | [d] => { results := [.lit (.bool true)], args := [d] }
  | _ => none }
def stripReadsRow : OpenClaim := { program := "ytiehfpkcaoeieaagreatdoor", sum := "267ef411169d344d6b5885efb856eec5d321e2208d86c3c78a0df870ca155e68", func := "mahlstick/mahlsticklaw05.StripReads", spec := "stripReads", inPlace := ["internal/bytealg.CountString", "internal/bytealg.IndexByteString", "internal/bytealg.IndexString"], unfollowed := true, recurses := true, named := ["unicode/utf8.first", "unicode/utf8.acceptRanges", "internal/bytealg.MaxLen", "internal/strconv.uint64pow10", "math/bits.deBruijn32tab", "math/bits.deBruijn64tab"], plainKeys := false, apart := false, laid := [("math/bits.deBruijn32tab", laid_math_bits_deBruijn32tab), ("math/bits.deBruijn64tab", laid_math_bits_deBruijn64tab), ("internal/strconv.uint64pow10", laid_internal_strconv_uint64pow10), ("unicode/utf8.acceptRanges", laid_unicode_utf8_acceptRanges), ("unicode/utf8.first", laid_unicode_utf8_first)] }
def StripReadsSaid : Prop := stripReadsRow.holds Tryz.pinned (OpenSpec.ofChange stripReadsSpec)

/-- ITS FALSE NEIGHBOUR: 'it returns false'. Refute it at one input. -/
def stripReadsWrong : ChangeSpec := { name := "stripReads", fn := fun _ => fun
  | [d] => { results := [.lit (.bool false)], args := [d] }
  | _ => none }
def StripReadsWrongFalsely : Prop := stripReadsRow.holds Tryz.pinned (OpenSpec.ofChange stripReadsWrong)

/-- 'mahlsticklaw05.StripSpoilt': WHATEVER THE INPUT: true; the input reads as it did. -/
def stripSpoiltSpec : ChangeSpec := { name := "stripSpoilt", fn := fun _ => fun
  | [d1, d2, d3] => { results := [.lit (.bool true)], args := [d1, d2, d3] }
  | _ => none }
def stripSpoiltRow : OpenClaim := { program := "ytiehfpkcaoeieaagreatdoor", sum := "267ef411169d344d6b5885efb856eec5d321e2208d86c3c78a0df870ca155e68", func := "mahlstick/mahlsticklaw05.StripSpoilt", spec := "stripSpoilt", inPlace := ["internal/bytealg.CountString", "internal/bytealg.IndexByteString", "internal/bytealg.IndexString"], unfollowed := true, recurses := true, named := ["unicode/utf8.first", "unicode/utf8.acceptRanges", "internal/bytealg.MaxLen", "internal/strconv.uint64pow10", "math/bits.deBruijn32tab", "math/bits.deBruijn64tab"], plainKeys := false, apart := false, laid := [("math/bits.deBruijn32tab", laid_math_bits_deBruijn32tab), ("math/bits.deBruijn64tab", laid_math_bits_deBruijn64tab), ("internal/strconv.uint64pow10", laid_internal_strconv_uint64pow10), ("unicode/utf8.acceptRanges", laid_unicode_utf8_acceptRanges), ("unicode/utf8.first", laid_unicode_utf8_first)] }
def StripSpoiltSaid : Prop := stripSpoiltRow.holds Tryz.pinned (OpenSpec.ofChange stripSpoiltSpec)

/-- ITS FALSE NEIGHBOUR: 'it returns false'. Refute it at one input. -/
def stripSpoiltWrong : ChangeSpec := { name := "stripSpoilt", fn := fun _ => fun
  | [d1, d2, d3] => { results := [.lit (.bool false)], args := [d1, d2, d3] }
  | _ => none }
def StripSpoiltWrongFalsely : Prop := stripSpoiltRow.holds Tryz.pinned (OpenSpec.ofChange stripSpoiltWrong)

/- THE SECOND FORM. 'bulk': how many values and letters a reading holds, each counted each time it is reached (what is shared counts as often as it is met; a slice's spare places count too). A statement '..UptoSaid' is the law's where the arguments, and the package variables that the reading takes, are together of bulk at most 1048576: NARROWER than '..Said'. Prove '..Said' where nothing that the law and all that it calls make is longer than what came in: it says more and counts as full. Else prove '..UptoSaid'. A law counts once. -/
mutual
def uptoBulk {H : Type} : DataW H → Nat
  | .lit (.string bytes) => bytes.length + 1
  | .lit _ => 1
  | .nil => 1
  | .ptr d => uptoBulk d + 1
  | .slice elems spare => uptoBulkAll elems + uptoBulkAll spare + 1
  | .agg parts => uptoBulkAll parts + 1
  | .iface _ d => uptoBulk d + 1
  | .map entries => uptoBulkEntries entries + 1
  | .held _ => 1
def uptoBulkAll {H : Type} : List (DataW H) → Nat
  | [] => 0
  | d :: r => uptoBulk d + uptoBulkAll r
def uptoBulkEntries {H : Type} : List (Lit × DataW H) → Nat
  | [] => 0
  | x :: r => uptoBulkEntry x + uptoBulkEntries r
def uptoBulkEntry {H : Type} : Lit × DataW H → Nat
  | (.string bytes, d) => bytes.length + uptoBulk d + 1
  | (_, d) => uptoBulk d + 1
 end
def uptoSmall : (H : Type) → List (DataW H) → Bool := fun _ ds => decide (uptoBulkAll ds ≤ 1048576)
def OpenSpec.upto (s : _root_.Go.ChangeSpec) : _root_.Go.OpenSpec := { _root_.Go.OpenSpec.ofChange s with cond := some uptoSmall }

/-- 'mahlsticklaw05.StripFirsts', WHERE WHAT IT READS IS OF BULK AT MOST 1048576: true; the input reads as it did. -/
def stripFirstsUptoRow : OpenClaim := { program := "ytiehfpkcaoeieaagreatdoor", sum := "267ef411169d344d6b5885efb856eec5d321e2208d86c3c78a0df870ca155e68", func := "mahlstick/mahlsticklaw05.StripFirsts", spec := "stripFirsts", inPlace := ["internal/bytealg.CountString", "internal/bytealg.IndexByteString", "internal/bytealg.IndexString"], unfollowed := true, recurses := true, named := ["unicode/utf8.first", "unicode/utf8.acceptRanges", "internal/bytealg.MaxLen", "internal/strconv.uint64pow10", "math/bits.deBruijn32tab", "math/bits.deBruijn64tab"], plainKeys := false, apart := false, laid := [("math/bits.deBruijn32tab", laid_math_bits_deBruijn32tab), ("math/bits.deBruijn64tab", laid_math_bits_deBruijn64tab), ("internal/strconv.uint64pow10", laid_internal_strconv_uint64pow10), ("unicode/utf8.acceptRanges", laid_unicode_utf8_acceptRanges), ("unicode/utf8.first", laid_unicode_utf8_first)], narrowed := true }
def StripFirstsUptoSaid : Prop := stripFirstsUptoRow.holds Tryz.pinned (OpenSpec.upto stripFirstsSpec)

/-- 'mahlsticklaw05.StripEarly', WHERE WHAT IT READS IS OF BULK AT MOST 1048576: true; the input reads as it did. -/
def stripEarlyUptoRow : OpenClaim := { program := "ytiehfpkcaoeieaagreatdoor", sum := "267ef411169d344d6b5885efb856eec5d321e2208d86c3c78a0df870ca155e68", func := "mahlstick/mahlsticklaw05.StripEarly", spec := "stripEarly", inPlace := ["internal/bytealg.CountString", "internal/bytealg.IndexByteString", "internal/bytealg.IndexString"], unfollowed := true, recurses := true, named := ["unicode/utf8.first", "unicode/utf8.acceptRanges", "internal/bytealg.MaxLen", "internal/strconv.uint64pow10", "math/bits.deBruijn32tab", "math/bits.deBruijn64tab"], plainKeys := false, apart := false, laid := [("math/bits.deBruijn32tab", laid_math_bits_deBruijn32tab), ("math/bits.deBruijn64tab", laid_math_bits_deBruijn64tab), ("internal/strconv.uint64pow10", laid_internal_strconv_uint64pow10), ("unicode/utf8.acceptRanges", laid_unicode_utf8_acceptRanges), ("unicode/utf8.first", laid_unicode_utf8_first)], narrowed := true }
def StripEarlyUptoSaid : Prop := stripEarlyUptoRow.holds Tryz.pinned (OpenSpec.upto stripEarlySpec)

/-- 'mahlsticklaw05.StripWords', WHERE WHAT IT READS IS OF BULK AT MOST 1048576: true; the input reads as it did. -/
def stripWordsUptoRow : OpenClaim := { program := "ytiehfpkcaoeieaagreatdoor", sum := "267ef411169d344d6b5885efb856eec5d321e2208d86c3c78a0df870ca155e68", func := "mahlstick/mahlsticklaw05.StripWords", spec := "stripWords", inPlace := ["internal/bytealg.CountString", "internal/bytealg.IndexByteString", "internal/bytealg.IndexString"], unfollowed := true, recurses := true, named := ["unicode/utf8.first", "unicode/utf8.acceptRanges", "internal/bytealg.MaxLen", "internal/strconv.uint64pow10", "math/bits.deBruijn32tab", "math/bits.deBruijn64tab"], plainKeys := false, apart := false, laid := [("math/bits.deBruijn32tab", laid_math_bits_deBruijn32tab), ("math/bits.deBruijn64tab", laid_math_bits_deBruijn64tab), ("internal/strconv.uint64pow10", laid_internal_strconv_uint64pow10), ("unicode/utf8.acceptRanges", laid_unicode_utf8_acceptRanges), ("unicode/utf8.first", laid_unicode_utf8_first)], narrowed := true }
def StripWordsUptoSaid : Prop := stripWordsUptoRow.holds Tryz.pinned (OpenSpec.upto stripWordsSpec)

/-- 'mahlsticklaw05.StripTrue', WHERE WHAT IT READS IS OF BULK AT MOST 1048576: true; the input reads as it did. -/
def stripTrueUptoRow : OpenClaim := { program := "ytiehfpkcaoeieaagreatdoor", sum := "267ef411169d344d6b5885efb856eec5d321e2208d86c3c78a0df870ca155e68", func := "mahlstick/mahlsticklaw05.StripTrue", spec := "stripTrue", inPlace := ["internal/bytealg.CountString", "internal/bytealg.IndexByteString", "internal/bytealg.IndexString"], unfollowed := true, recurses := true, named := ["unicode/utf8.first", "unicode/utf8.acceptRanges", "internal/bytealg.MaxLen", "internal/strconv.uint64pow10", "math/bits.deBruijn32tab", "math/bits.deBruijn64tab"], plainKeys := false, apart := false, laid := [("math/bits.deBruijn32tab", laid_math_bits_deBruijn32tab), ("math/bits.deBruijn64tab", laid_math_bits_deBruijn64tab), ("internal/strconv.uint64pow10", laid_internal_strconv_uint64pow10), ("unicode/utf8.acceptRanges", laid_unicode_utf8_acceptRanges), ("unicode/utf8.first", laid_unicode_utf8_first)], narrowed := true }
def StripTrueUptoSaid : Prop := stripTrueUptoRow.holds Tryz.pinned (OpenSpec.upto stripTrueSpec)

/-- 'mahlsticklaw05.StripAdds', WHERE WHAT IT READS IS OF BULK AT MOST 1048576: true; the input reads as it did. -/
def stripAddsUptoRow : OpenClaim := { program := "ytiehfpkcaoeieaagreatdoor", sum := "267ef411169d344d6b5885efb856eec5d321e2208d86c3c78a0df870ca155e68", func := "mahlstick/mahlsticklaw05.StripAdds", spec := "stripAdds", inPlace := ["internal/bytealg.CountString", "internal/bytealg.IndexByteString", "internal/bytealg.IndexString"], unfollowed := true, recurses := true, named := ["unicode/utf8.first", "unicode/utf8.acceptRanges", "internal/bytealg.MaxLen", "internal/strconv.uint64pow10", "math/bits.deBruijn32tab", "math/bits.deBruijn64tab"], plainKeys := false, apart := false, laid := [("math/bits.deBruijn32tab", laid_math_bits_deBruijn32tab), ("math/bits.deBruijn64tab", laid_math_bits_deBruijn64tab), ("internal/strconv.uint64pow10", laid_internal_strconv_uint64pow10), ("unicode/utf8.acceptRanges", laid_unicode_utf8_acceptRanges), ("unicode/utf8.first", laid_unicode_utf8_first)], narrowed := true }
def StripAddsUptoSaid : Prop := stripAddsUptoRow.holds Tryz.pinned (OpenSpec.upto stripAddsSpec)

/-- 'mahlsticklaw05.StripSeen', WHERE WHAT IT READS IS OF BULK AT MOST 1048576: true; the input reads as it did. -/
def stripSeenUptoRow : OpenClaim := { program := "ytiehfpkcaoeieaagreatdoor", sum := "267ef411169d344d6b5885efb856eec5d321e2208d86c3c78a0df870ca155e68", func := "mahlstick/mahlsticklaw05.StripSeen", spec := "stripSeen", inPlace := ["internal/bytealg.CountString", "internal/bytealg.IndexByteString", "internal/bytealg.IndexString"], unfollowed := true, recurses := true, named := ["unicode/utf8.first", "unicode/utf8.acceptRanges", "internal/bytealg.MaxLen", "internal/strconv.uint64pow10", "math/bits.deBruijn32tab", "math/bits.deBruijn64tab"], plainKeys := false, apart := false, laid := [("math/bits.deBruijn32tab", laid_math_bits_deBruijn32tab), ("math/bits.deBruijn64tab", laid_math_bits_deBruijn64tab), ("internal/strconv.uint64pow10", laid_internal_strconv_uint64pow10), ("unicode/utf8.acceptRanges", laid_unicode_utf8_acceptRanges), ("unicode/utf8.first", laid_unicode_utf8_first)], narrowed := true }
def StripSeenUptoSaid : Prop := stripSeenUptoRow.holds Tryz.pinned (OpenSpec.upto stripSeenSpec)

/-- 'mahlsticklaw05.StripNexts', WHERE WHAT IT READS IS OF BULK AT MOST 1048576: true; the input reads as it did. -/
def stripNextsUptoRow : OpenClaim := { program := "ytiehfpkcaoeieaagreatdoor", sum := "267ef411169d344d6b5885efb856eec5d321e2208d86c3c78a0df870ca155e68", func := "mahlstick/mahlsticklaw05.StripNexts", spec := "stripNexts", inPlace := ["internal/bytealg.CountString", "internal/bytealg.IndexByteString", "internal/bytealg.IndexString"], unfollowed := true, recurses := true, named := ["unicode/utf8.first", "unicode/utf8.acceptRanges", "internal/bytealg.MaxLen", "internal/strconv.uint64pow10", "math/bits.deBruijn32tab", "math/bits.deBruijn64tab"], plainKeys := false, apart := false, laid := [("math/bits.deBruijn32tab", laid_math_bits_deBruijn32tab), ("math/bits.deBruijn64tab", laid_math_bits_deBruijn64tab), ("internal/strconv.uint64pow10", laid_internal_strconv_uint64pow10), ("unicode/utf8.acceptRanges", laid_unicode_utf8_acceptRanges), ("unicode/utf8.first", laid_unicode_utf8_first)], narrowed := true }
def StripNextsUptoSaid : Prop := stripNextsUptoRow.holds Tryz.pinned (OpenSpec.upto stripNextsSpec)

/-- 'mahlsticklaw05.StripAsked', WHERE WHAT IT READS IS OF BULK AT MOST 1048576: true; the input reads as it did. -/
def stripAskedUptoRow : OpenClaim := { program := "ytiehfpkcaoeieaagreatdoor", sum := "267ef411169d344d6b5885efb856eec5d321e2208d86c3c78a0df870ca155e68", func := "mahlstick/mahlsticklaw05.StripAsked", spec := "stripAsked", inPlace := ["internal/bytealg.CountString", "internal/bytealg.IndexByteString", "internal/bytealg.IndexString"], unfollowed := true, recurses := true, named := ["unicode/utf8.first", "unicode/utf8.acceptRanges", "internal/bytealg.MaxLen", "internal/strconv.uint64pow10", "math/bits.deBruijn32tab", "math/bits.deBruijn64tab"], plainKeys := false, apart := false, laid := [("math/bits.deBruijn32tab", laid_math_bits_deBruijn32tab), ("math/bits.deBruijn64tab", laid_math_bits_deBruijn64tab), ("internal/strconv.uint64pow10", laid_internal_strconv_uint64pow10), ("unicode/utf8.acceptRanges", laid_unicode_utf8_acceptRanges), ("unicode/utf8.first", laid_unicode_utf8_first)], narrowed := true }
def StripAskedUptoSaid : Prop := stripAskedUptoRow.holds Tryz.pinned (OpenSpec.upto stripAskedSpec)

/-- 'mahlsticklaw05.StripClashes', WHERE WHAT IT READS IS OF BULK AT MOST 1048576: true; the input reads as it did. -/
def stripClashesUptoRow : OpenClaim := { program := "ytiehfpkcaoeieaagreatdoor", sum := "267ef411169d344d6b5885efb856eec5d321e2208d86c3c78a0df870ca155e68", func := "mahlstick/mahlsticklaw05.StripClashes", spec := "stripClashes", inPlace := ["internal/bytealg.CountString", "internal/bytealg.IndexByteString", "internal/bytealg.IndexString"], unfollowed := true, recurses := true, named := ["unicode/utf8.first", "unicode/utf8.acceptRanges", "internal/bytealg.MaxLen", "internal/strconv.uint64pow10", "math/bits.deBruijn32tab", "math/bits.deBruijn64tab"], plainKeys := false, apart := false, laid := [("math/bits.deBruijn32tab", laid_math_bits_deBruijn32tab), ("math/bits.deBruijn64tab", laid_math_bits_deBruijn64tab), ("internal/strconv.uint64pow10", laid_internal_strconv_uint64pow10), ("unicode/utf8.acceptRanges", laid_unicode_utf8_acceptRanges), ("unicode/utf8.first", laid_unicode_utf8_first)], narrowed := true }
def StripClashesUptoSaid : Prop := stripClashesUptoRow.holds Tryz.pinned (OpenSpec.upto stripClashesSpec)

/-- 'mahlsticklaw05.StripProved', WHERE WHAT IT READS IS OF BULK AT MOST 1048576: true; the input reads as it did. -/
def stripProvedUptoRow : OpenClaim := { program := "ytiehfpkcaoeieaagreatdoor", sum := "267ef411169d344d6b5885efb856eec5d321e2208d86c3c78a0df870ca155e68", func := "mahlstick/mahlsticklaw05.StripProved", spec := "stripProved", inPlace := ["internal/bytealg.CountString", "internal/bytealg.IndexByteString", "internal/bytealg.IndexString"], unfollowed := true, recurses := true, named := ["unicode/utf8.first", "unicode/utf8.acceptRanges", "internal/bytealg.MaxLen", "internal/strconv.uint64pow10", "math/bits.deBruijn32tab", "math/bits.deBruijn64tab"], plainKeys := false, apart := false, laid := [("math/bits.deBruijn32tab", laid_math_bits_deBruijn32tab), ("math/bits.deBruijn64tab", laid_math_bits_deBruijn64tab), ("internal/strconv.uint64pow10", laid_internal_strconv_uint64pow10), ("unicode/utf8.acceptRanges", laid_unicode_utf8_acceptRanges), ("unicode/utf8.first", laid_unicode_utf8_first)], narrowed := true }
def StripProvedUptoSaid : Prop := stripProvedUptoRow.holds Tryz.pinned (OpenSpec.upto stripProvedSpec)

/-- 'mahlsticklaw05.StripWrongs', WHERE WHAT IT READS IS OF BULK AT MOST 1048576: true; the input reads as it did. -/
def stripWrongsUptoRow : OpenClaim := { program := "ytiehfpkcaoeieaagreatdoor", sum := "267ef411169d344d6b5885efb856eec5d321e2208d86c3c78a0df870ca155e68", func := "mahlstick/mahlsticklaw05.StripWrongs", spec := "stripWrongs", inPlace := ["internal/bytealg.CountString", "internal/bytealg.IndexByteString", "internal/bytealg.IndexString"], unfollowed := true, recurses := true, named := ["unicode/utf8.first", "unicode/utf8.acceptRanges", "internal/bytealg.MaxLen", "internal/strconv.uint64pow10", "math/bits.deBruijn32tab", "math/bits.deBruijn64tab"], plainKeys := false, apart := false, laid := [("math/bits.deBruijn32tab", laid_math_bits_deBruijn32tab), ("math/bits.deBruijn64tab", laid_math_bits_deBruijn64tab), ("internal/strconv.uint64pow10", laid_internal_strconv_uint64pow10), ("unicode/utf8.acceptRanges", laid_unicode_utf8_acceptRanges), ("unicode/utf8.first", laid_unicode_utf8_first)], narrowed := true }
def StripWrongsUptoSaid : Prop := stripWrongsUptoRow.holds Tryz.pinned (OpenSpec.upto stripWrongsSpec)

/-- 'mahlsticklaw05.StripBlamed', WHERE WHAT IT READS IS OF BULK AT MOST 1048576: true; the input reads as it did. -/
def stripBlamedUptoRow : OpenClaim := { program := "ytiehfpkcaoeieaagreatdoor", sum := "267ef411169d344d6b5885efb856eec5d321e2208d86c3c78a0df870ca155e68", func := "mahlstick/mahlsticklaw05.StripBlamed", spec := "stripBlamed", inPlace := ["internal/bytealg.CountString", "internal/bytealg.IndexByteString", "internal/bytealg.IndexString"], unfollowed := true, recurses := true, named := ["unicode/utf8.first", "unicode/utf8.acceptRanges", "internal/bytealg.MaxLen", "internal/strconv.uint64pow10", "math/bits.deBruijn32tab", "math/bits.deBruijn64tab"], plainKeys := false, apart := false, laid := [("math/bits.deBruijn32tab", laid_math_bits_deBruijn32tab), ("math/bits.deBruijn64tab", laid_math_bits_deBruijn64tab), ("internal/strconv.uint64pow10", laid_internal_strconv_uint64pow10), ("unicode/utf8.acceptRanges", laid_unicode_utf8_acceptRanges), ("unicode/utf8.first", laid_unicode_utf8_first)], narrowed := true }
def StripBlamedUptoSaid : Prop := stripBlamedUptoRow.holds Tryz.pinned (OpenSpec.upto stripBlamedSpec)

/-- 'mahlsticklaw05.StripSames', WHERE WHAT IT READS IS OF BULK AT MOST 1048576: true; the input reads as it did. -/
def stripSamesUptoRow : OpenClaim := { program := "ytiehfpkcaoeieaagreatdoor", sum := "267ef411169d344d6b5885efb856eec5d321e2208d86c3c78a0df870ca155e68", func := "mahlstick/mahlsticklaw05.StripSames", spec := "stripSames", inPlace := ["internal/bytealg.CountString", "internal/bytealg.IndexByteString", "internal/bytealg.IndexString"], unfollowed := true, recurses := true, named := ["unicode/utf8.first", "unicode/utf8.acceptRanges", "internal/bytealg.MaxLen", "internal/strconv.uint64pow10", "math/bits.deBruijn32tab", "math/bits.deBruijn64tab"], plainKeys := false, apart := false, laid := [("math/bits.deBruijn32tab", laid_math_bits_deBruijn32tab), ("math/bits.deBruijn64tab", laid_math_bits_deBruijn64tab), ("internal/strconv.uint64pow10", laid_internal_strconv_uint64pow10), ("unicode/utf8.acceptRanges", laid_unicode_utf8_acceptRanges), ("unicode/utf8.first", laid_unicode_utf8_first)], narrowed := true }
def StripSamesUptoSaid : Prop := stripSamesUptoRow.holds Tryz.pinned (OpenSpec.upto stripSamesSpec)

/-- 'mahlsticklaw05.StripOwned', WHERE WHAT IT READS IS OF BULK AT MOST 1048576: true; the input reads as it did. -/
def stripOwnedUptoRow : OpenClaim := { program := "ytiehfpkcaoeieaagreatdoor", sum := "267ef411169d344d6b5885efb856eec5d321e2208d86c3c78a0df870ca155e68", func := "mahlstick/mahlsticklaw05.StripOwned", spec := "stripOwned", inPlace := ["internal/bytealg.CountString", "internal/bytealg.IndexByteString", "internal/bytealg.IndexString"], unfollowed := true, recurses := true, named := ["unicode/utf8.first", "unicode/utf8.acceptRanges", "internal/bytealg.MaxLen", "internal/strconv.uint64pow10", "math/bits.deBruijn32tab", "math/bits.deBruijn64tab"], plainKeys := false, apart := false, laid := [("math/bits.deBruijn32tab", laid_math_bits_deBruijn32tab), ("math/bits.deBruijn64tab", laid_math_bits_deBruijn64tab), ("internal/strconv.uint64pow10", laid_internal_strconv_uint64pow10), ("unicode/utf8.acceptRanges", laid_unicode_utf8_acceptRanges), ("unicode/utf8.first", laid_unicode_utf8_first)], narrowed := true }
def StripOwnedUptoSaid : Prop := stripOwnedUptoRow.holds Tryz.pinned (OpenSpec.upto stripOwnedSpec)

/-- 'mahlsticklaw05.StripMore', WHERE WHAT IT READS IS OF BULK AT MOST 1048576: true; the input reads as it did. -/
def stripMoreUptoRow : OpenClaim := { program := "ytiehfpkcaoeieaagreatdoor", sum := "267ef411169d344d6b5885efb856eec5d321e2208d86c3c78a0df870ca155e68", func := "mahlstick/mahlsticklaw05.StripMore", spec := "stripMore", inPlace := ["internal/bytealg.CountString", "internal/bytealg.IndexByteString", "internal/bytealg.IndexString"], unfollowed := true, recurses := true, named := ["unicode/utf8.first", "unicode/utf8.acceptRanges", "internal/bytealg.MaxLen", "internal/strconv.uint64pow10", "math/bits.deBruijn32tab", "math/bits.deBruijn64tab"], plainKeys := false, apart := false, laid := [("math/bits.deBruijn32tab", laid_math_bits_deBruijn32tab), ("math/bits.deBruijn64tab", laid_math_bits_deBruijn64tab), ("internal/strconv.uint64pow10", laid_internal_strconv_uint64pow10), ("unicode/utf8.acceptRanges", laid_unicode_utf8_acceptRanges), ("unicode/utf8.first", laid_unicode_utf8_first)], narrowed := true }
def StripMoreUptoSaid : Prop := stripMoreUptoRow.holds Tryz.pinned (OpenSpec.upto stripMoreSpec)

/-- 'mahlsticklaw05.StripMisses', WHERE WHAT IT READS IS OF BULK AT MOST 1048576: true; the input reads as it did. -/
def stripMissesUptoRow : OpenClaim := { program := "ytiehfpkcaoeieaagreatdoor", sum := "267ef411169d344d6b5885efb856eec5d321e2208d86c3c78a0df870ca155e68", func := "mahlstick/mahlsticklaw05.StripMisses", spec := "stripMisses", inPlace := ["internal/bytealg.CountString", "internal/bytealg.IndexByteString", "internal/bytealg.IndexString"], unfollowed := true, recurses := true, named := ["unicode/utf8.first", "unicode/utf8.acceptRanges", "internal/bytealg.MaxLen", "internal/strconv.uint64pow10", "math/bits.deBruijn32tab", "math/bits.deBruijn64tab"], plainKeys := false, apart := false, laid := [("math/bits.deBruijn32tab", laid_math_bits_deBruijn32tab), ("math/bits.deBruijn64tab", laid_math_bits_deBruijn64tab), ("internal/strconv.uint64pow10", laid_internal_strconv_uint64pow10), ("unicode/utf8.acceptRanges", laid_unicode_utf8_acceptRanges), ("unicode/utf8.first", laid_unicode_utf8_first)], narrowed := true }
def StripMissesUptoSaid : Prop := stripMissesUptoRow.holds Tryz.pinned (OpenSpec.upto stripMissesSpec)

/-- 'mahlsticklaw05.StripPrints', WHERE WHAT IT READS IS OF BULK AT MOST 1048576: true; the input reads as it did. -/
def stripPrintsUptoRow : OpenClaim := { program := "ytiehfpkcaoeieaagreatdoor", sum := "267ef411169d344d6b5885efb856eec5d321e2208d86c3c78a0df870ca155e68", func := "mahlstick/mahlsticklaw05.StripPrints", spec := "stripPrints", inPlace := ["internal/bytealg.CountString", "internal/bytealg.IndexByteString", "internal/bytealg.IndexString"], unfollowed := true, recurses := true, named := ["unicode/utf8.first", "unicode/utf8.acceptRanges", "internal/bytealg.MaxLen", "internal/strconv.uint64pow10", "math/bits.deBruijn32tab", "math/bits.deBruijn64tab"], plainKeys := false, apart := false, laid := [("math/bits.deBruijn32tab", laid_math_bits_deBruijn32tab), ("math/bits.deBruijn64tab", laid_math_bits_deBruijn64tab), ("internal/strconv.uint64pow10", laid_internal_strconv_uint64pow10), ("unicode/utf8.acceptRanges", laid_unicode_utf8_acceptRanges), ("unicode/utf8.first", laid_unicode_utf8_first)], narrowed := true }
def StripPrintsUptoSaid : Prop := stripPrintsUptoRow.holds Tryz.pinned (OpenSpec.upto stripPrintsSpec)

/-- 'mahlsticklaw05.StripReads', WHERE WHAT IT READS IS OF BULK AT MOST 1048576: true; the input reads as it did. -/
def stripReadsUptoRow : OpenClaim := { program := "ytiehfpkcaoeieaagreatdoor", sum := "267ef411169d344d6b5885efb856eec5d321e2208d86c3c78a0df870ca155e68", func := "mahlstick/mahlsticklaw05.StripReads", spec := "stripReads", inPlace := ["internal/bytealg.CountString", "internal/bytealg.IndexByteString", "internal/bytealg.IndexString"], unfollowed := true, recurses := true, named := ["unicode/utf8.first", "unicode/utf8.acceptRanges", "internal/bytealg.MaxLen", "internal/strconv.uint64pow10", "math/bits.deBruijn32tab", "math/bits.deBruijn64tab"], plainKeys := false, apart := false, laid := [("math/bits.deBruijn32tab", laid_math_bits_deBruijn32tab), ("math/bits.deBruijn64tab", laid_math_bits_deBruijn64tab), ("internal/strconv.uint64pow10", laid_internal_strconv_uint64pow10), ("unicode/utf8.acceptRanges", laid_unicode_utf8_acceptRanges), ("unicode/utf8.first", laid_unicode_utf8_first)], narrowed := true }
def StripReadsUptoSaid : Prop := stripReadsUptoRow.holds Tryz.pinned (OpenSpec.upto stripReadsSpec)

/-- 'mahlsticklaw05.StripSpoilt', WHERE WHAT IT READS IS OF BULK AT MOST 1048576: true; the input reads as it did. -/
def stripSpoiltUptoRow : OpenClaim := { program := "ytiehfpkcaoeieaagreatdoor", sum := "267ef411169d344d6b5885efb856eec5d321e2208d86c3c78a0df870ca155e68", func := "mahlstick/mahlsticklaw05.StripSpoilt", spec := "stripSpoilt", inPlace := ["internal/bytealg.CountString", "internal/bytealg.IndexByteString", "internal/bytealg.IndexString"], unfollowed := true, recurses := true, named := ["unicode/utf8.first", "unicode/utf8.acceptRanges", "internal/bytealg.MaxLen", "internal/strconv.uint64pow10", "math/bits.deBruijn32tab", "math/bits.deBruijn64tab"], plainKeys := false, apart := false, laid := [("math/bits.deBruijn32tab", laid_math_bits_deBruijn32tab), ("math/bits.deBruijn64tab", laid_math_bits_deBruijn64tab), ("internal/strconv.uint64pow10", laid_internal_strconv_uint64pow10), ("unicode/utf8.acceptRanges", laid_unicode_utf8_acceptRanges), ("unicode/utf8.first", laid_unicode_utf8_first)], narrowed := true }
def StripSpoiltUptoSaid : Prop := stripSpoiltUptoRow.holds Tryz.pinned (OpenSpec.upto stripSpoiltSpec)

end Rows
end Go.Proofs.YtiehfpkcaoeieaaGreatDoor
