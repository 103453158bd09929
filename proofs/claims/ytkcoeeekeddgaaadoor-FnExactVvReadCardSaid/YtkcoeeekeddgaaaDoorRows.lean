/-
  NARROWER THAN 'FOR EVERY INPUT', by the rows' own cells (each row's printed sentence says how): FnExactVvText: laid · FnExactSibOk: laid · FnSibForm: laid · FnVvOne: laid · FnExactSibCmp: laid · FnSibThree: laid · FnSibCmp: laid · FnExactSibsShow: laid · FnVvBack: laid · FnExactVvRead: laid · FnVvStrict: laid.
  DERIVED. THE GIVEN ROWS OF THIS SEAT. 11 by the template 'for every input the law returns true; each argument reads behind the call as it read before'; 0 by the template 'total and deterministic' (their statements: YtkcoeeekeddgaaaDoorTotals.lean).
  GIVEN WITH THE SEED: the statements are not yours to turn. If you find one false, say at which input.
  Laid BY PROGRAM, IN A SANDBOX (cutbox-rows.mjs): the forced cells as the released guide's own fill.sh prints them over the translation d74f78fcb55d3b06… (all of the seat's roots in one cut). By AI agents, Wed Nov 11 2026. No macro, syntax, notation, axiom, sorry.
-/
import Derived.Test.YtkcoeeekeddgaaaDoorChecked
import GoSem.PinnedTables
import GoSem.Claim
import GoSem.ClaimJoined
import GoSem.ClaimMapViews
import Derived.JoinedTies
import Derived.KernelRfl
namespace Go.Proofs.YtkcoeeekeddgaaaDoor
/- THE CELL 'sum', in the pinned program and in every row, IS THE sha256 OF THE DUMP (.gsa) THAT YtkcoeeekeddgaaaDoorProg.lean LOADS. Nothing in Lean hashes anything: it is a label: what it is worth is what the hold of that sum in a sandbox is worth. -/
noncomputable def Tryd.pinned : Pinned := { name := "ytkcoeeekeddgaaadoor", sum := "d74f78fcb55d3b063e66ec3ebcf37bcc430c663c06345f5b7045448f0771a903", checked := Tryd.checked }
namespace Rows
def none {H : Type} : Left H := { results := [], args := [] }

/- WHAT THE LISTED PACKAGE-LEVEL VARIABLES READ AS WHEN THE CALL BEGINS. Each datum BY PROGRAM (the guide's laid-datum.mjs) off the statement by which the dump's own 'gosem.cut.vars' lays the variable. In a bare row this is a premise. The card (YtkcoeeekeddgaaaDoorCards.lean) ties it to the program's text. -/
def laid_math_bits_deBruijn32tab {H : Type} : DataW H := .agg [.lit (.int .u8 0), .lit (.int .u8 1), .lit (.int .u8 28), .lit (.int .u8 2), .lit (.int .u8 29), .lit (.int .u8 14), .lit (.int .u8 24), .lit (.int .u8 3), .lit (.int .u8 30), .lit (.int .u8 22), .lit (.int .u8 20), .lit (.int .u8 15), .lit (.int .u8 25), .lit (.int .u8 17), .lit (.int .u8 4), .lit (.int .u8 8), .lit (.int .u8 31), .lit (.int .u8 27), .lit (.int .u8 13), .lit (.int .u8 23), .lit (.int .u8 21), .lit (.int .u8 19), .lit (.int .u8 16), .lit (.int .u8 7), .lit (.int .u8 26), .lit (.int .u8 12), .lit (.int .u8 18), .lit (.int .u8 6), .lit (.int .u8 11), .lit (.int .u8 5), .lit (.int .u8 10), .lit (.int .u8 9)]
def laid_math_bits_deBruijn64tab {H : Type} : DataW H := .agg [.lit (.int .u8 0), .lit (.int .u8 1), .lit (.int .u8 56), .lit (.int .u8 2), .lit (.int .u8 57), .lit (.int .u8 49), .lit (.int .u8 28), .lit (.int .u8 3), .lit (.int .u8 61), .lit (.int .u8 58), .lit (.int .u8 42), .lit (.int .u8 50), .lit (.int .u8 38), .lit (.int .u8 29), .lit (.int .u8 17), .lit (.int .u8 4), .lit (.int .u8 62), .lit (.int .u8 47), .lit (.int .u8 59), .lit (.int .u8 36), .lit (.int .u8 45), .lit (.int .u8 43), .lit (.int .u8 51), .lit (.int .u8 22), .lit (.int .u8 53), .lit (.int .u8 39), .lit (.int .u8 33), .lit (.int .u8 30), .lit (.int .u8 24), .lit (.int .u8 18), .lit (.int .u8 12), .lit (.int .u8 5), .lit (.int .u8 63), .lit (.int .u8 55), .lit (.int .u8 48), .lit (.int .u8 27), .lit (.int .u8 60), .lit (.int .u8 41), .lit (.int .u8 37), .lit (.int .u8 16), .lit (.int .u8 46), .lit (.int .u8 35), .lit (.int .u8 44), .lit (.int .u8 21), .lit (.int .u8 52), .lit (.int .u8 32), .lit (.int .u8 23), .lit (.int .u8 11), .lit (.int .u8 54), .lit (.int .u8 26), .lit (.int .u8 40), .lit (.int .u8 15), .lit (.int .u8 34), .lit (.int .u8 20), .lit (.int .u8 31), .lit (.int .u8 10), .lit (.int .u8 25), .lit (.int .u8 14), .lit (.int .u8 19), .lit (.int .u8 9), .lit (.int .u8 13), .lit (.int .u8 8), .lit (.int .u8 7), .lit (.int .u8 6)]
def laid_internal_strconv_uint64pow10 {H : Type} : DataW H := .agg [.lit (.int .u64 1), .lit (.int .u64 10), .lit (.int .u64 100), .lit (.int .u64 1000), .lit (.int .u64 10000), .lit (.int .u64 100000), .lit (.int .u64 1000000), .lit (.int .u64 10000000), .lit (.int .u64 100000000), .lit (.int .u64 1000000000), .lit (.int .u64 10000000000), .lit (.int .u64 100000000000), .lit (.int .u64 1000000000000), .lit (.int .u64 10000000000000), .lit (.int .u64 100000000000000), .lit (.int .u64 1000000000000000), .lit (.int .u64 10000000000000000), .lit (.int .u64 100000000000000000), .lit (.int .u64 1000000000000000000), .lit (.int .u64 10000000000000000000)]
def laid_unicode_utf8_acceptRanges {H : Type} : DataW H := .agg [.agg [.lit (.int .u8 128), .lit (.int .u8 191)], .agg [.lit (.int .u8 160), .lit (.int .u8 191)], .agg [.lit (.int .u8 128), .lit (.int .u8 159)], .agg [.lit (.int .u8 144), .lit (.int .u8 191)], .agg [.lit (.int .u8 128), .lit (.int .u8 143)], .agg [.lit (.int .u8 0), .lit (.int .u8 0)], .agg [.lit (.int .u8 0), .lit (.int .u8 0)], .agg [.lit (.int .u8 0), .lit (.int .u8 0)], .agg [.lit (.int .u8 0), .lit (.int .u8 0)], .agg [.lit (.int .u8 0), .lit (.int .u8 0)], .agg [.lit (.int .u8 0), .lit (.int .u8 0)], .agg [.lit (.int .u8 0), .lit (.int .u8 0)], .agg [.lit (.int .u8 0), .lit (.int .u8 0)], .agg [.lit (.int .u8 0), .lit (.int .u8 0)], .agg [.lit (.int .u8 0), .lit (.int .u8 0)], .agg [.lit (.int .u8 0), .lit (.int .u8 0)]]
/-- One of Go's own tables, pinned by name: the form's constant. -/
def laid_unicode_utf8_first : DataW Unit := Go.Pinned.utf8First
def laid_strconv_ErrRange {H : Type} : DataW H := .iface "*errors.errorString" (.ptr (.agg [.lit (.string [118, 97, 108, 117, 101, 32, 111, 117, 116, 32, 111, 102, 32, 114, 97, 110, 103, 101])]))
def laid_strconv_ErrSyntax {H : Type} : DataW H := .iface "*errors.errorString" (.ptr (.agg [.lit (.string [105, 110, 118, 97, 108, 105, 100, 32, 115, 121, 110, 116, 97, 120])]))

/-- 'laws.FnExactVvText': WHATEVER THE INPUT: true; the input reads as it did. -/
def fnExactVvTextSpec : ChangeSpec := { name := "fnExactVvText", fn := fun _ => fun
  | [d] => { results := [.lit (.bool true)], args := [d] }
  | _ => none }
def fnExactVvTextRow : OpenClaim := { program := "ytkcoeeekeddgaaadoor", sum := "d74f78fcb55d3b063e66ec3ebcf37bcc430c663c06345f5b7045448f0771a903", func := "loop.example/swathe/laws.FnExactVvText", spec := "fnExactVvText", inPlace := ["internal/abi.NoEscape", "internal/bytealg.MakeNoZero"], recurses := true, named := ["internal/strconv.uint64pow10", "math/bits.deBruijn32tab", "math/bits.deBruijn64tab"], apart := false, laid := [("math/bits.deBruijn32tab", laid_math_bits_deBruijn32tab), ("math/bits.deBruijn64tab", laid_math_bits_deBruijn64tab), ("internal/strconv.uint64pow10", laid_internal_strconv_uint64pow10)] }
def FnExactVvTextSaid : Prop := fnExactVvTextRow.holds Tryd.pinned (OpenSpec.ofChange fnExactVvTextSpec)

/-- ITS FALSE NEIGHBOUR: 'it returns false'. Refute it at one input. -/
def fnExactVvTextWrong : ChangeSpec := { name := "fnExactVvText", fn := fun _ => fun
  | [d] => { results := [.lit (.bool false)], args := [d] }
  | _ => none }
def FnExactVvTextWrongFalsely : Prop := fnExactVvTextRow.holds Tryd.pinned (OpenSpec.ofChange fnExactVvTextWrong)

/-- 'laws.FnExactSibOk': WHATEVER THE INPUT: true; the input reads as it did. -/
def fnExactSibOkSpec : ChangeSpec := { name := "fnExactSibOk", fn := fun _ => fun
  | [d] => { results := [.lit (.bool true)], args := [d] }
  | _ => none }
def fnExactSibOkRow : OpenClaim := { program := "ytkcoeeekeddgaaadoor", sum := "d74f78fcb55d3b063e66ec3ebcf37bcc430c663c06345f5b7045448f0771a903", func := "loop.example/swathe/laws.FnExactSibOk", spec := "fnExactSibOk", inPlace := ["internal/bytealg.IndexByteString", "internal/bytealg.IndexString"], named := ["unicode/utf8.first", "unicode/utf8.acceptRanges", "internal/bytealg.MaxLen"], apart := false, laid := [("unicode/utf8.acceptRanges", laid_unicode_utf8_acceptRanges), ("unicode/utf8.first", laid_unicode_utf8_first)] }
def FnExactSibOkSaid : Prop := fnExactSibOkRow.holds Tryd.pinned (OpenSpec.ofChange fnExactSibOkSpec)

/-- ITS FALSE NEIGHBOUR: 'it returns false'. Refute it at one input. -/
def fnExactSibOkWrong : ChangeSpec := { name := "fnExactSibOk", fn := fun _ => fun
  | [d] => { results := [.lit (.bool false)], args := [d] }
  | _ => none }
def FnExactSibOkWrongFalsely : Prop := fnExactSibOkRow.holds Tryd.pinned (OpenSpec.ofChange fnExactSibOkWrong)

/-- 'laws.FnSibForm': WHATEVER THE INPUT: true; the input reads as it did. -/
def fnSibFormSpec : ChangeSpec := { name := "fnSibForm", fn := fun _ => fun
  | [d] => { results := [.lit (.bool true)], args := [d] }
  | _ => none }
def fnSibFormRow : OpenClaim := { program := "ytkcoeeekeddgaaadoor", sum := "d74f78fcb55d3b063e66ec3ebcf37bcc430c663c06345f5b7045448f0771a903", func := "loop.example/swathe/laws.FnSibForm", spec := "fnSibForm", inPlace := ["internal/bytealg.IndexByteString", "internal/bytealg.IndexString"], named := ["unicode/utf8.first", "unicode/utf8.acceptRanges", "internal/bytealg.MaxLen"], apart := false, laid := [("unicode/utf8.acceptRanges", laid_unicode_utf8_acceptRanges), ("unicode/utf8.first", laid_unicode_utf8_first)] }
def FnSibFormSaid : Prop := fnSibFormRow.holds Tryd.pinned (OpenSpec.ofChange fnSibFormSpec)

/-- ITS FALSE NEIGHBOUR: 'it returns false'. Refute it at one input. -/
def fnSibFormWrong : ChangeSpec := { name := "fnSibForm", fn := fun _ => fun
  | [d] => { results := [.lit (.bool false)], args := [d] }
  | _ => none }
def FnSibFormWrongFalsely : Prop := fnSibFormRow.holds Tryd.pinned (OpenSpec.ofChange fnSibFormWrong)

/-- 'laws.FnVvOne': WHATEVER THE INPUT: true; the input reads as it did. -/
def fnVvOneSpec : ChangeSpec := { name := "fnVvOne", fn := fun _ => fun
  | [d1, d2] => { results := [.lit (.bool true)], args := [d1, d2] }
  | _ => none }
def fnVvOneRow : OpenClaim := { program := "ytkcoeeekeddgaaadoor", sum := "d74f78fcb55d3b063e66ec3ebcf37bcc430c663c06345f5b7045448f0771a903", func := "loop.example/swathe/laws.FnVvOne", spec := "fnVvOne", inPlace := ["internal/abi.NoEscape", "internal/bytealg.MakeNoZero"], recurses := true, named := ["internal/strconv.uint64pow10", "math/bits.deBruijn32tab", "math/bits.deBruijn64tab"], apart := false, laid := [("math/bits.deBruijn32tab", laid_math_bits_deBruijn32tab), ("math/bits.deBruijn64tab", laid_math_bits_deBruijn64tab), ("internal/strconv.uint64pow10", laid_internal_strconv_uint64pow10)] }
def FnVvOneSaid : Prop := fnVvOneRow.holds Tryd.pinned (OpenSpec.ofChange fnVvOneSpec)

/-- ITS FALSE NEIGHBOUR: 'it returns false'. Refute it at one input. -/
def fnVvOneWrong : ChangeSpec := { name := "fnVvOne", fn := fun _ => fun
  | [d1, d2] => { results := [.lit (.bool false)], args := [d1, d2] }
  | _ => none }
def FnVvOneWrongFalsely : Prop := fnVvOneRow.holds Tryd.pinned (OpenSpec.ofChange fnVvOneWrong)

/-- 'laws.FnExactSibCmp': WHATEVER THE INPUT: true; the input reads as it did. -/
def fnExactSibCmpSpec : ChangeSpec := { name := "fnExactSibCmp", fn := fun _ => fun
  | [d1, d2] => { results := [.lit (.bool true)], args := [d1, d2] }
  | _ => none }
def fnExactSibCmpRow : OpenClaim := { program := "ytkcoeeekeddgaaadoor", sum := "d74f78fcb55d3b063e66ec3ebcf37bcc430c663c06345f5b7045448f0771a903", func := "loop.example/swathe/laws.FnExactSibCmp", spec := "fnExactSibCmp", inPlace := ["internal/bytealg.IndexByteString", "internal/bytealg.IndexString"], unfollowed := true, recurses := true, named := ["unicode/utf8.first", "unicode/utf8.acceptRanges", "internal/bytealg.MaxLen"], apart := false, laid := [("unicode/utf8.acceptRanges", laid_unicode_utf8_acceptRanges), ("unicode/utf8.first", laid_unicode_utf8_first)] }
def FnExactSibCmpSaid : Prop := fnExactSibCmpRow.holds Tryd.pinned (OpenSpec.ofChange fnExactSibCmpSpec)

/-- ITS FALSE NEIGHBOUR: 'it returns false'. Refute it at one input. -/
def fnExactSibCmpWrong : ChangeSpec := { name := "fnExactSibCmp", fn := fun _ => fun
  | [d1, d2] => { results := [.lit (.bool false)], args := [d1, d2] }
  | _ => none }
def FnExactSibCmpWrongFalsely : Prop := fnExactSibCmpRow.holds Tryd.pinned (OpenSpec.ofChange fnExactSibCmpWrong)

/-- 'laws.FnSibThree': WHATEVER THE INPUT: true; the input reads as it did. -/
def fnSibThreeSpec : ChangeSpec := { name := "fnSibThree", fn := fun _ => fun
  | [d1, d2] => { results := [.lit (.bool true)], args := [d1, d2] }
  | _ => none }
def fnSibThreeRow : OpenClaim := { program := "ytkcoeeekeddgaaadoor", sum := "d74f78fcb55d3b063e66ec3ebcf37bcc430c663c06345f5b7045448f0771a903", func := "loop.example/swathe/laws.FnSibThree", spec := "fnSibThree", inPlace := ["internal/bytealg.IndexByteString", "internal/bytealg.IndexString"], unfollowed := true, recurses := true, named := ["unicode/utf8.first", "unicode/utf8.acceptRanges", "internal/bytealg.MaxLen"], apart := false, laid := [("unicode/utf8.acceptRanges", laid_unicode_utf8_acceptRanges), ("unicode/utf8.first", laid_unicode_utf8_first)] }
def FnSibThreeSaid : Prop := fnSibThreeRow.holds Tryd.pinned (OpenSpec.ofChange fnSibThreeSpec)

/-- ITS FALSE NEIGHBOUR: 'it returns false'. Refute it at one input. -/
def fnSibThreeWrong : ChangeSpec := { name := "fnSibThree", fn := fun _ => fun
  | [d1, d2] => { results := [.lit (.bool false)], args := [d1, d2] }
  | _ => none }
def FnSibThreeWrongFalsely : Prop := fnSibThreeRow.holds Tryd.pinned (OpenSpec.ofChange fnSibThreeWrong)

/-- 'laws.FnSibCmp': WHATEVER THE INPUT: true; the input reads as it did. -/
def fnSibCmpSpec : ChangeSpec := { name := "fnSibCmp", fn := fun _ => fun
  | [d] => { results := [.lit (.bool true)], args := [d] }
  | _ => none }
def fnSibCmpRow : OpenClaim := { program := "ytkcoeeekeddgaaadoor", sum := "d74f78fcb55d3b063e66ec3ebcf37bcc430c663c06345f5b7045448f0771a903", func := "loop.example/swathe/laws.FnSibCmp", spec := "fnSibCmp", inPlace := ["internal/bytealg.IndexByteString", "internal/bytealg.IndexString"], unfollowed := true, recurses := true, named := ["unicode/utf8.first", "unicode/utf8.acceptRanges", "internal/bytealg.MaxLen"], apart := false, laid := [("unicode/utf8.acceptRanges", laid_unicode_utf8_acceptRanges), ("unicode/utf8.first", laid_unicode_utf8_first)] }
def FnSibCmpSaid : Prop := fnSibCmpRow.holds Tryd.pinned (OpenSpec.ofChange fnSibCmpSpec)

/-- ITS FALSE NEIGHBOUR: 'it returns false'. Refute it at one input. -/
def fnSibCmpWrong : ChangeSpec := { name := "fnSibCmp", fn := fun _ => fun
  | [d] => { results := [.lit (.bool false)], args := [d] }
  | _ => none }
def FnSibCmpWrongFalsely : Prop := fnSibCmpRow.holds Tryd.pinned (OpenSpec.ofChange fnSibCmpWrong)

/-- 'laws.FnExactSibsShow': WHATEVER THE INPUT: true; the input reads as it did. -/
def fnExactSibsShowSpec : ChangeSpec := { name := "fnExactSibsShow", fn := fun _ => fun
  | [d] => { results := [.lit (.bool true)], args := [d] }
  | _ => none }
def fnExactSibsShowRow : OpenClaim := { program := "ytkcoeeekeddgaaadoor", sum := "d74f78fcb55d3b063e66ec3ebcf37bcc430c663c06345f5b7045448f0771a903", func := "loop.example/swathe/laws.FnExactSibsShow", spec := "fnExactSibsShow", inPlace := ["internal/bytealg.IndexByteString", "internal/bytealg.IndexString"], unfollowed := true, recurses := true, named := ["unicode/utf8.first", "unicode/utf8.acceptRanges", "internal/bytealg.MaxLen"], apart := false, laid := [("unicode/utf8.acceptRanges", laid_unicode_utf8_acceptRanges), ("unicode/utf8.first", laid_unicode_utf8_first)] }
def FnExactSibsShowSaid : Prop := fnExactSibsShowRow.holds Tryd.pinned (OpenSpec.ofChange fnExactSibsShowSpec)

/-- ITS FALSE NEIGHBOUR: 'it returns false'. Refute it at one input. -/
def fnExactSibsShowWrong : ChangeSpec := { name := "fnExactSibsShow", fn := fun _ => fun
  | [d] => { results := [.lit (.bool false)], args := [d] }
  | _ => none }
def FnExactSibsShowWrongFalsely : Prop := fnExactSibsShowRow.holds Tryd.pinned (OpenSpec.ofChange fnExactSibsShowWrong)

/-- 'laws.FnVvBack': WHATEVER THE INPUT: true; the input reads as it did. -/
def fnVvBackSpec : ChangeSpec := { name := "fnVvBack", fn := fun _ => fun
  | [d] => { results := [.lit (.bool true)], args := [d] }
  | _ => none }
def fnVvBackRow : OpenClaim := { program := "ytkcoeeekeddgaaadoor", sum := "d74f78fcb55d3b063e66ec3ebcf37bcc430c663c06345f5b7045448f0771a903", func := "loop.example/swathe/laws.FnVvBack", spec := "fnVvBack", inPlace := ["internal/abi.NoEscape", "internal/bytealg.MakeNoZero", "internal/bytealg.CountString", "internal/bytealg.IndexByteString", "internal/bytealg.IndexString"], recurses := true, named := ["internal/strconv.uint64pow10", "math/bits.deBruijn32tab", "math/bits.deBruijn64tab", "unicode/utf8.first", "unicode/utf8.acceptRanges", "internal/bytealg.MaxLen", "strconv.ErrSyntax", "strconv.ErrRange"], apart := false, laid := [("math/bits.deBruijn32tab", laid_math_bits_deBruijn32tab), ("math/bits.deBruijn64tab", laid_math_bits_deBruijn64tab), ("internal/strconv.uint64pow10", laid_internal_strconv_uint64pow10), ("unicode/utf8.acceptRanges", laid_unicode_utf8_acceptRanges), ("strconv.ErrRange", laid_strconv_ErrRange), ("strconv.ErrSyntax", laid_strconv_ErrSyntax), ("unicode/utf8.first", laid_unicode_utf8_first)] }
def FnVvBackSaid : Prop := fnVvBackRow.holds Tryd.pinned (OpenSpec.ofChange fnVvBackSpec)

/-- ITS FALSE NEIGHBOUR: 'it returns false'. Refute it at one input. -/
def fnVvBackWrong : ChangeSpec := { name := "fnVvBack", fn := fun _ => fun
  | [d] => { results := [.lit (.bool false)], args := [d] }
  | _ => none }
def FnVvBackWrongFalsely : Prop := fnVvBackRow.holds Tryd.pinned (OpenSpec.ofChange fnVvBackWrong)

/-- 'laws.FnExactVvRead': WHATEVER THE INPUT: true; the input reads as it did. -/
def fnExactVvReadSpec : ChangeSpec := { name := "fnExactVvRead", fn := fun _ => fun
  | [d] => { results := [.lit (.bool true)], args := [d] }
  | _ => none }
def fnExactVvReadRow : OpenClaim := { program := "ytkcoeeekeddgaaadoor", sum := "d74f78fcb55d3b063e66ec3ebcf37bcc430c663c06345f5b7045448f0771a903", func := "loop.example/swathe/laws.FnExactVvRead", spec := "fnExactVvRead", inPlace := ["internal/bytealg.CountString", "internal/bytealg.IndexByteString", "internal/bytealg.IndexString", "internal/abi.NoEscape", "internal/bytealg.MakeNoZero"], recurses := true, named := ["unicode/utf8.first", "unicode/utf8.acceptRanges", "internal/bytealg.MaxLen", "strconv.ErrSyntax", "strconv.ErrRange", "internal/strconv.uint64pow10", "math/bits.deBruijn32tab", "math/bits.deBruijn64tab"], apart := false, laid := [("math/bits.deBruijn32tab", laid_math_bits_deBruijn32tab), ("math/bits.deBruijn64tab", laid_math_bits_deBruijn64tab), ("internal/strconv.uint64pow10", laid_internal_strconv_uint64pow10), ("unicode/utf8.acceptRanges", laid_unicode_utf8_acceptRanges), ("strconv.ErrRange", laid_strconv_ErrRange), ("strconv.ErrSyntax", laid_strconv_ErrSyntax), ("unicode/utf8.first", laid_unicode_utf8_first)] }
def FnExactVvReadSaid : Prop := fnExactVvReadRow.holds Tryd.pinned (OpenSpec.ofChange fnExactVvReadSpec)

/-- ITS FALSE NEIGHBOUR: 'it returns false'. Refute it at one input. -/
def fnExactVvReadWrong : ChangeSpec := { name := "fnExactVvRead", fn := fun _ => fun
  | [d] => { results := [.lit (.bool false)], args := [d] }
  | _ => none }
def FnExactVvReadWrongFalsely : Prop := fnExactVvReadRow.holds Tryd.pinned (OpenSpec.ofChange fnExactVvReadWrong)

/-- 'laws.FnVvStrict': WHATEVER THE INPUT: true; the input reads as it did. -/
def fnVvStrictSpec : ChangeSpec := { name := "fnVvStrict", fn := fun _ => fun
  | [d] => { results := [.lit (.bool true)], args := [d] }
  | _ => none }
def fnVvStrictRow : OpenClaim := { program := "ytkcoeeekeddgaaadoor", sum := "d74f78fcb55d3b063e66ec3ebcf37bcc430c663c06345f5b7045448f0771a903", func := "loop.example/swathe/laws.FnVvStrict", spec := "fnVvStrict", inPlace := ["internal/bytealg.CountString", "internal/bytealg.IndexByteString", "internal/bytealg.IndexString", "internal/abi.NoEscape", "internal/bytealg.MakeNoZero"], recurses := true, named := ["unicode/utf8.first", "unicode/utf8.acceptRanges", "internal/bytealg.MaxLen", "strconv.ErrSyntax", "strconv.ErrRange", "internal/strconv.uint64pow10", "math/bits.deBruijn32tab", "math/bits.deBruijn64tab"], apart := false, laid := [("math/bits.deBruijn32tab", laid_math_bits_deBruijn32tab), ("math/bits.deBruijn64tab", laid_math_bits_deBruijn64tab), ("internal/strconv.uint64pow10", laid_internal_strconv_uint64pow10), ("unicode/utf8.acceptRanges", laid_unicode_utf8_acceptRanges), ("strconv.ErrRange", laid_strconv_ErrRange), ("strconv.ErrSyntax", laid_strconv_ErrSyntax), ("unicode/utf8.first", laid_unicode_utf8_first)] }
def FnVvStrictSaid : Prop := fnVvStrictRow.holds Tryd.pinned (OpenSpec.ofChange fnVvStrictSpec)

/-- ITS FALSE NEIGHBOUR: 'it returns false'. Refute it at one input. -/
def fnVvStrictWrong : ChangeSpec := { name := "fnVvStrict", fn := fun _ => fun
  | [d] => { results := [.lit (.bool false)], args := [d] }
  | _ => none }
def FnVvStrictWrongFalsely : Prop := fnVvStrictRow.holds Tryd.pinned (OpenSpec.ofChange fnVvStrictWrong)

/- THE SECOND FORM. 'bulk': how many values and letters a reading holds, each counted each time it is reached (what is shared counts as often as it is met; a slice's spare places count too). A statement '..UptoSaid' is the law's where the arguments, and the package variables that the reading takes, are together of bulk at most 1048576: NARROWER than '..Said'. Prove '..Said' where nothing that the law and all that it calls make is longer than what came in: it says more and counts as full. Else prove '..UptoSaid'. A law counts once. -/
mutual
def uptoBulk {H : Type} : DataW H → Nat
  | .lit (.string bytes) => bytes.length + 1
  | .lit _ => 1
  | .nil => 1
  | .ptr d => uptoBulk d + 1
  | .slice elems spare => uptoBulkAll elems + uptoBulkAll spare + 1
  | .agg parts => uptoBulkAll parts + 1
  | .iface _ d => uptoBulk d + 1
  | .map entries => uptoBulkEntries entries + 1
  | .held _ => 1
def uptoBulkAll {H : Type} : List (DataW H) → Nat
  | [] => 0
  | d :: r => uptoBulk d + uptoBulkAll r
def uptoBulkEntries {H : Type} : List (Lit × DataW H) → Nat
  | [] => 0
  | x :: r => uptoBulkEntry x + uptoBulkEntries r
def uptoBulkEntry {H : Type} : Lit × DataW H → Nat
  | (.string bytes, d) => bytes.length + uptoBulk d + 1
  | (_, d) => uptoBulk d + 1
 end
def uptoSmall : (H : Type) → List (DataW H) → Bool := fun _ ds => decide (uptoBulkAll ds ≤ 1048576)
def OpenSpec.upto (s : _root_.Go.ChangeSpec) : _root_.Go.OpenSpec := { _root_.Go.OpenSpec.ofChange s with cond := some uptoSmall }

/-- 'laws.FnExactVvText', WHERE WHAT IT READS IS OF BULK AT MOST 1048576: true; the input reads as it did. -/
def fnExactVvTextUptoRow : OpenClaim := { program := "ytkcoeeekeddgaaadoor", sum := "d74f78fcb55d3b063e66ec3ebcf37bcc430c663c06345f5b7045448f0771a903", func := "loop.example/swathe/laws.FnExactVvText", spec := "fnExactVvText", inPlace := ["internal/abi.NoEscape", "internal/bytealg.MakeNoZero"], recurses := true, named := ["internal/strconv.uint64pow10", "math/bits.deBruijn32tab", "math/bits.deBruijn64tab"], apart := false, laid := [("math/bits.deBruijn32tab", laid_math_bits_deBruijn32tab), ("math/bits.deBruijn64tab", laid_math_bits_deBruijn64tab), ("internal/strconv.uint64pow10", laid_internal_strconv_uint64pow10)], narrowed := true }
def FnExactVvTextUptoSaid : Prop := fnExactVvTextUptoRow.holds Tryd.pinned (OpenSpec.upto fnExactVvTextSpec)

/-- 'laws.FnExactSibOk', WHERE WHAT IT READS IS OF BULK AT MOST 1048576: true; the input reads as it did. -/
def fnExactSibOkUptoRow : OpenClaim := { program := "ytkcoeeekeddgaaadoor", sum := "d74f78fcb55d3b063e66ec3ebcf37bcc430c663c06345f5b7045448f0771a903", func := "loop.example/swathe/laws.FnExactSibOk", spec := "fnExactSibOk", inPlace := ["internal/bytealg.IndexByteString", "internal/bytealg.IndexString"], named := ["unicode/utf8.first", "unicode/utf8.acceptRanges", "internal/bytealg.MaxLen"], apart := false, laid := [("unicode/utf8.acceptRanges", laid_unicode_utf8_acceptRanges), ("unicode/utf8.first", laid_unicode_utf8_first)], narrowed := true }
def FnExactSibOkUptoSaid : Prop := fnExactSibOkUptoRow.holds Tryd.pinned (OpenSpec.upto fnExactSibOkSpec)

/-- 'laws.FnSibForm', WHERE WHAT IT READS IS OF BULK AT MOST 1048576: true; the input reads as it did. -/
def fnSibFormUptoRow : OpenClaim := { program := "ytkcoeeekeddgaaadoor", sum := "d74f78fcb55d3b063e66ec3ebcf37bcc430c663c06345f5b7045448f0771a903", func := "loop.example/swathe/laws.FnSibForm", spec := "fnSibForm", inPlace := ["internal/bytealg.IndexByteString", "internal/bytealg.IndexString"], named := ["unicode/utf8.first", "unicode/utf8.acceptRanges", "internal/bytealg.MaxLen"], apart := false, laid := [("unicode/utf8.acceptRanges", laid_unicode_utf8_acceptRanges), ("unicode/utf8.first", laid_unicode_utf8_first)], narrowed := true }
def FnSibFormUptoSaid : Prop := fnSibFormUptoRow.holds Tryd.pinned (OpenSpec.upto fnSibFormSpec)

/-- 'laws.FnVvOne', WHERE WHAT IT READS IS OF BULK AT MOST 1048576: true; the input reads as it did. -/
def fnVvOneUptoRow : OpenClaim := { program := "ytkcoeeekeddgaaadoor", sum := "d74f78fcb55d3b063e66ec3ebcf37bcc430c663c06345f5b7045448f0771a903", func := "loop.example/swathe/laws.FnVvOne", spec := "fnVvOne", inPlace := ["internal/abi.NoEscape", "internal/bytealg.MakeNoZero"], recurses := true, named := ["internal/strconv.uint64pow10", "math/bits.deBruijn32tab", "math/bits.deBruijn64tab"], apart := false, laid := [("math/bits.deBruijn32tab", laid_math_bits_deBruijn32tab), ("math/bits.deBruijn64tab", laid_math_bits_deBruijn64tab), ("internal/strconv.uint64pow10", laid_internal_strconv_uint64pow10)], narrowed := true }
def FnVvOneUptoSaid : Prop := fnVvOneUptoRow.holds Tryd.pinned (OpenSpec.upto fnVvOneSpec)

/-- 'laws.FnExactSibCmp', WHERE WHAT IT READS IS OF BULK AT MOST 1048576: true; the input reads as it did. -/
def fnExactSibCmpUptoRow : OpenClaim := { program := "ytkcoeeekeddgaaadoor", sum := "d74f78fcb55d3b063e66ec3ebcf37bcc430c663c06345f5b7045448f0771a903", func := "loop.example/swathe/laws.FnExactSibCmp", spec := "fnExactSibCmp", inPlace := ["internal/bytealg.IndexByteString", "internal/bytealg.IndexString"], unfollowed := true, recurses := true, named := ["unicode/utf8.first", "unicode/utf8.acceptRanges", "internal/bytealg.MaxLen"], apart := false, laid := [("unicode/utf8.acceptRanges", laid_unicode_utf8_acceptRanges), ("unicode/utf8.first", laid_unicode_utf8_first)], narrowed := true }
def FnExactSibCmpUptoSaid : Prop := fnExactSibCmpUptoRow.holds Tryd.pinned (OpenSpec.upto fnExactSibCmpSpec)

/-- 'laws.FnSibThree', WHERE WHAT IT READS IS OF BULK AT MOST 1048576: true; the input reads as it did. -/
def fnSibThreeUptoRow : OpenClaim := { program := "ytkcoeeekeddgaaadoor", sum := "d74f78fcb55d3b063e66ec3ebcf37bcc430c663c06345f5b7045448f0771a903", func := "loop.example/swathe/laws.FnSibThree", spec := "fnSibThree", inPlace := ["internal/bytealg.IndexByteString", "internal/bytealg.IndexString"], unfollowed := true, recurses := true, named := ["unicode/utf8.first", "unicode/utf8.acceptRanges", "internal/bytealg.MaxLen"], apart := false, laid := [("unicode/utf8.acceptRanges", laid_unicode_utf8_acceptRanges), ("unicode/utf8.first", laid_unicode_utf8_first)], narrowed := true }
def FnSibThreeUptoSaid : Prop := fnSibThreeUptoRow.holds Tryd.pinned (OpenSpec.upto fnSibThreeSpec)

/-- 'laws.FnSibCmp', WHERE WHAT IT READS IS OF BULK AT MOST 1048576: true; the input reads as it did. -/
def fnSibCmpUptoRow : OpenClaim := { program := "ytkcoeeekeddgaaadoor", sum := "d74f78fcb55d3b063e66ec3ebcf37bcc430c663c06345f5b7045448f0771a903", func := "loop.example/swathe/laws.FnSibCmp", spec := "fnSibCmp", inPlace := ["internal/bytealg.IndexByteString", "internal/bytealg.IndexString"], unfollowed := true, recurses := true, named := ["unicode/utf8.first", "unicode/utf8.acceptRanges", "internal/bytealg.MaxLen"], apart := false, laid := [("unicode/utf8.acceptRanges", laid_unicode_utf8_acceptRanges), ("unicode/utf8.first", laid_unicode_utf8_first)], narrowed := true }
def FnSibCmpUptoSaid : Prop := fnSibCmpUptoRow.holds Tryd.pinned (OpenSpec.upto fnSibCmpSpec)

/-- 'laws.FnExactSibsShow', WHERE WHAT IT READS IS OF BULK AT MOST 1048576: true; the input reads as it did. -/
def fnExactSibsShowUptoRow : OpenClaim := { program := "ytkcoeeekeddgaaadoor", sum := "d74f78fcb55d3b063e66ec3ebcf37bcc430c663c06345f5b7045448f0771a903", func := "loop.example/swathe/laws.FnExactSibsShow", spec := "fnExactSibsShow", inPlace := ["internal/bytealg.IndexByteString", "internal/bytealg.IndexString"], unfollowed := true, recurses := true, named := ["unicode/utf8.first", "unicode/utf8.acceptRanges", "internal/bytealg.MaxLen"], apart := false, laid := [("unicode/utf8.acceptRanges", laid_unicode_utf8_acceptRanges), ("unicode/utf8.first", laid_unicode_utf8_first)], narrowed := true }
def FnExactSibsShowUptoSaid : Prop := fnExactSibsShowUptoRow.holds Tryd.pinned (OpenSpec.upto fnExactSibsShowSpec)

/-- 'laws.FnVvBack', WHERE WHAT IT READS IS OF BULK AT MOST 1048576: true; the input reads as it did. -/
def fnVvBackUptoRow : OpenClaim := { program := "ytkcoeeekeddgaaadoor", sum := "d74f78fcb55d3b063e66ec3ebcf37bcc430c663c06345f5b7045448f0771a903", func := "loop.example/swathe/laws.FnVvBack", spec := "fnVvBack", inPlace := ["internal/abi.NoEscape", "internal/bytealg.MakeNoZero", "internal/bytealg.CountString", "internal/bytealg.IndexByteString", "internal/bytealg.IndexString"], recurses := true, named := ["internal/strconv.uint64pow10", "math/bits.deBruijn32tab", "math/bits.deBruijn64tab", "unicode/utf8.first", "unicode/utf8.acceptRanges", "internal/bytealg.MaxLen", "strconv.ErrSyntax", "strconv.ErrRange"], apart := false, laid := [("math/bits.deBruijn32tab", laid_math_bits_deBruijn32tab), ("math/bits.deBruijn64tab", laid_math_bits_deBruijn64tab), ("internal/strconv.uint64pow10", laid_internal_strconv_uint64pow10), ("unicode/utf8.acceptRanges", laid_unicode_utf8_acceptRanges), ("strconv.ErrRange", laid_strconv_ErrRange), ("strconv.ErrSyntax", laid_strconv_ErrSyntax), ("unicode/utf8.first", laid_unicode_utf8_first)], narrowed := true }
def FnVvBackUptoSaid : Prop := fnVvBackUptoRow.holds Tryd.pinned (OpenSpec.upto fnVvBackSpec)

/-- 'laws.FnExactVvRead', WHERE WHAT IT READS IS OF BULK AT MOST 1048576: true; the input reads as it did. -/
def fnExactVvReadUptoRow : OpenClaim := { program := "ytkcoeeekeddgaaadoor", sum := "d74f78fcb55d3b063e66ec3ebcf37bcc430c663c06345f5b7045448f0771a903", func := "loop.example/swathe/laws.FnExactVvRead", spec := "fnExactVvRead", inPlace := ["internal/bytealg.CountString", "internal/bytealg.IndexByteString", "internal/bytealg.IndexString", "internal/abi.NoEscape", "internal/bytealg.MakeNoZero"], recurses := true, named := ["unicode/utf8.first", "unicode/utf8.acceptRanges", "internal/bytealg.MaxLen", "strconv.ErrSyntax", "strconv.ErrRange", "internal/strconv.uint64pow10", "math/bits.deBruijn32tab", "math/bits.deBruijn64tab"], apart := false, laid := [("math/bits.deBruijn32tab", laid_math_bits_deBruijn32tab), ("math/bits.deBruijn64tab", laid_math_bits_deBruijn64tab), ("internal/strconv.uint64pow10", laid_internal_strconv_uint64pow10), ("unicode/utf8.acceptRanges", laid_unicode_utf8_acceptRanges), ("strconv.ErrRange", laid_strconv_ErrRange), ("strconv.ErrSyntax", laid_strconv_ErrSyntax), ("unicode/utf8.first", laid_unicode_utf8_first)], narrowed := true }
def FnExactVvReadUptoSaid : Prop := fnExactVvReadUptoRow.holds Tryd.pinned (OpenSpec.upto fnExactVvReadSpec)

/-- 'laws.FnVvStrict', WHERE WHAT IT READS IS OF BULK AT MOST 1048576: true; the input reads as it did. -/
def fnVvStrictUptoRow : OpenClaim := { program := "ytkcoeeekeddgaaadoor", sum := "d74f78fcb55d3b063e66ec3ebcf37bcc430c663c06345f5b7045448f0771a903", func := "loop.example/swathe/laws.FnVvStrict", spec := "fnVvStrict", inPlace := ["internal/bytealg.CountString", "internal/bytealg.IndexByteString", "internal/bytealg.IndexString", "internal/abi.NoEscape", "internal/bytealg.MakeNoZero"], recurses := true, named := ["unicode/utf8.first", "unicode/utf8.acceptRanges", "internal/bytealg.MaxLen", "strconv.ErrSyntax", "strconv.ErrRange", "internal/strconv.uint64pow10", "math/bits.deBruijn32tab", "math/bits.deBruijn64tab"], apart := false, laid := [("math/bits.deBruijn32tab", laid_math_bits_deBruijn32tab), ("math/bits.deBruijn64tab", laid_math_bits_deBruijn64tab), ("internal/strconv.uint64pow10", laid_internal_strconv_uint64pow10), ("unicode/utf8.acceptRanges", laid_unicode_utf8_acceptRanges), ("strconv.ErrRange", laid_strconv_ErrRange), ("strconv.ErrSyntax", laid_strconv_ErrSyntax), ("unicode/utf8.first", laid_unicode_utf8_first)], narrowed := true }
def FnVvStrictUptoSaid : Prop := fnVvStrictUptoRow.holds Tryd.pinned (OpenSpec.upto fnVvStrictSpec)

end Rows
end Go.Proofs.YtkcoeeekeddgaaaDoor
