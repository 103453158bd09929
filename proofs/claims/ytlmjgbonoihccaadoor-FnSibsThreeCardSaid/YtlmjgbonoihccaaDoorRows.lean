/-
  NARROWER THAN 'FOR EVERY INPUT', by the rows' own cells (each row's printed sentence says how): FnSibsVv: laid · FnSibsKnown: laid · FnExactSibsMerge: laid · FnExactSibsOk: laid · FnSibsShow: laid · FnSibsForm: laid · FnTreeForm: laid · FnExactSibsVv: laid · FnSibsBoth: laid · FnSibsThree: laid · FnSibsIn: laid · FnSibsMerge: laid.
  DERIVED. THE GIVEN ROWS OF THIS SEAT. 12 by the template 'for every input the law returns true; each argument reads behind the call as it read before'; 0 by the template 'total and deterministic' (their statements: YtlmjgbonoihccaaDoorTotals.lean).
  GIVEN WITH THE SEED: the statements are not yours to turn. If you find one false, say at which input.
  Laid BY PROGRAM, IN A SANDBOX (cutbox-rows.mjs): the forced cells as the released guide's own fill.sh prints them over the translation a69ceef939774ee1… (all of the seat's roots in one cut). By AI agents, Wed Nov 11 2026. No macro, syntax, notation, axiom, sorry.
-/
import Derived.Test.YtlmjgbonoihccaaDoorChecked
import GoSem.PinnedTables
import GoSem.Claim
import GoSem.ClaimJoined
import GoSem.ClaimMapViews
import Derived.JoinedTies
import Derived.KernelRfl
namespace Go.Proofs.YtlmjgbonoihccaaDoor
/- THE CELL 'sum', in the pinned program and in every row, IS THE sha256 OF THE DUMP (.gsa) THAT YtlmjgbonoihccaaDoorProg.lean LOADS. Nothing in Lean hashes anything: it is a label: what it is worth is what the hold of that sum in a sandbox is worth. -/
noncomputable def Tryd.pinned : Pinned := { name := "ytlmjgbonoihccaadoor", sum := "a69ceef939774ee158707ed6612544b14df645cd07f73f135c8d7217acd135b0", checked := Tryd.checked }
namespace Rows
def none {H : Type} : Left H := { results := [], args := [] }

/- WHAT THE LISTED PACKAGE-LEVEL VARIABLES READ AS WHEN THE CALL BEGINS. Each datum BY PROGRAM (the guide's laid-datum.mjs) off the statement by which the dump's own 'gosem.cut.vars' lays the variable. In a bare row this is a premise. The card (YtlmjgbonoihccaaDoorCards.lean) ties it to the program's text. -/
def laid_unicode_utf8_acceptRanges {H : Type} : DataW H := .agg [.agg [.lit (.int .u8 128), .lit (.int .u8 191)], .agg [.lit (.int .u8 160), .lit (.int .u8 191)], .agg [.lit (.int .u8 128), .lit (.int .u8 159)], .agg [.lit (.int .u8 144), .lit (.int .u8 191)], .agg [.lit (.int .u8 128), .lit (.int .u8 143)], .agg [.lit (.int .u8 0), .lit (.int .u8 0)], .agg [.lit (.int .u8 0), .lit (.int .u8 0)], .agg [.lit (.int .u8 0), .lit (.int .u8 0)], .agg [.lit (.int .u8 0), .lit (.int .u8 0)], .agg [.lit (.int .u8 0), .lit (.int .u8 0)], .agg [.lit (.int .u8 0), .lit (.int .u8 0)], .agg [.lit (.int .u8 0), .lit (.int .u8 0)], .agg [.lit (.int .u8 0), .lit (.int .u8 0)], .agg [.lit (.int .u8 0), .lit (.int .u8 0)], .agg [.lit (.int .u8 0), .lit (.int .u8 0)], .agg [.lit (.int .u8 0), .lit (.int .u8 0)]]
/-- One of Go's own tables, pinned by name: the form's constant. -/
def laid_unicode_utf8_first : DataW Unit := Go.Pinned.utf8First

/-- 'laws.FnSibsVv': WHATEVER THE INPUT: true; the input reads as it did. -/
def fnSibsVvSpec : ChangeSpec := { name := "fnSibsVv", fn := fun _ => fun
  | [d1, d2] => { results := [.lit (.bool true)], args := [d1, d2] }
  | _ => none }
def fnSibsVvRow : OpenClaim := { program := "ytlmjgbonoihccaadoor", sum := "a69ceef939774ee158707ed6612544b14df645cd07f73f135c8d7217acd135b0", func := "loop.example/swathe/laws.FnSibsVv", spec := "fnSibsVv", inPlace := ["internal/bytealg.IndexByteString", "internal/bytealg.IndexString"], unfollowed := true, recurses := true, named := ["unicode/utf8.first", "unicode/utf8.acceptRanges", "internal/bytealg.MaxLen"], apart := false, laid := [("unicode/utf8.acceptRanges", laid_unicode_utf8_acceptRanges), ("unicode/utf8.first", laid_unicode_utf8_first)] }
def FnSibsVvSaid : Prop := fnSibsVvRow.holds Tryd.pinned (OpenSpec.ofChange fnSibsVvSpec)

/-- ITS FALSE NEIGHBOUR: 'it returns false'. Refute it at one input. -/
def fnSibsVvWrong : ChangeSpec := { name := "fnSibsVv", fn := fun _ => fun
  | [d1, d2] => { results := [.lit (.bool false)], args := [d1, d2] }
  | _ => none }
def FnSibsVvWrongFalsely : Prop := fnSibsVvRow.holds Tryd.pinned (OpenSpec.ofChange fnSibsVvWrong)

/-- 'laws.FnSibsKnown': WHATEVER THE INPUT: true; the input reads as it did. -/
def fnSibsKnownSpec : ChangeSpec := { name := "fnSibsKnown", fn := fun _ => fun
  | [d1, d2] => { results := [.lit (.bool true)], args := [d1, d2] }
  | _ => none }
def fnSibsKnownRow : OpenClaim := { program := "ytlmjgbonoihccaadoor", sum := "a69ceef939774ee158707ed6612544b14df645cd07f73f135c8d7217acd135b0", func := "loop.example/swathe/laws.FnSibsKnown", spec := "fnSibsKnown", inPlace := ["internal/bytealg.IndexByteString", "internal/bytealg.IndexString"], unfollowed := true, recurses := true, named := ["unicode/utf8.first", "unicode/utf8.acceptRanges", "internal/bytealg.MaxLen"], apart := false, laid := [("unicode/utf8.acceptRanges", laid_unicode_utf8_acceptRanges), ("unicode/utf8.first", laid_unicode_utf8_first)] }
def FnSibsKnownSaid : Prop := fnSibsKnownRow.holds Tryd.pinned (OpenSpec.ofChange fnSibsKnownSpec)

/-- ITS FALSE NEIGHBOUR: 'it returns false'. Refute it at one input. -/
def fnSibsKnownWrong : ChangeSpec := { name := "fnSibsKnown", fn := fun _ => fun
  | [d1, d2] => { results := [.lit (.bool false)], args := [d1, d2] }
  | _ => none }
def FnSibsKnownWrongFalsely : Prop := fnSibsKnownRow.holds Tryd.pinned (OpenSpec.ofChange fnSibsKnownWrong)

/-- 'laws.FnExactSibsMerge': WHATEVER THE INPUT: true; the input reads as it did. -/
def fnExactSibsMergeSpec : ChangeSpec := { name := "fnExactSibsMerge", fn := fun _ => fun
  | [d1, d2] => { results := [.lit (.bool true)], args := [d1, d2] }
  | _ => none }
def fnExactSibsMergeRow : OpenClaim := { program := "ytlmjgbonoihccaadoor", sum := "a69ceef939774ee158707ed6612544b14df645cd07f73f135c8d7217acd135b0", func := "loop.example/swathe/laws.FnExactSibsMerge", spec := "fnExactSibsMerge", inPlace := ["internal/bytealg.IndexByteString", "internal/bytealg.IndexString"], unfollowed := true, recurses := true, named := ["unicode/utf8.first", "unicode/utf8.acceptRanges", "internal/bytealg.MaxLen"], apart := false, laid := [("unicode/utf8.acceptRanges", laid_unicode_utf8_acceptRanges), ("unicode/utf8.first", laid_unicode_utf8_first)] }
def FnExactSibsMergeSaid : Prop := fnExactSibsMergeRow.holds Tryd.pinned (OpenSpec.ofChange fnExactSibsMergeSpec)

/-- ITS FALSE NEIGHBOUR: 'it returns false'. Refute it at one input. -/
def fnExactSibsMergeWrong : ChangeSpec := { name := "fnExactSibsMerge", fn := fun _ => fun
  | [d1, d2] => { results := [.lit (.bool false)], args := [d1, d2] }
  | _ => none }
def FnExactSibsMergeWrongFalsely : Prop := fnExactSibsMergeRow.holds Tryd.pinned (OpenSpec.ofChange fnExactSibsMergeWrong)

/-- 'laws.FnExactSibsOk': WHATEVER THE INPUT: true; the input reads as it did. -/
def fnExactSibsOkSpec : ChangeSpec := { name := "fnExactSibsOk", fn := fun _ => fun
  | [d] => { results := [.lit (.bool true)], args := [d] }
  | _ => none }
def fnExactSibsOkRow : OpenClaim := { program := "ytlmjgbonoihccaadoor", sum := "a69ceef939774ee158707ed6612544b14df645cd07f73f135c8d7217acd135b0", func := "loop.example/swathe/laws.FnExactSibsOk", spec := "fnExactSibsOk", inPlace := ["internal/bytealg.IndexByteString", "internal/bytealg.IndexString"], unfollowed := true, recurses := true, named := ["unicode/utf8.first", "unicode/utf8.acceptRanges", "internal/bytealg.MaxLen"], apart := false, laid := [("unicode/utf8.acceptRanges", laid_unicode_utf8_acceptRanges), ("unicode/utf8.first", laid_unicode_utf8_first)] }
def FnExactSibsOkSaid : Prop := fnExactSibsOkRow.holds Tryd.pinned (OpenSpec.ofChange fnExactSibsOkSpec)

/-- ITS FALSE NEIGHBOUR: 'it returns false'. Refute it at one input. -/
def fnExactSibsOkWrong : ChangeSpec := { name := "fnExactSibsOk", fn := fun _ => fun
  | [d] => { results := [.lit (.bool false)], args := [d] }
  | _ => none }
def FnExactSibsOkWrongFalsely : Prop := fnExactSibsOkRow.holds Tryd.pinned (OpenSpec.ofChange fnExactSibsOkWrong)

/-- 'laws.FnSibsShow': WHATEVER THE INPUT: true; the input reads as it did. -/
def fnSibsShowSpec : ChangeSpec := { name := "fnSibsShow", fn := fun _ => fun
  | [d] => { results := [.lit (.bool true)], args := [d] }
  | _ => none }
def fnSibsShowRow : OpenClaim := { program := "ytlmjgbonoihccaadoor", sum := "a69ceef939774ee158707ed6612544b14df645cd07f73f135c8d7217acd135b0", func := "loop.example/swathe/laws.FnSibsShow", spec := "fnSibsShow", inPlace := ["internal/bytealg.IndexByteString", "internal/bytealg.IndexString"], unfollowed := true, recurses := true, named := ["unicode/utf8.first", "unicode/utf8.acceptRanges", "internal/bytealg.MaxLen"], apart := false, laid := [("unicode/utf8.acceptRanges", laid_unicode_utf8_acceptRanges), ("unicode/utf8.first", laid_unicode_utf8_first)] }
def FnSibsShowSaid : Prop := fnSibsShowRow.holds Tryd.pinned (OpenSpec.ofChange fnSibsShowSpec)

/-- ITS FALSE NEIGHBOUR: 'it returns false'. Refute it at one input. -/
def fnSibsShowWrong : ChangeSpec := { name := "fnSibsShow", fn := fun _ => fun
  | [d] => { results := [.lit (.bool false)], args := [d] }
  | _ => none }
def FnSibsShowWrongFalsely : Prop := fnSibsShowRow.holds Tryd.pinned (OpenSpec.ofChange fnSibsShowWrong)

/-- 'laws.FnSibsForm': WHATEVER THE INPUT: true; the input reads as it did. -/
def fnSibsFormSpec : ChangeSpec := { name := "fnSibsForm", fn := fun _ => fun
  | [d1, d2] => { results := [.lit (.bool true)], args := [d1, d2] }
  | _ => none }
def fnSibsFormRow : OpenClaim := { program := "ytlmjgbonoihccaadoor", sum := "a69ceef939774ee158707ed6612544b14df645cd07f73f135c8d7217acd135b0", func := "loop.example/swathe/laws.FnSibsForm", spec := "fnSibsForm", inPlace := ["internal/bytealg.IndexByteString", "internal/bytealg.IndexString"], unfollowed := true, recurses := true, named := ["unicode/utf8.first", "unicode/utf8.acceptRanges", "internal/bytealg.MaxLen"], apart := false, laid := [("unicode/utf8.acceptRanges", laid_unicode_utf8_acceptRanges), ("unicode/utf8.first", laid_unicode_utf8_first)] }
def FnSibsFormSaid : Prop := fnSibsFormRow.holds Tryd.pinned (OpenSpec.ofChange fnSibsFormSpec)

/-- ITS FALSE NEIGHBOUR: 'it returns false'. Refute it at one input. -/
def fnSibsFormWrong : ChangeSpec := { name := "fnSibsForm", fn := fun _ => fun
  | [d1, d2] => { results := [.lit (.bool false)], args := [d1, d2] }
  | _ => none }
def FnSibsFormWrongFalsely : Prop := fnSibsFormRow.holds Tryd.pinned (OpenSpec.ofChange fnSibsFormWrong)

/-- 'laws.FnTreeForm': WHATEVER THE INPUT: true; the input reads as it did. -/
def fnTreeFormSpec : ChangeSpec := { name := "fnTreeForm", fn := fun _ => fun
  | [d1, d2] => { results := [.lit (.bool true)], args := [d1, d2] }
  | _ => none }
def fnTreeFormRow : OpenClaim := { program := "ytlmjgbonoihccaadoor", sum := "a69ceef939774ee158707ed6612544b14df645cd07f73f135c8d7217acd135b0", func := "loop.example/swathe/laws.FnTreeForm", spec := "fnTreeForm", inPlace := ["internal/bytealg.IndexByteString", "internal/bytealg.IndexString"], unfollowed := true, recurses := true, named := ["unicode/utf8.first", "unicode/utf8.acceptRanges", "internal/bytealg.MaxLen"], apart := false, laid := [("unicode/utf8.acceptRanges", laid_unicode_utf8_acceptRanges), ("unicode/utf8.first", laid_unicode_utf8_first)] }
def FnTreeFormSaid : Prop := fnTreeFormRow.holds Tryd.pinned (OpenSpec.ofChange fnTreeFormSpec)

/-- ITS FALSE NEIGHBOUR: 'it returns false'. Refute it at one input. -/
def fnTreeFormWrong : ChangeSpec := { name := "fnTreeForm", fn := fun _ => fun
  | [d1, d2] => { results := [.lit (.bool false)], args := [d1, d2] }
  | _ => none }
def FnTreeFormWrongFalsely : Prop := fnTreeFormRow.holds Tryd.pinned (OpenSpec.ofChange fnTreeFormWrong)

/-- 'laws.FnExactSibsVv': WHATEVER THE INPUT: true; the input reads as it did. -/
def fnExactSibsVvSpec : ChangeSpec := { name := "fnExactSibsVv", fn := fun _ => fun
  | [d] => { results := [.lit (.bool true)], args := [d] }
  | _ => none }
def fnExactSibsVvRow : OpenClaim := { program := "ytlmjgbonoihccaadoor", sum := "a69ceef939774ee158707ed6612544b14df645cd07f73f135c8d7217acd135b0", func := "loop.example/swathe/laws.FnExactSibsVv", spec := "fnExactSibsVv", inPlace := ["internal/bytealg.IndexByteString", "internal/bytealg.IndexString"], unfollowed := true, recurses := true, named := ["unicode/utf8.first", "unicode/utf8.acceptRanges", "internal/bytealg.MaxLen"], apart := false, laid := [("unicode/utf8.acceptRanges", laid_unicode_utf8_acceptRanges), ("unicode/utf8.first", laid_unicode_utf8_first)] }
def FnExactSibsVvSaid : Prop := fnExactSibsVvRow.holds Tryd.pinned (OpenSpec.ofChange fnExactSibsVvSpec)

/-- ITS FALSE NEIGHBOUR: 'it returns false'. Refute it at one input. -/
def fnExactSibsVvWrong : ChangeSpec := { name := "fnExactSibsVv", fn := fun _ => fun
  | [d] => { results := [.lit (.bool false)], args := [d] }
  | _ => none }
def FnExactSibsVvWrongFalsely : Prop := fnExactSibsVvRow.holds Tryd.pinned (OpenSpec.ofChange fnExactSibsVvWrong)

/-- 'laws.FnSibsBoth': WHATEVER THE INPUT: true; the input reads as it did. -/
def fnSibsBothSpec : ChangeSpec := { name := "fnSibsBoth", fn := fun _ => fun
  | [d] => { results := [.lit (.bool true)], args := [d] }
  | _ => none }
def fnSibsBothRow : OpenClaim := { program := "ytlmjgbonoihccaadoor", sum := "a69ceef939774ee158707ed6612544b14df645cd07f73f135c8d7217acd135b0", func := "loop.example/swathe/laws.FnSibsBoth", spec := "fnSibsBoth", inPlace := ["internal/bytealg.IndexByteString", "internal/bytealg.IndexString"], unfollowed := true, recurses := true, named := ["unicode/utf8.first", "unicode/utf8.acceptRanges", "internal/bytealg.MaxLen"], apart := false, laid := [("unicode/utf8.acceptRanges", laid_unicode_utf8_acceptRanges), ("unicode/utf8.first", laid_unicode_utf8_first)] }
def FnSibsBothSaid : Prop := fnSibsBothRow.holds Tryd.pinned (OpenSpec.ofChange fnSibsBothSpec)

/-- ITS FALSE NEIGHBOUR: 'it returns false'. Refute it at one input. -/
def fnSibsBothWrong : ChangeSpec := { name := "fnSibsBoth", fn := fun _ => fun
  | [d] => { results := [.lit (.bool false)], args := [d] }
  | _ => none }
def FnSibsBothWrongFalsely : Prop := fnSibsBothRow.holds Tryd.pinned (OpenSpec.ofChange fnSibsBothWrong)

/-- 'laws.FnSibsThree': WHATEVER THE INPUT: true; the input reads as it did. -/
def fnSibsThreeSpec : ChangeSpec := { name := "fnSibsThree", fn := fun _ => fun
  | [d1, d2] => { results := [.lit (.bool true)], args := [d1, d2] }
  | _ => none }
def fnSibsThreeRow : OpenClaim := { program := "ytlmjgbonoihccaadoor", sum := "a69ceef939774ee158707ed6612544b14df645cd07f73f135c8d7217acd135b0", func := "loop.example/swathe/laws.FnSibsThree", spec := "fnSibsThree", inPlace := ["internal/bytealg.IndexByteString", "internal/bytealg.IndexString"], unfollowed := true, recurses := true, named := ["unicode/utf8.first", "unicode/utf8.acceptRanges", "internal/bytealg.MaxLen"], apart := false, laid := [("unicode/utf8.acceptRanges", laid_unicode_utf8_acceptRanges), ("unicode/utf8.first", laid_unicode_utf8_first)] }
def FnSibsThreeSaid : Prop := fnSibsThreeRow.holds Tryd.pinned (OpenSpec.ofChange fnSibsThreeSpec)

/-- ITS FALSE NEIGHBOUR: 'it returns false'. Refute it at one input. -/
def fnSibsThreeWrong : ChangeSpec := { name := "fnSibsThree", fn := fun _ => fun
  | [d1, d2] => { results := [.lit (.bool false)], args := [d1, d2] }
  | _ => none }
def FnSibsThreeWrongFalsely : Prop := fnSibsThreeRow.holds Tryd.pinned (OpenSpec.ofChange fnSibsThreeWrong)

/-- 'laws.FnSibsIn': WHATEVER THE INPUT: true; the input reads as it did. -/
def fnSibsInSpec : ChangeSpec := { name := "fnSibsIn", fn := fun _ => fun
  | [d1, d2] => { results := [.lit (.bool true)], args := [d1, d2] }
  | _ => none }
def fnSibsInRow : OpenClaim := { program := "ytlmjgbonoihccaadoor", sum := "a69ceef939774ee158707ed6612544b14df645cd07f73f135c8d7217acd135b0", func := "loop.example/swathe/laws.FnSibsIn", spec := "fnSibsIn", inPlace := ["internal/bytealg.IndexByteString", "internal/bytealg.IndexString"], unfollowed := true, recurses := true, named := ["unicode/utf8.first", "unicode/utf8.acceptRanges", "internal/bytealg.MaxLen"], apart := false, laid := [("unicode/utf8.acceptRanges", laid_unicode_utf8_acceptRanges), ("unicode/utf8.first", laid_unicode_utf8_first)] }
def FnSibsInSaid : Prop := fnSibsInRow.holds Tryd.pinned (OpenSpec.ofChange fnSibsInSpec)

/-- ITS FALSE NEIGHBOUR: 'it returns false'. Refute it at one input. -/
def fnSibsInWrong : ChangeSpec := { name := "fnSibsIn", fn := fun _ => fun
  | [d1, d2] => { results := [.lit (.bool false)], args := [d1, d2] }
  | _ => none }
def FnSibsInWrongFalsely : Prop := fnSibsInRow.holds Tryd.pinned (OpenSpec.ofChange fnSibsInWrong)

/-- 'laws.FnSibsMerge': WHATEVER THE INPUT: true; the input reads as it did. -/
def fnSibsMergeSpec : ChangeSpec := { name := "fnSibsMerge", fn := fun _ => fun
  | [d] => { results := [.lit (.bool true)], args := [d] }
  | _ => none }
def fnSibsMergeRow : OpenClaim := { program := "ytlmjgbonoihccaadoor", sum := "a69ceef939774ee158707ed6612544b14df645cd07f73f135c8d7217acd135b0", func := "loop.example/swathe/laws.FnSibsMerge", spec := "fnSibsMerge", inPlace := ["internal/bytealg.IndexByteString", "internal/bytealg.IndexString"], unfollowed := true, recurses := true, named := ["unicode/utf8.first", "unicode/utf8.acceptRanges", "internal/bytealg.MaxLen"], apart := false, laid := [("unicode/utf8.acceptRanges", laid_unicode_utf8_acceptRanges), ("unicode/utf8.first", laid_unicode_utf8_first)] }
def FnSibsMergeSaid : Prop := fnSibsMergeRow.holds Tryd.pinned (OpenSpec.ofChange fnSibsMergeSpec)

/-- ITS FALSE NEIGHBOUR: 'it returns false'. Refute it at one input. -/
def fnSibsMergeWrong : ChangeSpec := { name := "fnSibsMerge", fn := fun _ => fun
  | [d] => { results := [.lit (.bool false)], args := [d] }
  | _ => none }
def FnSibsMergeWrongFalsely : Prop := fnSibsMergeRow.holds Tryd.pinned (OpenSpec.ofChange fnSibsMergeWrong)

/- THE SECOND FORM. 'bulk': how many values and letters a reading holds, each counted each time it is reached (what is shared counts as often as it is met; a slice's spare places count too). A statement '..UptoSaid' is the law's where the arguments, and the package variables that the reading takes, are together of bulk at most 1048576: NARROWER than '..Said'. Prove '..Said' where nothing that the law and all that it calls make is longer than what came in: it says more and counts as full. Else prove '..UptoSaid'. A law counts once. -/
mutual
def uptoBulk {H : Type} : DataW H → Nat
  | .lit (.string bytes) => bytes.length + 1
  | .lit _ => 1
  | .nil => 1
  | .ptr d => uptoBulk d + 1
  | .slice elems spare => uptoBulkAll elems + uptoBulkAll spare + 1
  | .agg parts => uptoBulkAll parts + 1
  | .iface _ d => uptoBulk d + 1
  | .map entries => uptoBulkEntries entries + 1
  | .held _ => 1
def uptoBulkAll {H : Type} : List (DataW H) → Nat
  | [] => 0
  | d :: r => uptoBulk d + uptoBulkAll r
def uptoBulkEntries {H : Type} : List (Lit × DataW H) → Nat
  | [] => 0
  | x :: r => uptoBulkEntry x + uptoBulkEntries r
def uptoBulkEntry {H : Type} : Lit × DataW H → Nat
  | (.string bytes, d) => bytes.length + uptoBulk d + 1
  | (_, d) => uptoBulk d + 1
 end
def uptoSmall : (H : Type) → List (DataW H) → Bool := fun _ ds => decide (uptoBulkAll ds ≤ 1048576)
def OpenSpec.upto (s : _root_.Go.ChangeSpec) : _root_.Go.OpenSpec := { _root_.Go.OpenSpec.ofChange s with cond := some uptoSmall }

/-- 'laws.FnSibsVv', WHERE WHAT IT READS IS OF BULK AT MOST 1048576: true; the input reads as it did. -/
def fnSibsVvUptoRow : OpenClaim := { program := "ytlmjgbonoihccaadoor", sum := "a69ceef939774ee158707ed6612544b14df645cd07f73f135c8d7217acd135b0", func := "loop.example/swathe/laws.FnSibsVv", spec := "fnSibsVv", inPlace := ["internal/bytealg.IndexByteString", "internal/bytealg.IndexString"], unfollowed := true, recurses := true, named := ["unicode/utf8.first", "unicode/utf8.acceptRanges", "internal/bytealg.MaxLen"], apart := false, laid := [("unicode/utf8.acceptRanges", laid_unicode_utf8_acceptRanges), ("unicode/utf8.first", laid_unicode_utf8_first)], narrowed := true }
def FnSibsVvUptoSaid : Prop := fnSibsVvUptoRow.holds Tryd.pinned (OpenSpec.upto fnSibsVvSpec)

/-- 'laws.FnSibsKnown', WHERE WHAT IT READS IS OF BULK AT MOST 1048576: true; the input reads as it did. -/
def fnSibsKnownUptoRow : OpenClaim := { program := "ytlmjgbonoihccaadoor", sum := "a69ceef939774ee158707ed6612544b14df645cd07f73f135c8d7217acd135b0", func := "loop.example/swathe/laws.FnSibsKnown", spec := "fnSibsKnown", inPlace := ["internal/bytealg.IndexByteString", "internal/bytealg.IndexString"], unfollowed := true, recurses := true, named := ["unicode/utf8.first", "unicode/utf8.acceptRanges", "internal/bytealg.MaxLen"], apart := false, laid := [("unicode/utf8.acceptRanges", laid_unicode_utf8_acceptRanges), ("unicode/utf8.first", laid_unicode_utf8_first)], narrowed := true }
def FnSibsKnownUptoSaid : Prop := fnSibsKnownUptoRow.holds Tryd.pinned (OpenSpec.upto fnSibsKnownSpec)

/-- 'laws.FnExactSibsMerge', WHERE WHAT IT READS IS OF BULK AT MOST 1048576: true; the input reads as it did. -/
def fnExactSibsMergeUptoRow : OpenClaim := { program := "ytlmjgbonoihccaadoor", sum := "a69ceef939774ee158707ed6612544b14df645cd07f73f135c8d7217acd135b0", func := "loop.example/swathe/laws.FnExactSibsMerge", spec := "fnExactSibsMerge", inPlace := ["internal/bytealg.IndexByteString", "internal/bytealg.IndexString"], unfollowed := true, recurses := true, named := ["unicode/utf8.first", "unicode/utf8.acceptRanges", "internal/bytealg.MaxLen"], apart := false, laid := [("unicode/utf8.acceptRanges", laid_unicode_utf8_acceptRanges), ("unicode/utf8.first", laid_unicode_utf8_first)], narrowed := true }
def FnExactSibsMergeUptoSaid : Prop := fnExactSibsMergeUptoRow.holds Tryd.pinned (OpenSpec.upto fnExactSibsMergeSpec)

/-- 'laws.FnExactSibsOk', WHERE WHAT IT READS IS OF BULK AT MOST 1048576: true; the input reads as it did. -/
def fnExactSibsOkUptoRow : OpenClaim := { program := "ytlmjgbonoihccaadoor", sum := "a69ceef939774ee158707ed6612544b14df645cd07f73f135c8d7217acd135b0", func := "loop.example/swathe/laws.FnExactSibsOk", spec := "fnExactSibsOk", inPlace := ["internal/bytealg.IndexByteString", "internal/bytealg.IndexString"], unfollowed := true, recurses := true, named := ["unicode/utf8.first", "unicode/utf8.acceptRanges", "internal/bytealg.MaxLen"], apart := false, laid := [("unicode/utf8.acceptRanges", laid_unicode_utf8_acceptRanges), ("unicode/utf8.first", laid_unicode_utf8_first)], narrowed := true }
def FnExactSibsOkUptoSaid : Prop := fnExactSibsOkUptoRow.holds Tryd.pinned (OpenSpec.upto fnExactSibsOkSpec)

/-- 'laws.FnSibsShow', WHERE WHAT IT READS IS OF BULK AT MOST 1048576: true; the input reads as it did. -/
def fnSibsShowUptoRow : OpenClaim := { program := "ytlmjgbonoihccaadoor", sum := "a69ceef939774ee158707ed6612544b14df645cd07f73f135c8d7217acd135b0", func := "loop.example/swathe/laws.FnSibsShow", spec := "fnSibsShow", inPlace := ["internal/bytealg.IndexByteString", "internal/bytealg.IndexString"], unfollowed := true, recurses := true, named := ["unicode/utf8.first", "unicode/utf8.acceptRanges", "internal/bytealg.MaxLen"], apart := false, laid := [("unicode/utf8.acceptRanges", laid_unicode_utf8_acceptRanges), ("unicode/utf8.first", laid_unicode_utf8_first)], narrowed := true }
def FnSibsShowUptoSaid : Prop := fnSibsShowUptoRow.holds Tryd.pinned (OpenSpec.upto fnSibsShowSpec)

/-- 'laws.FnSibsForm', WHERE WHAT IT READS IS OF BULK AT MOST 1048576: true; the input reads as it did. -/
def fnSibsFormUptoRow : OpenClaim := { program := "ytlmjgbonoihccaadoor", sum := "a69ceef939774ee158707ed6612544b14df645cd07f73f135c8d7217acd135b0", func := "loop.example/swathe/laws.FnSibsForm", spec := "fnSibsForm", inPlace := ["internal/bytealg.IndexByteString", "internal/bytealg.IndexString"], unfollowed := true, recurses := true, named := ["unicode/utf8.first", "unicode/utf8.acceptRanges", "internal/bytealg.MaxLen"], apart := false, laid := [("unicode/utf8.acceptRanges", laid_unicode_utf8_acceptRanges), ("unicode/utf8.first", laid_unicode_utf8_first)], narrowed := true }
def FnSibsFormUptoSaid : Prop := fnSibsFormUptoRow.holds Tryd.pinned (OpenSpec.upto fnSibsFormSpec)

/-- 'laws.FnTreeForm', WHERE WHAT IT READS IS OF BULK AT MOST 1048576: true; the input reads as it did. -/
def fnTreeFormUptoRow : OpenClaim := { program := "ytlmjgbonoihccaadoor", sum := "a69ceef939774ee158707ed6612544b14df645cd07f73f135c8d7217acd135b0", func := "loop.example/swathe/laws.FnTreeForm", spec := "fnTreeForm", inPlace := ["internal/bytealg.IndexByteString", "internal/bytealg.IndexString"], unfollowed := true, recurses := true, named := ["unicode/utf8.first", "unicode/utf8.acceptRanges", "internal/bytealg.MaxLen"], apart := false, laid := [("unicode/utf8.acceptRanges", laid_unicode_utf8_acceptRanges), ("unicode/utf8.first", laid_unicode_utf8_first)], narrowed := true }
def FnTreeFormUptoSaid : Prop := fnTreeFormUptoRow.holds Tryd.pinned (OpenSpec.upto fnTreeFormSpec)

/-- 'laws.FnExactSibsVv', WHERE WHAT IT READS IS OF BULK AT MOST 1048576: true; the input reads as it did. -/
def fnExactSibsVvUptoRow : OpenClaim := { program := "ytlmjgbonoihccaadoor", sum := "a69ceef939774ee158707ed6612544b14df645cd07f73f135c8d7217acd135b0", func := "loop.example/swathe/laws.FnExactSibsVv", spec := "fnExactSibsVv", inPlace := ["internal/bytealg.IndexByteString", "internal/bytealg.IndexString"], unfollowed := true, recurses := true, named := ["unicode/utf8.first", "unicode/utf8.acceptRanges", "internal/bytealg.MaxLen"], apart := false, laid := [("unicode/utf8.acceptRanges", laid_unicode_utf8_acceptRanges), ("unicode/utf8.first", laid_unicode_utf8_first)], narrowed := true }
def FnExactSibsVvUptoSaid : Prop := fnExactSibsVvUptoRow.holds Tryd.pinned (OpenSpec.upto fnExactSibsVvSpec)

/-- 'laws.FnSibsBoth', WHERE WHAT IT READS IS OF BULK AT MOST 1048576: true; the input reads as it did. -/
def fnSibsBothUptoRow : OpenClaim := { program := "ytlmjgbonoihccaadoor", sum := "a69ceef939774ee158707ed6612544b14df645cd07f73f135c8d7217acd135b0", func := "loop.example/swathe/laws.FnSibsBoth", spec := "fnSibsBoth", inPlace := ["internal/bytealg.IndexByteString", "internal/bytealg.IndexString"], unfollowed := true, recurses := true, named := ["unicode/utf8.first", "unicode/utf8.acceptRanges", "internal/bytealg.MaxLen"], apart := false, laid := [("unicode/utf8.acceptRanges", laid_unicode_utf8_acceptRanges), ("unicode/utf8.first", laid_unicode_utf8_first)], narrowed := true }
def FnSibsBothUptoSaid : Prop := fnSibsBothUptoRow.holds Tryd.pinned (OpenSpec.upto fnSibsBothSpec)

/-- 'laws.FnSibsThree', WHERE WHAT IT READS IS OF BULK AT MOST 1048576: true; the input reads as it did. -/
def fnSibsThreeUptoRow : OpenClaim := { program := "ytlmjgbonoihccaadoor", sum := "a69ceef939774ee158707ed6612544b14df645cd07f73f135c8d7217acd135b0", func := "loop.example/swathe/laws.FnSibsThree", spec := "fnSibsThree", inPlace := ["internal/bytealg.IndexByteString", "internal/bytealg.IndexString"], unfollowed := true, recurses := true, named := ["unicode/utf8.first", "unicode/utf8.acceptRanges", "internal/bytealg.MaxLen"], apart := false, laid := [("unicode/utf8.acceptRanges", laid_unicode_utf8_acceptRanges), ("unicode/utf8.first", laid_unicode_utf8_first)], narrowed := true }
def FnSibsThreeUptoSaid : Prop := fnSibsThreeUptoRow.holds Tryd.pinned (OpenSpec.upto fnSibsThreeSpec)

/-- 'laws.FnSibsIn', WHERE WHAT IT READS IS OF BULK AT MOST 1048576: true; the input reads as it did. -/
def fnSibsInUptoRow : OpenClaim := { program := "ytlmjgbonoihccaadoor", sum := "a69ceef939774ee158707ed6612544b14df645cd07f73f135c8d7217acd135b0", func := "loop.example/swathe/laws.FnSibsIn", spec := "fnSibsIn", inPlace := ["internal/bytealg.IndexByteString", "internal/bytealg.IndexString"], unfollowed := true, recurses := true, named := ["unicode/utf8.first", "unicode/utf8.acceptRanges", "internal/bytealg.MaxLen"], apart := false, laid := [("unicode/utf8.acceptRanges", laid_unicode_utf8_acceptRanges), ("unicode/utf8.first", laid_unicode_utf8_first)], narrowed := true }
def FnSibsInUptoSaid : Prop := fnSibsInUptoRow.holds Tryd.pinned (OpenSpec.upto fnSibsInSpec)

/-- 'laws.FnSibsMerge', WHERE WHAT IT READS IS OF BULK AT MOST 1048576: true; the input reads as it did. -/
def fnSibsMergeUptoRow : OpenClaim := { program := "ytlmjgbonoihccaadoor", sum := "a69ceef939774ee158707ed6612544b14df645cd07f73f135c8d7217acd135b0", func := "loop.example/swathe/laws.FnSibsMerge", spec := "fnSibsMerge", inPlace := ["internal/bytealg.IndexByteString", "internal/bytealg.IndexString"], unfollowed := true, recurses := true, named := ["unicode/utf8.first", "unicode/utf8.acceptRanges", "internal/bytealg.MaxLen"], apart := false, laid := [("unicode/utf8.acceptRanges", laid_unicode_utf8_acceptRanges), ("unicode/utf8.first", laid_unicode_utf8_first)], narrowed := true }
def FnSibsMergeUptoSaid : Prop := fnSibsMergeUptoRow.holds Tryd.pinned (OpenSpec.upto fnSibsMergeSpec)

end Rows
end Go.Proofs.YtlmjgbonoihccaaDoor
