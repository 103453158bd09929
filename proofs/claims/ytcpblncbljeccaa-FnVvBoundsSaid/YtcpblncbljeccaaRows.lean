/-
  No cell of these rows narrows 'for every input' (looked for: loops, veiled, ifaces, maps, wideKeys, modest, calm, conditions, laid).
  DERIVED. THE GIVEN ROWS OF THIS SEAT. 11 by the template 'for every input the law returns true; each argument reads behind the call as it read before'; 0 by the template 'total and deterministic' (their statements: YtcpblncbljeccaaTotals.lean).
  GIVEN WITH THE SEED: the statements are not yours to turn. If you find one false, say at which input.
  Laid BY PROGRAM, IN A SANDBOX (cutbox-rows.mjs): the forced cells as the released guide's own fill.sh prints them over the translation 290fb1644ff00f3c… (all of the seat's roots in one cut). By AI agents, Wed Nov 11 2026. No macro, syntax, notation, axiom, sorry.
-/
import Derived.Test.YtcpblncbljeccaaChecked
import GoSem.Claim
import GoSem.ClaimJoined
import GoSem.ClaimMapViews
import Derived.JoinedTies
import Derived.KernelRfl
namespace Go.Proofs.Ytcpblncbljeccaa
/- THE CELL 'sum', in the pinned program and in every row, IS THE sha256 OF THE DUMP (.gsa) THAT YtcpblncbljeccaaProg.lean LOADS. Nothing in Lean hashes anything: it is a label: what it is worth is what the hold of that sum in a sandbox is worth. -/
noncomputable def Try.pinned : Pinned := { name := "ytcpblncbljeccaa", sum := "290fb1644ff00f3c3f7eb143841a9126ccfd73eca3e9b4c4f37bbb3c98434186", checked := Try.checked }
namespace Rows
def none {H : Type} : Left H := { results := [], args := [] }

/-- 'laws.FnExactConstants': WHATEVER THE INPUT: true; the input reads as it did. -/
def fnExactConstantsSpec : ChangeSpec := { name := "fnExactConstants", fn := fun _ => fun
  | [] => { results := [.lit (.bool true)], args := [] }
  | _ => none }
def fnExactConstantsRow : OpenClaim := { program := "ytcpblncbljeccaa", sum := "290fb1644ff00f3c3f7eb143841a9126ccfd73eca3e9b4c4f37bbb3c98434186", func := "loop.example/swathe/laws.FnExactConstants", spec := "fnExactConstants", apart := false }
def FnExactConstantsSaid : Prop := fnExactConstantsRow.holds Try.pinned (OpenSpec.ofChange fnExactConstantsSpec)

/-- ITS FALSE NEIGHBOUR: 'it returns false'. Refute it at one input. -/
def fnExactConstantsWrong : ChangeSpec := { name := "fnExactConstants", fn := fun _ => fun
  | [] => { results := [.lit (.bool false)], args := [] }
  | _ => none }
def FnExactConstantsWrongFalsely : Prop := fnExactConstantsRow.holds Try.pinned (OpenSpec.ofChange fnExactConstantsWrong)

/-- 'laws.FnExactVvOk': WHATEVER THE INPUT: true; the input reads as it did. -/
def fnExactVvOkSpec : ChangeSpec := { name := "fnExactVvOk", fn := fun _ => fun
  | [d] => { results := [.lit (.bool true)], args := [d] }
  | _ => none }
def fnExactVvOkRow : OpenClaim := { program := "ytcpblncbljeccaa", sum := "290fb1644ff00f3c3f7eb143841a9126ccfd73eca3e9b4c4f37bbb3c98434186", func := "loop.example/swathe/laws.FnExactVvOk", spec := "fnExactVvOk", apart := false }
def FnExactVvOkSaid : Prop := fnExactVvOkRow.holds Try.pinned (OpenSpec.ofChange fnExactVvOkSpec)

/-- ITS FALSE NEIGHBOUR: 'it returns false'. Refute it at one input. -/
def fnExactVvOkWrong : ChangeSpec := { name := "fnExactVvOk", fn := fun _ => fun
  | [d] => { results := [.lit (.bool false)], args := [d] }
  | _ => none }
def FnExactVvOkWrongFalsely : Prop := fnExactVvOkRow.holds Try.pinned (OpenSpec.ofChange fnExactVvOkWrong)

/-- 'laws.FnVvBounds': WHATEVER THE INPUT: true; the input reads as it did. -/
def fnVvBoundsSpec : ChangeSpec := { name := "fnVvBounds", fn := fun _ => fun
  | [d1, d2] => { results := [.lit (.bool true)], args := [d1, d2] }
  | _ => none }
def fnVvBoundsRow : OpenClaim := { program := "ytcpblncbljeccaa", sum := "290fb1644ff00f3c3f7eb143841a9126ccfd73eca3e9b4c4f37bbb3c98434186", func := "loop.example/swathe/laws.FnVvBounds", spec := "fnVvBounds", apart := false }
def FnVvBoundsSaid : Prop := fnVvBoundsRow.holds Try.pinned (OpenSpec.ofChange fnVvBoundsSpec)

/-- ITS FALSE NEIGHBOUR: 'it returns false'. Refute it at one input. -/
def fnVvBoundsWrong : ChangeSpec := { name := "fnVvBounds", fn := fun _ => fun
  | [d1, d2] => { results := [.lit (.bool false)], args := [d1, d2] }
  | _ => none }
def FnVvBoundsWrongFalsely : Prop := fnVvBoundsRow.holds Try.pinned (OpenSpec.ofChange fnVvBoundsWrong)

/-- 'laws.FnExactVvIn': WHATEVER THE INPUT: true; the input reads as it did. -/
def fnExactVvInSpec : ChangeSpec := { name := "fnExactVvIn", fn := fun _ => fun
  | [d1, d2] => { results := [.lit (.bool true)], args := [d1, d2] }
  | _ => none }
def fnExactVvInRow : OpenClaim := { program := "ytcpblncbljeccaa", sum := "290fb1644ff00f3c3f7eb143841a9126ccfd73eca3e9b4c4f37bbb3c98434186", func := "loop.example/swathe/laws.FnExactVvIn", spec := "fnExactVvIn", apart := false }
def FnExactVvInSaid : Prop := fnExactVvInRow.holds Try.pinned (OpenSpec.ofChange fnExactVvInSpec)

/-- ITS FALSE NEIGHBOUR: 'it returns false'. Refute it at one input. -/
def fnExactVvInWrong : ChangeSpec := { name := "fnExactVvIn", fn := fun _ => fun
  | [d1, d2] => { results := [.lit (.bool false)], args := [d1, d2] }
  | _ => none }
def FnExactVvInWrongFalsely : Prop := fnExactVvInRow.holds Try.pinned (OpenSpec.ofChange fnExactVvInWrong)

/-- 'laws.FnExactVvNext': WHATEVER THE INPUT: true; the input reads as it did. -/
def fnExactVvNextSpec : ChangeSpec := { name := "fnExactVvNext", fn := fun _ => fun
  | [d1, d2] => { results := [.lit (.bool true)], args := [d1, d2] }
  | _ => none }
def fnExactVvNextRow : OpenClaim := { program := "ytcpblncbljeccaa", sum := "290fb1644ff00f3c3f7eb143841a9126ccfd73eca3e9b4c4f37bbb3c98434186", func := "loop.example/swathe/laws.FnExactVvNext", spec := "fnExactVvNext", apart := false }
def FnExactVvNextSaid : Prop := fnExactVvNextRow.holds Try.pinned (OpenSpec.ofChange fnExactVvNextSpec)

/-- ITS FALSE NEIGHBOUR: 'it returns false'. Refute it at one input. -/
def fnExactVvNextWrong : ChangeSpec := { name := "fnExactVvNext", fn := fun _ => fun
  | [d1, d2] => { results := [.lit (.bool false)], args := [d1, d2] }
  | _ => none }
def FnExactVvNextWrongFalsely : Prop := fnExactVvNextRow.holds Try.pinned (OpenSpec.ofChange fnExactVvNextWrong)

/-- 'laws.FnExactVvJoin': WHATEVER THE INPUT: true; the input reads as it did. -/
def fnExactVvJoinSpec : ChangeSpec := { name := "fnExactVvJoin", fn := fun _ => fun
  | [d1, d2] => { results := [.lit (.bool true)], args := [d1, d2] }
  | _ => none }
def fnExactVvJoinRow : OpenClaim := { program := "ytcpblncbljeccaa", sum := "290fb1644ff00f3c3f7eb143841a9126ccfd73eca3e9b4c4f37bbb3c98434186", func := "loop.example/swathe/laws.FnExactVvJoin", spec := "fnExactVvJoin", apart := false }
def FnExactVvJoinSaid : Prop := fnExactVvJoinRow.holds Try.pinned (OpenSpec.ofChange fnExactVvJoinSpec)

/-- ITS FALSE NEIGHBOUR: 'it returns false'. Refute it at one input. -/
def fnExactVvJoinWrong : ChangeSpec := { name := "fnExactVvJoin", fn := fun _ => fun
  | [d1, d2] => { results := [.lit (.bool false)], args := [d1, d2] }
  | _ => none }
def FnExactVvJoinWrongFalsely : Prop := fnExactVvJoinRow.holds Try.pinned (OpenSpec.ofChange fnExactVvJoinWrong)

/-- 'laws.FnVvNext': WHATEVER THE INPUT: true; the input reads as it did. -/
def fnVvNextSpec : ChangeSpec := { name := "fnVvNext", fn := fun _ => fun
  | [d] => { results := [.lit (.bool true)], args := [d] }
  | _ => none }
def fnVvNextRow : OpenClaim := { program := "ytcpblncbljeccaa", sum := "290fb1644ff00f3c3f7eb143841a9126ccfd73eca3e9b4c4f37bbb3c98434186", func := "loop.example/swathe/laws.FnVvNext", spec := "fnVvNext", apart := false }
def FnVvNextSaid : Prop := fnVvNextRow.holds Try.pinned (OpenSpec.ofChange fnVvNextSpec)

/-- ITS FALSE NEIGHBOUR: 'it returns false'. Refute it at one input. -/
def fnVvNextWrong : ChangeSpec := { name := "fnVvNext", fn := fun _ => fun
  | [d] => { results := [.lit (.bool false)], args := [d] }
  | _ => none }
def FnVvNextWrongFalsely : Prop := fnVvNextRow.holds Try.pinned (OpenSpec.ofChange fnVvNextWrong)

/-- 'laws.FnVvIn': WHATEVER THE INPUT: true; the input reads as it did. -/
def fnVvInSpec : ChangeSpec := { name := "fnVvIn", fn := fun _ => fun
  | [d] => { results := [.lit (.bool true)], args := [d] }
  | _ => none }
def fnVvInRow : OpenClaim := { program := "ytcpblncbljeccaa", sum := "290fb1644ff00f3c3f7eb143841a9126ccfd73eca3e9b4c4f37bbb3c98434186", func := "loop.example/swathe/laws.FnVvIn", spec := "fnVvIn", apart := false }
def FnVvInSaid : Prop := fnVvInRow.holds Try.pinned (OpenSpec.ofChange fnVvInSpec)

/-- ITS FALSE NEIGHBOUR: 'it returns false'. Refute it at one input. -/
def fnVvInWrong : ChangeSpec := { name := "fnVvIn", fn := fun _ => fun
  | [d] => { results := [.lit (.bool false)], args := [d] }
  | _ => none }
def FnVvInWrongFalsely : Prop := fnVvInRow.holds Try.pinned (OpenSpec.ofChange fnVvInWrong)

/-- 'laws.FnVvThree': WHATEVER THE INPUT: true; the input reads as it did. -/
def fnVvThreeSpec : ChangeSpec := { name := "fnVvThree", fn := fun _ => fun
  | [d1, d2] => { results := [.lit (.bool true)], args := [d1, d2] }
  | _ => none }
def fnVvThreeRow : OpenClaim := { program := "ytcpblncbljeccaa", sum := "290fb1644ff00f3c3f7eb143841a9126ccfd73eca3e9b4c4f37bbb3c98434186", func := "loop.example/swathe/laws.FnVvThree", spec := "fnVvThree", apart := false }
def FnVvThreeSaid : Prop := fnVvThreeRow.holds Try.pinned (OpenSpec.ofChange fnVvThreeSpec)

/-- ITS FALSE NEIGHBOUR: 'it returns false'. Refute it at one input. -/
def fnVvThreeWrong : ChangeSpec := { name := "fnVvThree", fn := fun _ => fun
  | [d1, d2] => { results := [.lit (.bool false)], args := [d1, d2] }
  | _ => none }
def FnVvThreeWrongFalsely : Prop := fnVvThreeRow.holds Try.pinned (OpenSpec.ofChange fnVvThreeWrong)

/-- 'laws.FnVvApart': WHATEVER THE INPUT: true; the input reads as it did. -/
def fnVvApartSpec : ChangeSpec := { name := "fnVvApart", fn := fun _ => fun
  | [d1, d2] => { results := [.lit (.bool true)], args := [d1, d2] }
  | _ => none }
def fnVvApartRow : OpenClaim := { program := "ytcpblncbljeccaa", sum := "290fb1644ff00f3c3f7eb143841a9126ccfd73eca3e9b4c4f37bbb3c98434186", func := "loop.example/swathe/laws.FnVvApart", spec := "fnVvApart", apart := false }
def FnVvApartSaid : Prop := fnVvApartRow.holds Try.pinned (OpenSpec.ofChange fnVvApartSpec)

/-- ITS FALSE NEIGHBOUR: 'it returns false'. Refute it at one input. -/
def fnVvApartWrong : ChangeSpec := { name := "fnVvApart", fn := fun _ => fun
  | [d1, d2] => { results := [.lit (.bool false)], args := [d1, d2] }
  | _ => none }
def FnVvApartWrongFalsely : Prop := fnVvApartRow.holds Try.pinned (OpenSpec.ofChange fnVvApartWrong)

/-- 'laws.FnVvJoin': WHATEVER THE INPUT: true; the input reads as it did. -/
def fnVvJoinSpec : ChangeSpec := { name := "fnVvJoin", fn := fun _ => fun
  | [d1, d2] => { results := [.lit (.bool true)], args := [d1, d2] }
  | _ => none }
def fnVvJoinRow : OpenClaim := { program := "ytcpblncbljeccaa", sum := "290fb1644ff00f3c3f7eb143841a9126ccfd73eca3e9b4c4f37bbb3c98434186", func := "loop.example/swathe/laws.FnVvJoin", spec := "fnVvJoin", apart := false }
def FnVvJoinSaid : Prop := fnVvJoinRow.holds Try.pinned (OpenSpec.ofChange fnVvJoinSpec)

/-- ITS FALSE NEIGHBOUR: 'it returns false'. Refute it at one input. -/
def fnVvJoinWrong : ChangeSpec := { name := "fnVvJoin", fn := fun _ => fun
  | [d1, d2] => { results := [.lit (.bool false)], args := [d1, d2] }
  | _ => none }
def FnVvJoinWrongFalsely : Prop := fnVvJoinRow.holds Try.pinned (OpenSpec.ofChange fnVvJoinWrong)

/- THE SECOND FORM. 'bulk': how many values and letters a reading holds, each counted each time it is reached (what is shared counts as often as it is met; a slice's spare places count too). A statement '..UptoSaid' is the law's where the arguments, and the package variables that the reading takes, are together of bulk at most 1048576: NARROWER than '..Said'. Prove '..Said' where nothing that the law and all that it calls make is longer than what came in: it says more and counts as full. Else prove '..UptoSaid'. A law counts once. -/
mutual
def uptoBulk {H : Type} : DataW H → Nat
  | .lit (.string bytes) => bytes.length + 1
  | .lit _ => 1
  | .nil => 1
  | .ptr d => uptoBulk d + 1
  | .slice elems spare => uptoBulkAll elems + uptoBulkAll spare + 1
  | .agg parts => uptoBulkAll parts + 1
  | .iface _ d => uptoBulk d + 1
  | .map entries => uptoBulkEntries entries + 1
  | .held _ => 1
def uptoBulkAll {H : Type} : List (DataW H) → Nat
  | [] => 0
  | d :: r => uptoBulk d + uptoBulkAll r
def uptoBulkEntries {H : Type} : List (Lit × DataW H) → Nat
  | [] => 0
  | x :: r => uptoBulkEntry x + uptoBulkEntries r
def uptoBulkEntry {H : Type} : Lit × DataW H → Nat
  | (.string bytes, d) => bytes.length + uptoBulk d + 1
  | (_, d) => uptoBulk d + 1
 end
def uptoSmall : (H : Type) → List (DataW H) → Bool := fun _ ds => decide (uptoBulkAll ds ≤ 1048576)
def OpenSpec.upto (s : _root_.Go.ChangeSpec) : _root_.Go.OpenSpec := { _root_.Go.OpenSpec.ofChange s with cond := some uptoSmall }

/-- 'laws.FnExactConstants', WHERE WHAT IT READS IS OF BULK AT MOST 1048576: true; the input reads as it did. -/
def fnExactConstantsUptoRow : OpenClaim := { program := "ytcpblncbljeccaa", sum := "290fb1644ff00f3c3f7eb143841a9126ccfd73eca3e9b4c4f37bbb3c98434186", func := "loop.example/swathe/laws.FnExactConstants", spec := "fnExactConstants", apart := false, narrowed := true }
def FnExactConstantsUptoSaid : Prop := fnExactConstantsUptoRow.holds Try.pinned (OpenSpec.upto fnExactConstantsSpec)

/-- 'laws.FnExactVvOk', WHERE WHAT IT READS IS OF BULK AT MOST 1048576: true; the input reads as it did. -/
def fnExactVvOkUptoRow : OpenClaim := { program := "ytcpblncbljeccaa", sum := "290fb1644ff00f3c3f7eb143841a9126ccfd73eca3e9b4c4f37bbb3c98434186", func := "loop.example/swathe/laws.FnExactVvOk", spec := "fnExactVvOk", apart := false, narrowed := true }
def FnExactVvOkUptoSaid : Prop := fnExactVvOkUptoRow.holds Try.pinned (OpenSpec.upto fnExactVvOkSpec)

/-- 'laws.FnVvBounds', WHERE WHAT IT READS IS OF BULK AT MOST 1048576: true; the input reads as it did. -/
def fnVvBoundsUptoRow : OpenClaim := { program := "ytcpblncbljeccaa", sum := "290fb1644ff00f3c3f7eb143841a9126ccfd73eca3e9b4c4f37bbb3c98434186", func := "loop.example/swathe/laws.FnVvBounds", spec := "fnVvBounds", apart := false, narrowed := true }
def FnVvBoundsUptoSaid : Prop := fnVvBoundsUptoRow.holds Try.pinned (OpenSpec.upto fnVvBoundsSpec)

/-- 'laws.FnExactVvIn', WHERE WHAT IT READS IS OF BULK AT MOST 1048576: true; the input reads as it did. -/
def fnExactVvInUptoRow : OpenClaim := { program := "ytcpblncbljeccaa", sum := "290fb1644ff00f3c3f7eb143841a9126ccfd73eca3e9b4c4f37bbb3c98434186", func := "loop.example/swathe/laws.FnExactVvIn", spec := "fnExactVvIn", apart := false, narrowed := true }
def FnExactVvInUptoSaid : Prop := fnExactVvInUptoRow.holds Try.pinned (OpenSpec.upto fnExactVvInSpec)

/-- 'laws.FnExactVvNext', WHERE WHAT IT READS IS OF BULK AT MOST 1048576: true; the input reads as it did. -/
def fnExactVvNextUptoRow : OpenClaim := { program := "ytcpblncbljeccaa", sum := "290fb1644ff00f3c3f7eb143841a9126ccfd73eca3e9b4c4f37bbb3c98434186", func := "loop.example/swathe/laws.FnExactVvNext", spec := "fnExactVvNext", apart := false, narrowed := true }
def FnExactVvNextUptoSaid : Prop := fnExactVvNextUptoRow.holds Try.pinned (OpenSpec.upto fnExactVvNextSpec)

/-- 'laws.FnExactVvJoin', WHERE WHAT IT READS IS OF BULK AT MOST 1048576: true; the input reads as it did. -/
def fnExactVvJoinUptoRow : OpenClaim := { program := "ytcpblncbljeccaa", sum := "290fb1644ff00f3c3f7eb143841a9126ccfd73eca3e9b4c4f37bbb3c98434186", func := "loop.example/swathe/laws.FnExactVvJoin", spec := "fnExactVvJoin", apart := false, narrowed := true }
def FnExactVvJoinUptoSaid : Prop := fnExactVvJoinUptoRow.holds Try.pinned (OpenSpec.upto fnExactVvJoinSpec)

/-- 'laws.FnVvNext', WHERE WHAT IT READS IS OF BULK AT MOST 1048576: true; the input reads as it did. -/
def fnVvNextUptoRow : OpenClaim := { program := "ytcpblncbljeccaa", sum := "290fb1644ff00f3c3f7eb143841a9126ccfd73eca3e9b4c4f37bbb3c98434186", func := "loop.example/swathe/laws.FnVvNext", spec := "fnVvNext", apart := false, narrowed := true }
def FnVvNextUptoSaid : Prop := fnVvNextUptoRow.holds Try.pinned (OpenSpec.upto fnVvNextSpec)

/-- 'laws.FnVvIn', WHERE WHAT IT READS IS OF BULK AT MOST 1048576: true; the input reads as it did. -/
def fnVvInUptoRow : OpenClaim := { program := "ytcpblncbljeccaa", sum := "290fb1644ff00f3c3f7eb143841a9126ccfd73eca3e9b4c4f37bbb3c98434186", func := "loop.example/swathe/laws.FnVvIn", spec := "fnVvIn", apart := false, narrowed := true }
def FnVvInUptoSaid : Prop := fnVvInUptoRow.holds Try.pinned (OpenSpec.upto fnVvInSpec)

/-- 'laws.FnVvThree', WHERE WHAT IT READS IS OF BULK AT MOST 1048576: true; the input reads as it did. -/
def fnVvThreeUptoRow : OpenClaim := { program := "ytcpblncbljeccaa", sum := "290fb1644ff00f3c3f7eb143841a9126ccfd73eca3e9b4c4f37bbb3c98434186", func := "loop.example/swathe/laws.FnVvThree", spec := "fnVvThree", apart := false, narrowed := true }
def FnVvThreeUptoSaid : Prop := fnVvThreeUptoRow.holds Try.pinned (OpenSpec.upto fnVvThreeSpec)

/-- 'laws.FnVvApart', WHERE WHAT IT READS IS OF BULK AT MOST 1048576: true; the input reads as it did. -/
def fnVvApartUptoRow : OpenClaim := { program := "ytcpblncbljeccaa", sum := "290fb1644ff00f3c3f7eb143841a9126ccfd73eca3e9b4c4f37bbb3c98434186", func := "loop.example/swathe/laws.FnVvApart", spec := "fnVvApart", apart := false, narrowed := true }
def FnVvApartUptoSaid : Prop := fnVvApartUptoRow.holds Try.pinned (OpenSpec.upto fnVvApartSpec)

/-- 'laws.FnVvJoin', WHERE WHAT IT READS IS OF BULK AT MOST 1048576: true; the input reads as it did. -/
def fnVvJoinUptoRow : OpenClaim := { program := "ytcpblncbljeccaa", sum := "290fb1644ff00f3c3f7eb143841a9126ccfd73eca3e9b4c4f37bbb3c98434186", func := "loop.example/swathe/laws.FnVvJoin", spec := "fnVvJoin", apart := false, narrowed := true }
def FnVvJoinUptoSaid : Prop := fnVvJoinUptoRow.holds Try.pinned (OpenSpec.upto fnVvJoinSpec)

end Rows
end Go.Proofs.Ytcpblncbljeccaa
