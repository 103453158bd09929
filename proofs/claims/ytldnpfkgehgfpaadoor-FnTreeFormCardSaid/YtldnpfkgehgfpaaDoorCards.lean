/-
  DERIVED. GIVEN WITH THE SEED: THE CARDS: each row of YtldnpfkgehgfpaaDoorRows.lean that lists a variable, with what it lists TIED to the program's text (the seventh form; the later family's looks); each row that meets fmt, with fmt's text TOLD by the authors' own Lean function (tested against real Go, not proved from fmt's source: count such statements apart). THE CARD IS WHAT COUNTS. Prove the row's statement (the work); the ties are given (YtldnpfkgehgfpaaDoorTie.lean); close each card by the builder's one call (the guide's Derived/Test/ToyasCard.lean, 'card_holds'). Laid BY PROGRAM, IN A SANDBOX (cutbox-door.mjs). By AI agents, Wed Nov 11 2026. No macro, syntax, notation, axiom, sorry.
-/
import Derived.Test.YtldnpfkgehgfpaaDoorRows
import GoSem.ClaimSeven
namespace Go.Proofs.YtldnpfkgehgfpaaDoor
namespace Rows

/-- THE TIED CARD OF 'laws.FnTreeForm'. -/
def fnTreeFormCard : Claim7 := { stood := { row := fnTreeFormRow, standIns := [], harness := (true, "d6a6025f8c32fe330502a94f902eb41f5678a2132f41abde1fe043454eb12318"), looks := false }, kinds := [], alts := [], laidByText := true, laidKinds := [.data, .pinned], laidTests := true, laidLooks := .later }
def FnTreeFormCardSaid : Prop := Claim7.holds Tryd.pinned (.plain (OpenSpec.ofChange fnTreeFormSpec)) fnTreeFormCard

/-- THE SECOND FORM's CARD OF 'laws.FnTreeForm'. -/
def fnTreeFormUptoCard : Claim7 := { stood := { row := fnTreeFormUptoRow, standIns := [], harness := (true, "d6a6025f8c32fe330502a94f902eb41f5678a2132f41abde1fe043454eb12318"), looks := false }, kinds := [], alts := [], laidByText := true, laidKinds := [.data, .pinned], laidTests := true, laidLooks := .later }
def FnTreeFormUptoCardSaid : Prop := Claim7.holds Tryd.pinned (.plain (OpenSpec.upto fnTreeFormSpec)) fnTreeFormUptoCard
end Rows
end Go.Proofs.YtldnpfkgehgfpaaDoor
