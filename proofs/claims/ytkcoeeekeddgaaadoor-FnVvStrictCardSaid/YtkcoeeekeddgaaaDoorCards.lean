/-
  DERIVED. GIVEN WITH THE SEED: THE CARDS: each row of YtkcoeeekeddgaaaDoorRows.lean that lists a variable, with what it lists TIED to the program's text (the seventh form; the later family's looks); each row that meets fmt, with fmt's text TOLD by the authors' own Lean function (tested against real Go, not proved from fmt's source: count such statements apart). THE CARD IS WHAT COUNTS. Prove the row's statement (the work); the ties are given (YtkcoeeekeddgaaaDoorTie.lean); close each card by the builder's one call (the guide's Derived/Test/ToyasCard.lean, 'card_holds'). Laid BY PROGRAM, IN A SANDBOX (cutbox-door.mjs). By AI agents, Wed Nov 11 2026. No macro, syntax, notation, axiom, sorry.
-/
import Derived.Test.YtkcoeeekeddgaaaDoorRows
import GoSem.ClaimSeven
namespace Go.Proofs.YtkcoeeekeddgaaaDoor
namespace Rows

/-- THE TIED CARD OF 'laws.FnExactVvText'. -/
def fnExactVvTextCard : Claim7 := { stood := { row := fnExactVvTextRow, standIns := [], harness := (true, "83af3c9b1fbd292a51999f4a531b308bcfab206c74d41507cfdaf8170801c640"), looks := true }, kinds := [], alts := [], laidByText := true, laidKinds := [.data, .data, .data], laidTests := true, laidLooks := .later }
def FnExactVvTextCardSaid : Prop := Claim7.holds Tryd.pinned (.plain (OpenSpec.ofChange fnExactVvTextSpec)) fnExactVvTextCard

/-- THE TIED CARD OF 'laws.FnExactSibOk'. -/
def fnExactSibOkCard : Claim7 := { stood := { row := fnExactSibOkRow, standIns := [], harness := (true, "83af3c9b1fbd292a51999f4a531b308bcfab206c74d41507cfdaf8170801c640"), looks := true }, kinds := [], alts := [], laidByText := true, laidKinds := [.data, .pinned], laidTests := true, laidLooks := .later }
def FnExactSibOkCardSaid : Prop := Claim7.holds Tryd.pinned (.plain (OpenSpec.ofChange fnExactSibOkSpec)) fnExactSibOkCard

/-- THE TIED CARD OF 'laws.FnSibForm'. -/
def fnSibFormCard : Claim7 := { stood := { row := fnSibFormRow, standIns := [], harness := (true, "83af3c9b1fbd292a51999f4a531b308bcfab206c74d41507cfdaf8170801c640"), looks := true }, kinds := [], alts := [], laidByText := true, laidKinds := [.data, .pinned], laidTests := true, laidLooks := .later }
def FnSibFormCardSaid : Prop := Claim7.holds Tryd.pinned (.plain (OpenSpec.ofChange fnSibFormSpec)) fnSibFormCard

/-- THE TIED CARD OF 'laws.FnVvOne'. -/
def fnVvOneCard : Claim7 := { stood := { row := fnVvOneRow, standIns := [], harness := (true, "83af3c9b1fbd292a51999f4a531b308bcfab206c74d41507cfdaf8170801c640"), looks := true }, kinds := [], alts := [], laidByText := true, laidKinds := [.data, .data, .data], laidTests := true, laidLooks := .later }
def FnVvOneCardSaid : Prop := Claim7.holds Tryd.pinned (.plain (OpenSpec.ofChange fnVvOneSpec)) fnVvOneCard

/-- THE TIED CARD OF 'laws.FnExactSibCmp'. -/
def fnExactSibCmpCard : Claim7 := { stood := { row := fnExactSibCmpRow, standIns := [], harness := (true, "83af3c9b1fbd292a51999f4a531b308bcfab206c74d41507cfdaf8170801c640"), looks := true }, kinds := [], alts := [], laidByText := true, laidKinds := [.data, .pinned], laidTests := true, laidLooks := .later }
def FnExactSibCmpCardSaid : Prop := Claim7.holds Tryd.pinned (.plain (OpenSpec.ofChange fnExactSibCmpSpec)) fnExactSibCmpCard

/-- THE TIED CARD OF 'laws.FnSibThree'. -/
def fnSibThreeCard : Claim7 := { stood := { row := fnSibThreeRow, standIns := [], harness := (true, "83af3c9b1fbd292a51999f4a531b308bcfab206c74d41507cfdaf8170801c640"), looks := true }, kinds := [], alts := [], laidByText := true, laidKinds := [.data, .pinned], laidTests := true, laidLooks := .later }
def FnSibThreeCardSaid : Prop := Claim7.holds Tryd.pinned (.plain (OpenSpec.ofChange fnSibThreeSpec)) fnSibThreeCard

/-- THE TIED CARD OF 'laws.FnSibCmp'. -/
def fnSibCmpCard : Claim7 := { stood := { row := fnSibCmpRow, standIns := [], harness := (true, "83af3c9b1fbd292a51999f4a531b308bcfab206c74d41507cfdaf8170801c640"), looks := true }, kinds := [], alts := [], laidByText := true, laidKinds := [.data, .pinned], laidTests := true, laidLooks := .later }
def FnSibCmpCardSaid : Prop := Claim7.holds Tryd.pinned (.plain (OpenSpec.ofChange fnSibCmpSpec)) fnSibCmpCard

/-- THE TIED CARD OF 'laws.FnExactSibsShow'. -/
def fnExactSibsShowCard : Claim7 := { stood := { row := fnExactSibsShowRow, standIns := [], harness := (true, "83af3c9b1fbd292a51999f4a531b308bcfab206c74d41507cfdaf8170801c640"), looks := true }, kinds := [], alts := [], laidByText := true, laidKinds := [.data, .pinned], laidTests := true, laidLooks := .later }
def FnExactSibsShowCardSaid : Prop := Claim7.holds Tryd.pinned (.plain (OpenSpec.ofChange fnExactSibsShowSpec)) fnExactSibsShowCard

/-- THE TIED CARD OF 'laws.FnVvBack'. -/
def fnVvBackCard : Claim7 := { stood := { row := fnVvBackRow, standIns := [], harness := (true, "83af3c9b1fbd292a51999f4a531b308bcfab206c74d41507cfdaf8170801c640"), looks := true }, kinds := [], alts := [], laidByText := true, laidKinds := [.data, .data, .data, .data, .sentinel, .sentinel, .pinned], laidTests := true, laidLooks := .later }
def FnVvBackCardSaid : Prop := Claim7.holds Tryd.pinned (.plain (OpenSpec.ofChange fnVvBackSpec)) fnVvBackCard

/-- THE TIED CARD OF 'laws.FnExactVvRead'. -/
def fnExactVvReadCard : Claim7 := { stood := { row := fnExactVvReadRow, standIns := [], harness := (true, "83af3c9b1fbd292a51999f4a531b308bcfab206c74d41507cfdaf8170801c640"), looks := true }, kinds := [], alts := [], laidByText := true, laidKinds := [.data, .data, .data, .data, .sentinel, .sentinel, .pinned], laidTests := true, laidLooks := .later }
def FnExactVvReadCardSaid : Prop := Claim7.holds Tryd.pinned (.plain (OpenSpec.ofChange fnExactVvReadSpec)) fnExactVvReadCard

/-- THE TIED CARD OF 'laws.FnVvStrict'. -/
def fnVvStrictCard : Claim7 := { stood := { row := fnVvStrictRow, standIns := [], harness := (true, "83af3c9b1fbd292a51999f4a531b308bcfab206c74d41507cfdaf8170801c640"), looks := true }, kinds := [], alts := [], laidByText := true, laidKinds := [.data, .data, .data, .data, .sentinel, .sentinel, .pinned], laidTests := true, laidLooks := .later }
def FnVvStrictCardSaid : Prop := Claim7.holds Tryd.pinned (.plain (OpenSpec.ofChange fnVvStrictSpec)) fnVvStrictCard

/-- THE SECOND FORM's CARD OF 'laws.FnExactVvText'. -/
def fnExactVvTextUptoCard : Claim7 := { stood := { row := fnExactVvTextUptoRow, standIns := [], harness := (true, "83af3c9b1fbd292a51999f4a531b308bcfab206c74d41507cfdaf8170801c640"), looks := true }, kinds := [], alts := [], laidByText := true, laidKinds := [.data, .data, .data], laidTests := true, laidLooks := .later }
def FnExactVvTextUptoCardSaid : Prop := Claim7.holds Tryd.pinned (.plain (OpenSpec.upto fnExactVvTextSpec)) fnExactVvTextUptoCard

/-- THE SECOND FORM's CARD OF 'laws.FnExactSibOk'. -/
def fnExactSibOkUptoCard : Claim7 := { stood := { row := fnExactSibOkUptoRow, standIns := [], harness := (true, "83af3c9b1fbd292a51999f4a531b308bcfab206c74d41507cfdaf8170801c640"), looks := true }, kinds := [], alts := [], laidByText := true, laidKinds := [.data, .pinned], laidTests := true, laidLooks := .later }
def FnExactSibOkUptoCardSaid : Prop := Claim7.holds Tryd.pinned (.plain (OpenSpec.upto fnExactSibOkSpec)) fnExactSibOkUptoCard

/-- THE SECOND FORM's CARD OF 'laws.FnSibForm'. -/
def fnSibFormUptoCard : Claim7 := { stood := { row := fnSibFormUptoRow, standIns := [], harness := (true, "83af3c9b1fbd292a51999f4a531b308bcfab206c74d41507cfdaf8170801c640"), looks := true }, kinds := [], alts := [], laidByText := true, laidKinds := [.data, .pinned], laidTests := true, laidLooks := .later }
def FnSibFormUptoCardSaid : Prop := Claim7.holds Tryd.pinned (.plain (OpenSpec.upto fnSibFormSpec)) fnSibFormUptoCard

/-- THE SECOND FORM's CARD OF 'laws.FnVvOne'. -/
def fnVvOneUptoCard : Claim7 := { stood := { row := fnVvOneUptoRow, standIns := [], harness := (true, "83af3c9b1fbd292a51999f4a531b308bcfab206c74d41507cfdaf8170801c640"), looks := true }, kinds := [], alts := [], laidByText := true, laidKinds := [.data, .data, .data], laidTests := true, laidLooks := .later }
def FnVvOneUptoCardSaid : Prop := Claim7.holds Tryd.pinned (.plain (OpenSpec.upto fnVvOneSpec)) fnVvOneUptoCard

/-- THE SECOND FORM's CARD OF 'laws.FnExactSibCmp'. -/
def fnExactSibCmpUptoCard : Claim7 := { stood := { row := fnExactSibCmpUptoRow, standIns := [], harness := (true, "83af3c9b1fbd292a51999f4a531b308bcfab206c74d41507cfdaf8170801c640"), looks := true }, kinds := [], alts := [], laidByText := true, laidKinds := [.data, .pinned], laidTests := true, laidLooks := .later }
def FnExactSibCmpUptoCardSaid : Prop := Claim7.holds Tryd.pinned (.plain (OpenSpec.upto fnExactSibCmpSpec)) fnExactSibCmpUptoCard

/-- THE SECOND FORM's CARD OF 'laws.FnSibThree'. -/
def fnSibThreeUptoCard : Claim7 := { stood := { row := fnSibThreeUptoRow, standIns := [], harness := (true, "83af3c9b1fbd292a51999f4a531b308bcfab206c74d41507cfdaf8170801c640"), looks := true }, kinds := [], alts := [], laidByText := true, laidKinds := [.data, .pinned], laidTests := true, laidLooks := .later }
def FnSibThreeUptoCardSaid : Prop := Claim7.holds Tryd.pinned (.plain (OpenSpec.upto fnSibThreeSpec)) fnSibThreeUptoCard

/-- THE SECOND FORM's CARD OF 'laws.FnSibCmp'. -/
def fnSibCmpUptoCard : Claim7 := { stood := { row := fnSibCmpUptoRow, standIns := [], harness := (true, "83af3c9b1fbd292a51999f4a531b308bcfab206c74d41507cfdaf8170801c640"), looks := true }, kinds := [], alts := [], laidByText := true, laidKinds := [.data, .pinned], laidTests := true, laidLooks := .later }
def FnSibCmpUptoCardSaid : Prop := Claim7.holds Tryd.pinned (.plain (OpenSpec.upto fnSibCmpSpec)) fnSibCmpUptoCard

/-- THE SECOND FORM's CARD OF 'laws.FnExactSibsShow'. -/
def fnExactSibsShowUptoCard : Claim7 := { stood := { row := fnExactSibsShowUptoRow, standIns := [], harness := (true, "83af3c9b1fbd292a51999f4a531b308bcfab206c74d41507cfdaf8170801c640"), looks := true }, kinds := [], alts := [], laidByText := true, laidKinds := [.data, .pinned], laidTests := true, laidLooks := .later }
def FnExactSibsShowUptoCardSaid : Prop := Claim7.holds Tryd.pinned (.plain (OpenSpec.upto fnExactSibsShowSpec)) fnExactSibsShowUptoCard

/-- THE SECOND FORM's CARD OF 'laws.FnVvBack'. -/
def fnVvBackUptoCard : Claim7 := { stood := { row := fnVvBackUptoRow, standIns := [], harness := (true, "83af3c9b1fbd292a51999f4a531b308bcfab206c74d41507cfdaf8170801c640"), looks := true }, kinds := [], alts := [], laidByText := true, laidKinds := [.data, .data, .data, .data, .sentinel, .sentinel, .pinned], laidTests := true, laidLooks := .later }
def FnVvBackUptoCardSaid : Prop := Claim7.holds Tryd.pinned (.plain (OpenSpec.upto fnVvBackSpec)) fnVvBackUptoCard

/-- THE SECOND FORM's CARD OF 'laws.FnExactVvRead'. -/
def fnExactVvReadUptoCard : Claim7 := { stood := { row := fnExactVvReadUptoRow, standIns := [], harness := (true, "83af3c9b1fbd292a51999f4a531b308bcfab206c74d41507cfdaf8170801c640"), looks := true }, kinds := [], alts := [], laidByText := true, laidKinds := [.data, .data, .data, .data, .sentinel, .sentinel, .pinned], laidTests := true, laidLooks := .later }
def FnExactVvReadUptoCardSaid : Prop := Claim7.holds Tryd.pinned (.plain (OpenSpec.upto fnExactVvReadSpec)) fnExactVvReadUptoCard

/-- THE SECOND FORM's CARD OF 'laws.FnVvStrict'. -/
def fnVvStrictUptoCard : Claim7 := { stood := { row := fnVvStrictUptoRow, standIns := [], harness := (true, "83af3c9b1fbd292a51999f4a531b308bcfab206c74d41507cfdaf8170801c640"), looks := true }, kinds := [], alts := [], laidByText := true, laidKinds := [.data, .data, .data, .data, .sentinel, .sentinel, .pinned], laidTests := true, laidLooks := .later }
def FnVvStrictUptoCardSaid : Prop := Claim7.holds Tryd.pinned (.plain (OpenSpec.upto fnVvStrictSpec)) fnVvStrictUptoCard
end Rows
end Go.Proofs.YtkcoeeekeddgaaaDoor
