/-
  DERIVED. GIVEN WITH THE SEED: THE CARDS: each row of YtlmjgbonoihccaaDoorRows.lean that lists a variable, with what it lists TIED to the program's text (the seventh form; the later family's looks); each row that meets fmt, with fmt's text TOLD by the authors' own Lean function (tested against real Go, not proved from fmt's source: count such statements apart). THE CARD IS WHAT COUNTS. Prove the row's statement (the work); the ties are given (YtlmjgbonoihccaaDoorTie.lean); close each card by the builder's one call (the guide's Derived/Test/ToyasCard.lean, 'card_holds'). Laid BY PROGRAM, IN A SANDBOX (cutbox-door.mjs). By AI agents, Wed Nov 11 2026. No macro, syntax, notation, axiom, sorry.
-/
import Derived.Test.YtlmjgbonoihccaaDoorRows
import GoSem.ClaimSeven
namespace Go.Proofs.YtlmjgbonoihccaaDoor
namespace Rows

/-- THE TIED CARD OF 'laws.FnSibsVv'. -/
def fnSibsVvCard : Claim7 := { stood := { row := fnSibsVvRow, standIns := [], harness := (true, "d92ada1e7ad997400935a34cc83f85734f498609dd0b5353a1abda88e64a1037"), looks := false }, kinds := [], alts := [], laidByText := true, laidKinds := [.data, .pinned], laidTests := true, laidLooks := .later }
def FnSibsVvCardSaid : Prop := Claim7.holds Tryd.pinned (.plain (OpenSpec.ofChange fnSibsVvSpec)) fnSibsVvCard

/-- THE TIED CARD OF 'laws.FnSibsKnown'. -/
def fnSibsKnownCard : Claim7 := { stood := { row := fnSibsKnownRow, standIns := [], harness := (true, "d92ada1e7ad997400935a34cc83f85734f498609dd0b5353a1abda88e64a1037"), looks := false }, kinds := [], alts := [], laidByText := true, laidKinds := [.data, .pinned], laidTests := true, laidLooks := .later }
def FnSibsKnownCardSaid : Prop := Claim7.holds Tryd.pinned (.plain (OpenSpec.ofChange fnSibsKnownSpec)) fnSibsKnownCard

/-- THE TIED CARD OF 'laws.FnExactSibsMerge'. -/
def fnExactSibsMergeCard : Claim7 := { stood := { row := fnExactSibsMergeRow, standIns := [], harness := (true, "d92ada1e7ad997400935a34cc83f85734f498609dd0b5353a1abda88e64a1037"), looks := false }, kinds := [], alts := [], laidByText := true, laidKinds := [.data, .pinned], laidTests := true, laidLooks := .later }
def FnExactSibsMergeCardSaid : Prop := Claim7.holds Tryd.pinned (.plain (OpenSpec.ofChange fnExactSibsMergeSpec)) fnExactSibsMergeCard

/-- THE TIED CARD OF 'laws.FnExactSibsOk'. -/
def fnExactSibsOkCard : Claim7 := { stood := { row := fnExactSibsOkRow, standIns := [], harness := (true, "d92ada1e7ad997400935a34cc83f85734f498609dd0b5353a1abda88e64a1037"), looks := false }, kinds := [], alts := [], laidByText := true, laidKinds := [.data, .pinned], laidTests := true, laidLooks := .later }
def FnExactSibsOkCardSaid : Prop := Claim7.holds Tryd.pinned (.plain (OpenSpec.ofChange fnExactSibsOkSpec)) fnExactSibsOkCard

/-- THE TIED CARD OF 'laws.FnSibsShow'. -/
def fnSibsShowCard : Claim7 := { stood := { row := fnSibsShowRow, standIns := [], harness := (true, "d92ada1e7ad997400935a34cc83f85734f498609dd0b5353a1abda88e64a1037"), looks := false }, kinds := [], alts := [], laidByText := true, laidKinds := [.data, .pinned], laidTests := true, laidLooks := .later }
def FnSibsShowCardSaid : Prop := Claim7.holds Tryd.pinned (.plain (OpenSpec.ofChange fnSibsShowSpec)) fnSibsShowCard

/-- THE TIED CARD OF 'laws.FnSibsForm'. -/
def fnSibsFormCard : Claim7 := { stood := { row := fnSibsFormRow, standIns := [], harness := (true, "d92ada1e7ad997400935a34cc83f85734f498609dd0b5353a1abda88e64a1037"), looks := false }, kinds := [], alts := [], laidByText := true, laidKinds := [.data, .pinned], laidTests := true, laidLooks := .later }
def FnSibsFormCardSaid : Prop := Claim7.holds Tryd.pinned (.plain (OpenSpec.ofChange fnSibsFormSpec)) fnSibsFormCard

/-- THE TIED CARD OF 'laws.FnTreeForm'. -/
def fnTreeFormCard : Claim7 := { stood := { row := fnTreeFormRow, standIns := [], harness := (true, "d92ada1e7ad997400935a34cc83f85734f498609dd0b5353a1abda88e64a1037"), looks := false }, kinds := [], alts := [], laidByText := true, laidKinds := [.data, .pinned], laidTests := true, laidLooks := .later }
def FnTreeFormCardSaid : Prop := Claim7.holds Tryd.pinned (.plain (OpenSpec.ofChange fnTreeFormSpec)) fnTreeFormCard

/-- THE TIED CARD OF 'laws.FnExactSibsVv'. -/
def fnExactSibsVvCard : Claim7 := { stood := { row := fnExactSibsVvRow, standIns := [], harness := (true, "d92ada1e7ad997400935a34cc83f85734f498609dd0b5353a1abda88e64a1037"), looks := false }, kinds := [], alts := [], laidByText := true, laidKinds := [.data, .pinned], laidTests := true, laidLooks := .later }
def FnExactSibsVvCardSaid : Prop := Claim7.holds Tryd.pinned (.plain (OpenSpec.ofChange fnExactSibsVvSpec)) fnExactSibsVvCard

/-- THE TIED CARD OF 'laws.FnSibsBoth'. -/
def fnSibsBothCard : Claim7 := { stood := { row := fnSibsBothRow, standIns := [], harness := (true, "d92ada1e7ad997400935a34cc83f85734f498609dd0b5353a1abda88e64a1037"), looks := false }, kinds := [], alts := [], laidByText := true, laidKinds := [.data, .pinned], laidTests := true, laidLooks := .later }
def FnSibsBothCardSaid : Prop := Claim7.holds Tryd.pinned (.plain (OpenSpec.ofChange fnSibsBothSpec)) fnSibsBothCard

/-- THE TIED CARD OF 'laws.FnSibsThree'. -/
def fnSibsThreeCard : Claim7 := { stood := { row := fnSibsThreeRow, standIns := [], harness := (true, "d92ada1e7ad997400935a34cc83f85734f498609dd0b5353a1abda88e64a1037"), looks := false }, kinds := [], alts := [], laidByText := true, laidKinds := [.data, .pinned], laidTests := true, laidLooks := .later }
def FnSibsThreeCardSaid : Prop := Claim7.holds Tryd.pinned (.plain (OpenSpec.ofChange fnSibsThreeSpec)) fnSibsThreeCard

/-- THE TIED CARD OF 'laws.FnSibsIn'. -/
def fnSibsInCard : Claim7 := { stood := { row := fnSibsInRow, standIns := [], harness := (true, "d92ada1e7ad997400935a34cc83f85734f498609dd0b5353a1abda88e64a1037"), looks := false }, kinds := [], alts := [], laidByText := true, laidKinds := [.data, .pinned], laidTests := true, laidLooks := .later }
def FnSibsInCardSaid : Prop := Claim7.holds Tryd.pinned (.plain (OpenSpec.ofChange fnSibsInSpec)) fnSibsInCard

/-- THE TIED CARD OF 'laws.FnSibsMerge'. -/
def fnSibsMergeCard : Claim7 := { stood := { row := fnSibsMergeRow, standIns := [], harness := (true, "d92ada1e7ad997400935a34cc83f85734f498609dd0b5353a1abda88e64a1037"), looks := false }, kinds := [], alts := [], laidByText := true, laidKinds := [.data, .pinned], laidTests := true, laidLooks := .later }
def FnSibsMergeCardSaid : Prop := Claim7.holds Tryd.pinned (.plain (OpenSpec.ofChange fnSibsMergeSpec)) fnSibsMergeCard

/-- THE SECOND FORM's CARD OF 'laws.FnSibsVv'. -/
def fnSibsVvUptoCard : Claim7 := { stood := { row := fnSibsVvUptoRow, standIns := [], harness := (true, "d92ada1e7ad997400935a34cc83f85734f498609dd0b5353a1abda88e64a1037"), looks := false }, kinds := [], alts := [], laidByText := true, laidKinds := [.data, .pinned], laidTests := true, laidLooks := .later }
def FnSibsVvUptoCardSaid : Prop := Claim7.holds Tryd.pinned (.plain (OpenSpec.upto fnSibsVvSpec)) fnSibsVvUptoCard

/-- THE SECOND FORM's CARD OF 'laws.FnSibsKnown'. -/
def fnSibsKnownUptoCard : Claim7 := { stood := { row := fnSibsKnownUptoRow, standIns := [], harness := (true, "d92ada1e7ad997400935a34cc83f85734f498609dd0b5353a1abda88e64a1037"), looks := false }, kinds := [], alts := [], laidByText := true, laidKinds := [.data, .pinned], laidTests := true, laidLooks := .later }
def FnSibsKnownUptoCardSaid : Prop := Claim7.holds Tryd.pinned (.plain (OpenSpec.upto fnSibsKnownSpec)) fnSibsKnownUptoCard

/-- THE SECOND FORM's CARD OF 'laws.FnExactSibsMerge'. -/
def fnExactSibsMergeUptoCard : Claim7 := { stood := { row := fnExactSibsMergeUptoRow, standIns := [], harness := (true, "d92ada1e7ad997400935a34cc83f85734f498609dd0b5353a1abda88e64a1037"), looks := false }, kinds := [], alts := [], laidByText := true, laidKinds := [.data, .pinned], laidTests := true, laidLooks := .later }
def FnExactSibsMergeUptoCardSaid : Prop := Claim7.holds Tryd.pinned (.plain (OpenSpec.upto fnExactSibsMergeSpec)) fnExactSibsMergeUptoCard

/-- THE SECOND FORM's CARD OF 'laws.FnExactSibsOk'. -/
def fnExactSibsOkUptoCard : Claim7 := { stood := { row := fnExactSibsOkUptoRow, standIns := [], harness := (true, "d92ada1e7ad997400935a34cc83f85734f498609dd0b5353a1abda88e64a1037"), looks := false }, kinds := [], alts := [], laidByText := true, laidKinds := [.data, .pinned], laidTests := true, laidLooks := .later }
def FnExactSibsOkUptoCardSaid : Prop := Claim7.holds Tryd.pinned (.plain (OpenSpec.upto fnExactSibsOkSpec)) fnExactSibsOkUptoCard

/-- THE SECOND FORM's CARD OF 'laws.FnSibsShow'. -/
def fnSibsShowUptoCard : Claim7 := { stood := { row := fnSibsShowUptoRow, standIns := [], harness := (true, "d92ada1e7ad997400935a34cc83f85734f498609dd0b5353a1abda88e64a1037"), looks := false }, kinds := [], alts := [], laidByText := true, laidKinds := [.data, .pinned], laidTests := true, laidLooks := .later }
def FnSibsShowUptoCardSaid : Prop := Claim7.holds Tryd.pinned (.plain (OpenSpec.upto fnSibsShowSpec)) fnSibsShowUptoCard

/-- THE SECOND FORM's CARD OF 'laws.FnSibsForm'. -/
def fnSibsFormUptoCard : Claim7 := { stood := { row := fnSibsFormUptoRow, standIns := [], harness := (true, "d92ada1e7ad997400935a34cc83f85734f498609dd0b5353a1abda88e64a1037"), looks := false }, kinds := [], alts := [], laidByText := true, laidKinds := [.data, .pinned], laidTests := true, laidLooks := .later }
def FnSibsFormUptoCardSaid : Prop := Claim7.holds Tryd.pinned (.plain (OpenSpec.upto fnSibsFormSpec)) fnSibsFormUptoCard

/-- THE SECOND FORM's CARD OF 'laws.FnTreeForm'. -/
def fnTreeFormUptoCard : Claim7 := { stood := { row := fnTreeFormUptoRow, standIns := [], harness := (true, "d92ada1e7ad997400935a34cc83f85734f498609dd0b5353a1abda88e64a1037"), looks := false }, kinds := [], alts := [], laidByText := true, laidKinds := [.data, .pinned], laidTests := true, laidLooks := .later }
def FnTreeFormUptoCardSaid : Prop := Claim7.holds Tryd.pinned (.plain (OpenSpec.upto fnTreeFormSpec)) fnTreeFormUptoCard

/-- THE SECOND FORM's CARD OF 'laws.FnExactSibsVv'. -/
def fnExactSibsVvUptoCard : Claim7 := { stood := { row := fnExactSibsVvUptoRow, standIns := [], harness := (true, "d92ada1e7ad997400935a34cc83f85734f498609dd0b5353a1abda88e64a1037"), looks := false }, kinds := [], alts := [], laidByText := true, laidKinds := [.data, .pinned], laidTests := true, laidLooks := .later }
def FnExactSibsVvUptoCardSaid : Prop := Claim7.holds Tryd.pinned (.plain (OpenSpec.upto fnExactSibsVvSpec)) fnExactSibsVvUptoCard

/-- THE SECOND FORM's CARD OF 'laws.FnSibsBoth'. -/
def fnSibsBothUptoCard : Claim7 := { stood := { row := fnSibsBothUptoRow, standIns := [], harness := (true, "d92ada1e7ad997400935a34cc83f85734f498609dd0b5353a1abda88e64a1037"), looks := false }, kinds := [], alts := [], laidByText := true, laidKinds := [.data, .pinned], laidTests := true, laidLooks := .later }
def FnSibsBothUptoCardSaid : Prop := Claim7.holds Tryd.pinned (.plain (OpenSpec.upto fnSibsBothSpec)) fnSibsBothUptoCard

/-- THE SECOND FORM's CARD OF 'laws.FnSibsThree'. -/
def fnSibsThreeUptoCard : Claim7 := { stood := { row := fnSibsThreeUptoRow, standIns := [], harness := (true, "d92ada1e7ad997400935a34cc83f85734f498609dd0b5353a1abda88e64a1037"), looks := false }, kinds := [], alts := [], laidByText := true, laidKinds := [.data, .pinned], laidTests := true, laidLooks := .later }
def FnSibsThreeUptoCardSaid : Prop := Claim7.holds Tryd.pinned (.plain (OpenSpec.upto fnSibsThreeSpec)) fnSibsThreeUptoCard

/-- THE SECOND FORM's CARD OF 'laws.FnSibsIn'. -/
def fnSibsInUptoCard : Claim7 := { stood := { row := fnSibsInUptoRow, standIns := [], harness := (true, "d92ada1e7ad997400935a34cc83f85734f498609dd0b5353a1abda88e64a1037"), looks := false }, kinds := [], alts := [], laidByText := true, laidKinds := [.data, .pinned], laidTests := true, laidLooks := .later }
def FnSibsInUptoCardSaid : Prop := Claim7.holds Tryd.pinned (.plain (OpenSpec.upto fnSibsInSpec)) fnSibsInUptoCard

/-- THE SECOND FORM's CARD OF 'laws.FnSibsMerge'. -/
def fnSibsMergeUptoCard : Claim7 := { stood := { row := fnSibsMergeUptoRow, standIns := [], harness := (true, "d92ada1e7ad997400935a34cc83f85734f498609dd0b5353a1abda88e64a1037"), looks := false }, kinds := [], alts := [], laidByText := true, laidKinds := [.data, .pinned], laidTests := true, laidLooks := .later }
def FnSibsMergeUptoCardSaid : Prop := Claim7.holds Tryd.pinned (.plain (OpenSpec.upto fnSibsMergeSpec)) fnSibsMergeUptoCard
end Rows
end Go.Proofs.YtlmjgbonoihccaaDoor
