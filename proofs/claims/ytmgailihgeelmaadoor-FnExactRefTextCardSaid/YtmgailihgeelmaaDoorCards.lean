/-
  DERIVED. GIVEN WITH THE SEED: THE CARDS: each row of YtmgailihgeelmaaDoorRows.lean that lists a variable, with what it lists TIED to the program's text (the seventh form; the later family's looks); each row that meets fmt, with fmt's text TOLD by the authors' own Lean function (tested against real Go, not proved from fmt's source: count such statements apart). THE CARD IS WHAT COUNTS. Prove the row's statement (the work); the ties are given (YtmgailihgeelmaaDoorTie.lean); close each card by the builder's one call (the guide's Derived/Test/ToyasCard.lean, 'card_holds'). Laid BY PROGRAM, IN A SANDBOX (cutbox-door.mjs). By AI agents, Wed Nov 11 2026. No macro, syntax, notation, axiom, sorry.
-/
import Derived.Test.YtmgailihgeelmaaDoorRows
import GoSem.ClaimSeven
namespace Go.Proofs.YtmgailihgeelmaaDoor
namespace Rows

/-- THE TIED CARD OF 'laws.FnExactLengthOf'. -/
def fnExactLengthOfCard : Claim7 := { stood := { row := fnExactLengthOfRow, standIns := [], harness := (true, "554ddb031af701a769035604ebf9eab8ab898713aaaa240764a2e55641339741"), looks := false }, kinds := [], alts := [], laidByText := true, laidKinds := [.data, .pinned], laidTests := true, laidLooks := .later }
def FnExactLengthOfCardSaid : Prop := Claim7.holds Tryd.pinned (.plain (OpenSpec.ofChange fnExactLengthOfSpec)) fnExactLengthOfCard

/-- THE TIED CARD OF 'laws.FnExactPieceOf'. -/
def fnExactPieceOfCard : Claim7 := { stood := { row := fnExactPieceOfRow, standIns := [], harness := (true, "554ddb031af701a769035604ebf9eab8ab898713aaaa240764a2e55641339741"), looks := false }, kinds := [], alts := [], laidByText := true, laidKinds := [.data, .pinned], laidTests := true, laidLooks := .later }
def FnExactPieceOfCardSaid : Prop := Claim7.holds Tryd.pinned (.plain (OpenSpec.ofChange fnExactPieceOfSpec)) fnExactPieceOfCard

/-- THE TIED CARD OF 'laws.FnExactTokens'. -/
def fnExactTokensCard : Claim7 := { stood := { row := fnExactTokensRow, standIns := [], harness := (true, "554ddb031af701a769035604ebf9eab8ab898713aaaa240764a2e55641339741"), looks := false }, kinds := [], alts := [], laidByText := true, laidKinds := [.data, .pinned], laidTests := true, laidLooks := .later }
def FnExactTokensCardSaid : Prop := Claim7.holds Tryd.pinned (.plain (OpenSpec.ofChange fnExactTokensSpec)) fnExactTokensCard

/-- THE TIED CARD OF 'laws.FnExactSubsBefore'. -/
def fnExactSubsBeforeCard : Claim7 := { stood := { row := fnExactSubsBeforeRow, standIns := [], harness := (true, "554ddb031af701a769035604ebf9eab8ab898713aaaa240764a2e55641339741"), looks := false }, kinds := [], alts := [], laidByText := true, laidKinds := [.data, .data, .data, .data, .pinned], laidTests := true, laidLooks := .later }
def FnExactSubsBeforeCardSaid : Prop := Claim7.holds Tryd.pinned (.plain (OpenSpec.ofChange fnExactSubsBeforeSpec)) fnExactSubsBeforeCard

/-- THE TIED CARD OF 'laws.FnExactPutSubs'. -/
def fnExactPutSubsCard : Claim7 := { stood := { row := fnExactPutSubsRow, standIns := [], harness := (true, "554ddb031af701a769035604ebf9eab8ab898713aaaa240764a2e55641339741"), looks := false }, kinds := [], alts := [], laidByText := true, laidKinds := [.data, .data, .data, .data, .pinned], laidTests := true, laidLooks := .later }
def FnExactPutSubsCardSaid : Prop := Claim7.holds Tryd.pinned (.plain (OpenSpec.ofChange fnExactPutSubsSpec)) fnExactPutSubsCard

/-- THE TIED CARD OF 'laws.FnExactKeyOf'. -/
def fnExactKeyOfCard : Claim7 := { stood := { row := fnExactKeyOfRow, standIns := [], harness := (true, "554ddb031af701a769035604ebf9eab8ab898713aaaa240764a2e55641339741"), looks := false }, kinds := [], alts := [], laidByText := true, laidKinds := [.data, .data, .data, .data, .pinned], laidTests := true, laidLooks := .later }
def FnExactKeyOfCardSaid : Prop := Claim7.holds Tryd.pinned (.plain (OpenSpec.ofChange fnExactKeyOfSpec)) fnExactKeyOfCard

/-- THE TIED CARD OF 'laws.FnExactRefText'. -/
def fnExactRefTextCard : Claim7 := { stood := { row := fnExactRefTextRow, standIns := [], harness := (true, "554ddb031af701a769035604ebf9eab8ab898713aaaa240764a2e55641339741"), looks := false }, kinds := [], alts := [], laidByText := true, laidKinds := [.data, .data, .data, .data, .pinned], laidTests := true, laidLooks := .later }
def FnExactRefTextCardSaid : Prop := Claim7.holds Tryd.pinned (.plain (OpenSpec.ofChange fnExactRefTextSpec)) fnExactRefTextCard

/-- THE TIED CARD OF 'laws.FnExactGetSubs'. -/
def fnExactGetSubsCard : Claim7 := { stood := { row := fnExactGetSubsRow, standIns := [], harness := (true, "554ddb031af701a769035604ebf9eab8ab898713aaaa240764a2e55641339741"), looks := false }, kinds := [], alts := [], laidByText := true, laidKinds := [.data, .data, .data, .data, .pinned], laidTests := true, laidLooks := .later }
def FnExactGetSubsCardSaid : Prop := Claim7.holds Tryd.pinned (.plain (OpenSpec.ofChange fnExactGetSubsSpec)) fnExactGetSubsCard

/-- THE TIED CARD OF 'laws.FnExactPatternText'. -/
def fnExactPatternTextCard : Claim7 := { stood := { row := fnExactPatternTextRow, standIns := [], harness := (true, "554ddb031af701a769035604ebf9eab8ab898713aaaa240764a2e55641339741"), looks := false }, kinds := [], alts := [], laidByText := true, laidKinds := [.data, .data, .data, .data, .pinned], laidTests := true, laidLooks := .later }
def FnExactPatternTextCardSaid : Prop := Claim7.holds Tryd.pinned (.plain (OpenSpec.ofChange fnExactPatternTextSpec)) fnExactPatternTextCard

/-- THE SECOND FORM's CARD OF 'laws.FnExactLengthOf'. -/
def fnExactLengthOfUptoCard : Claim7 := { stood := { row := fnExactLengthOfUptoRow, standIns := [], harness := (true, "554ddb031af701a769035604ebf9eab8ab898713aaaa240764a2e55641339741"), looks := false }, kinds := [], alts := [], laidByText := true, laidKinds := [.data, .pinned], laidTests := true, laidLooks := .later }
def FnExactLengthOfUptoCardSaid : Prop := Claim7.holds Tryd.pinned (.plain (OpenSpec.upto fnExactLengthOfSpec)) fnExactLengthOfUptoCard

/-- THE SECOND FORM's CARD OF 'laws.FnExactPieceOf'. -/
def fnExactPieceOfUptoCard : Claim7 := { stood := { row := fnExactPieceOfUptoRow, standIns := [], harness := (true, "554ddb031af701a769035604ebf9eab8ab898713aaaa240764a2e55641339741"), looks := false }, kinds := [], alts := [], laidByText := true, laidKinds := [.data, .pinned], laidTests := true, laidLooks := .later }
def FnExactPieceOfUptoCardSaid : Prop := Claim7.holds Tryd.pinned (.plain (OpenSpec.upto fnExactPieceOfSpec)) fnExactPieceOfUptoCard

/-- THE SECOND FORM's CARD OF 'laws.FnExactTokens'. -/
def fnExactTokensUptoCard : Claim7 := { stood := { row := fnExactTokensUptoRow, standIns := [], harness := (true, "554ddb031af701a769035604ebf9eab8ab898713aaaa240764a2e55641339741"), looks := false }, kinds := [], alts := [], laidByText := true, laidKinds := [.data, .pinned], laidTests := true, laidLooks := .later }
def FnExactTokensUptoCardSaid : Prop := Claim7.holds Tryd.pinned (.plain (OpenSpec.upto fnExactTokensSpec)) fnExactTokensUptoCard

/-- THE SECOND FORM's CARD OF 'laws.FnExactSubsBefore'. -/
def fnExactSubsBeforeUptoCard : Claim7 := { stood := { row := fnExactSubsBeforeUptoRow, standIns := [], harness := (true, "554ddb031af701a769035604ebf9eab8ab898713aaaa240764a2e55641339741"), looks := false }, kinds := [], alts := [], laidByText := true, laidKinds := [.data, .data, .data, .data, .pinned], laidTests := true, laidLooks := .later }
def FnExactSubsBeforeUptoCardSaid : Prop := Claim7.holds Tryd.pinned (.plain (OpenSpec.upto fnExactSubsBeforeSpec)) fnExactSubsBeforeUptoCard

/-- THE SECOND FORM's CARD OF 'laws.FnExactPutSubs'. -/
def fnExactPutSubsUptoCard : Claim7 := { stood := { row := fnExactPutSubsUptoRow, standIns := [], harness := (true, "554ddb031af701a769035604ebf9eab8ab898713aaaa240764a2e55641339741"), looks := false }, kinds := [], alts := [], laidByText := true, laidKinds := [.data, .data, .data, .data, .pinned], laidTests := true, laidLooks := .later }
def FnExactPutSubsUptoCardSaid : Prop := Claim7.holds Tryd.pinned (.plain (OpenSpec.upto fnExactPutSubsSpec)) fnExactPutSubsUptoCard

/-- THE SECOND FORM's CARD OF 'laws.FnExactKeyOf'. -/
def fnExactKeyOfUptoCard : Claim7 := { stood := { row := fnExactKeyOfUptoRow, standIns := [], harness := (true, "554ddb031af701a769035604ebf9eab8ab898713aaaa240764a2e55641339741"), looks := false }, kinds := [], alts := [], laidByText := true, laidKinds := [.data, .data, .data, .data, .pinned], laidTests := true, laidLooks := .later }
def FnExactKeyOfUptoCardSaid : Prop := Claim7.holds Tryd.pinned (.plain (OpenSpec.upto fnExactKeyOfSpec)) fnExactKeyOfUptoCard

/-- THE SECOND FORM's CARD OF 'laws.FnExactRefText'. -/
def fnExactRefTextUptoCard : Claim7 := { stood := { row := fnExactRefTextUptoRow, standIns := [], harness := (true, "554ddb031af701a769035604ebf9eab8ab898713aaaa240764a2e55641339741"), looks := false }, kinds := [], alts := [], laidByText := true, laidKinds := [.data, .data, .data, .data, .pinned], laidTests := true, laidLooks := .later }
def FnExactRefTextUptoCardSaid : Prop := Claim7.holds Tryd.pinned (.plain (OpenSpec.upto fnExactRefTextSpec)) fnExactRefTextUptoCard

/-- THE SECOND FORM's CARD OF 'laws.FnExactGetSubs'. -/
def fnExactGetSubsUptoCard : Claim7 := { stood := { row := fnExactGetSubsUptoRow, standIns := [], harness := (true, "554ddb031af701a769035604ebf9eab8ab898713aaaa240764a2e55641339741"), looks := false }, kinds := [], alts := [], laidByText := true, laidKinds := [.data, .data, .data, .data, .pinned], laidTests := true, laidLooks := .later }
def FnExactGetSubsUptoCardSaid : Prop := Claim7.holds Tryd.pinned (.plain (OpenSpec.upto fnExactGetSubsSpec)) fnExactGetSubsUptoCard

/-- THE SECOND FORM's CARD OF 'laws.FnExactPatternText'. -/
def fnExactPatternTextUptoCard : Claim7 := { stood := { row := fnExactPatternTextUptoRow, standIns := [], harness := (true, "554ddb031af701a769035604ebf9eab8ab898713aaaa240764a2e55641339741"), looks := false }, kinds := [], alts := [], laidByText := true, laidKinds := [.data, .data, .data, .data, .pinned], laidTests := true, laidLooks := .later }
def FnExactPatternTextUptoCardSaid : Prop := Claim7.holds Tryd.pinned (.plain (OpenSpec.upto fnExactPatternTextSpec)) fnExactPatternTextUptoCard
end Rows
end Go.Proofs.YtmgailihgeelmaaDoor
