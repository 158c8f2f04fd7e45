/-
  DERIVED. GIVEN WITH THE SEED: THE CARDS: each row of YtjfdlbbfodomeaaGreatDoorRows.lean that lists a variable, with what it lists TIED to the program's text (the seventh form; the later family's looks); each row that meets fmt, with fmt's text TOLD by the authors' own Lean function (tested against real Go, not proved from fmt's source: count such statements apart). THE CARD IS WHAT COUNTS. Prove the row's statement (the work); the ties are given (YtjfdlbbfodomeaaGreatDoorTie.lean); close each card by the builder's one call (the guide's Derived/Test/ToyasCard.lean, 'card_holds'). Laid BY PROGRAM, IN A SANDBOX (cutbox-door.mjs). By AI agents, Wed Nov 11 2026. No macro, syntax, notation, axiom, sorry.
-/
import Derived.Test.YtjfdlbbfodomeaaGreatDoorRows
import GoSem.ClaimSeven
namespace Go.Proofs.YtjfdlbbfodomeaaGreatDoor
namespace Rows

/-- THE TIED CARD OF 'laws.FnExactTreeOk'. -/
def fnExactTreeOkCard : Claim7 := { stood := { row := fnExactTreeOkRow, standIns := [], harness := (true, "7b75ea54287d95bc66e2ce18c706345489d6d6d1602823bc94e7bfd7a2fd15ee"), looks := false }, kinds := [], alts := [], laidByText := true, laidKinds := [.data, .data, .data, .data, .pinned], laidTests := true, laidLooks := .later }
def FnExactTreeOkCardSaid : Prop := Claim7.holds Tryz.pinned (.plain (OpenSpec.ofChange fnExactTreeOkSpec)) fnExactTreeOkCard

/-- THE TIED CARD OF 'laws.FnExactDataOf'. -/
def fnExactDataOfCard : Claim7 := { stood := { row := fnExactDataOfRow, standIns := [], harness := (true, "7b75ea54287d95bc66e2ce18c706345489d6d6d1602823bc94e7bfd7a2fd15ee"), looks := false }, kinds := [], alts := [], laidByText := true, laidKinds := [.data, .data, .data, .data, .pinned], laidTests := true, laidLooks := .later }
def FnExactDataOfCardSaid : Prop := Claim7.holds Tryz.pinned (.plain (OpenSpec.ofChange fnExactDataOfSpec)) fnExactDataOfCard

/-- THE TIED CARD OF 'laws.FnExactOrderOf'. -/
def fnExactOrderOfCard : Claim7 := { stood := { row := fnExactOrderOfRow, standIns := [], harness := (true, "7b75ea54287d95bc66e2ce18c706345489d6d6d1602823bc94e7bfd7a2fd15ee"), looks := false }, kinds := [], alts := [], laidByText := true, laidKinds := [.data, .data, .data, .data, .pinned], laidTests := true, laidLooks := .later }
def FnExactOrderOfCardSaid : Prop := Claim7.holds Tryz.pinned (.plain (OpenSpec.ofChange fnExactOrderOfSpec)) fnExactOrderOfCard

/-- THE TIED CARD OF 'laws.FnExactNamesOf'. -/
def fnExactNamesOfCard : Claim7 := { stood := { row := fnExactNamesOfRow, standIns := [], harness := (true, "7b75ea54287d95bc66e2ce18c706345489d6d6d1602823bc94e7bfd7a2fd15ee"), looks := false }, kinds := [], alts := [], laidByText := true, laidKinds := [.data, .data, .data, .data, .pinned], laidTests := true, laidLooks := .later }
def FnExactNamesOfCardSaid : Prop := Claim7.holds Tryz.pinned (.plain (OpenSpec.ofChange fnExactNamesOfSpec)) fnExactNamesOfCard

/-- THE TIED CARD OF 'laws.FnExactQueryOf'. -/
def fnExactQueryOfCard : Claim7 := { stood := { row := fnExactQueryOfRow, standIns := [], harness := (true, "7b75ea54287d95bc66e2ce18c706345489d6d6d1602823bc94e7bfd7a2fd15ee"), looks := false }, kinds := [], alts := [], laidByText := true, laidKinds := [.data, .data, .data, .data, .pinned], laidTests := true, laidLooks := .later }
def FnExactQueryOfCardSaid : Prop := Claim7.holds Tryz.pinned (.plain (OpenSpec.ofChange fnExactQueryOfSpec)) fnExactQueryOfCard

/-- THE TIED CARD OF 'laws.FnExactKillNode'. -/
def fnExactKillNodeCard : Claim7 := { stood := { row := fnExactKillNodeRow, standIns := [], harness := (true, "7b75ea54287d95bc66e2ce18c706345489d6d6d1602823bc94e7bfd7a2fd15ee"), looks := false }, kinds := [], alts := [], laidByText := true, laidKinds := [.data, .data, .data, .data, .pinned], laidTests := true, laidLooks := .later }
def FnExactKillNodeCardSaid : Prop := Claim7.holds Tryz.pinned (.plain (OpenSpec.ofChange fnExactKillNodeSpec)) fnExactKillNodeCard

/-- THE TIED CARD OF 'laws.FnExactKeyPlace'. -/
def fnExactKeyPlaceCard : Claim7 := { stood := { row := fnExactKeyPlaceRow, standIns := [], harness := (true, "7b75ea54287d95bc66e2ce18c706345489d6d6d1602823bc94e7bfd7a2fd15ee"), looks := false }, kinds := [], alts := [], laidByText := true, laidKinds := [.data, .data, .data, .data, .pinned], laidTests := true, laidLooks := .later }
def FnExactKeyPlaceCardSaid : Prop := Claim7.holds Tryz.pinned (.plain (OpenSpec.ofChange fnExactKeyPlaceSpec)) fnExactKeyPlaceCard

/-- THE TIED CARD OF 'laws.FnExactEventOk'. -/
def fnExactEventOkCard : Claim7 := { stood := { row := fnExactEventOkRow, standIns := [], harness := (true, "7b75ea54287d95bc66e2ce18c706345489d6d6d1602823bc94e7bfd7a2fd15ee"), looks := false }, kinds := [], alts := [], laidByText := true, laidKinds := [.data, .data, .data, .data, .pinned], laidTests := true, laidLooks := .later }
def FnExactEventOkCardSaid : Prop := Claim7.holds Tryz.pinned (.plain (OpenSpec.ofChange fnExactEventOkSpec)) fnExactEventOkCard

/-- THE TIED CARD OF 'laws.FnExactPageOk'. -/
def fnExactPageOkCard : Claim7 := { stood := { row := fnExactPageOkRow, standIns := [], harness := (true, "7b75ea54287d95bc66e2ce18c706345489d6d6d1602823bc94e7bfd7a2fd15ee"), looks := false }, kinds := [], alts := [], laidByText := true, laidKinds := [.data, .data, .data, .data, .pinned], laidTests := true, laidLooks := .later }
def FnExactPageOkCardSaid : Prop := Claim7.holds Tryz.pinned (.plain (OpenSpec.ofChange fnExactPageOkSpec)) fnExactPageOkCard

/-- THE TIED CARD OF 'laws.FnExactFindKey'. -/
def fnExactFindKeyCard : Claim7 := { stood := { row := fnExactFindKeyRow, standIns := [], harness := (true, "7b75ea54287d95bc66e2ce18c706345489d6d6d1602823bc94e7bfd7a2fd15ee"), looks := false }, kinds := [], alts := [], laidByText := true, laidKinds := [.data, .data, .data, .data, .pinned], laidTests := true, laidLooks := .later }
def FnExactFindKeyCardSaid : Prop := Claim7.holds Tryz.pinned (.plain (OpenSpec.ofChange fnExactFindKeySpec)) fnExactFindKeyCard

/-- THE TIED CARD OF 'laws.FnExactOutputOf'. -/
def fnExactOutputOfCard : Claim7 := { stood := { row := fnExactOutputOfRow, standIns := [], harness := (true, "7b75ea54287d95bc66e2ce18c706345489d6d6d1602823bc94e7bfd7a2fd15ee"), looks := false }, kinds := [], alts := [], laidByText := true, laidKinds := [.data, .data, .data, .data, .pinned], laidTests := true, laidLooks := .later }
def FnExactOutputOfCardSaid : Prop := Claim7.holds Tryz.pinned (.plain (OpenSpec.ofChange fnExactOutputOfSpec)) fnExactOutputOfCard

/-- THE SECOND FORM's CARD OF 'laws.FnExactTreeOk'. -/
def fnExactTreeOkUptoCard : Claim7 := { stood := { row := fnExactTreeOkUptoRow, standIns := [], harness := (true, "7b75ea54287d95bc66e2ce18c706345489d6d6d1602823bc94e7bfd7a2fd15ee"), looks := false }, kinds := [], alts := [], laidByText := true, laidKinds := [.data, .data, .data, .data, .pinned], laidTests := true, laidLooks := .later }
def FnExactTreeOkUptoCardSaid : Prop := Claim7.holds Tryz.pinned (.plain (OpenSpec.upto fnExactTreeOkSpec)) fnExactTreeOkUptoCard

/-- THE SECOND FORM's CARD OF 'laws.FnExactDataOf'. -/
def fnExactDataOfUptoCard : Claim7 := { stood := { row := fnExactDataOfUptoRow, standIns := [], harness := (true, "7b75ea54287d95bc66e2ce18c706345489d6d6d1602823bc94e7bfd7a2fd15ee"), looks := false }, kinds := [], alts := [], laidByText := true, laidKinds := [.data, .data, .data, .data, .pinned], laidTests := true, laidLooks := .later }
def FnExactDataOfUptoCardSaid : Prop := Claim7.holds Tryz.pinned (.plain (OpenSpec.upto fnExactDataOfSpec)) fnExactDataOfUptoCard

/-- THE SECOND FORM's CARD OF 'laws.FnExactOrderOf'. -/
def fnExactOrderOfUptoCard : Claim7 := { stood := { row := fnExactOrderOfUptoRow, standIns := [], harness := (true, "7b75ea54287d95bc66e2ce18c706345489d6d6d1602823bc94e7bfd7a2fd15ee"), looks := false }, kinds := [], alts := [], laidByText := true, laidKinds := [.data, .data, .data, .data, .pinned], laidTests := true, laidLooks := .later }
def FnExactOrderOfUptoCardSaid : Prop := Claim7.holds Tryz.pinned (.plain (OpenSpec.upto fnExactOrderOfSpec)) fnExactOrderOfUptoCard

/-- THE SECOND FORM's CARD OF 'laws.FnExactNamesOf'. -/
def fnExactNamesOfUptoCard : Claim7 := { stood := { row := fnExactNamesOfUptoRow, standIns := [], harness := (true, "7b75ea54287d95bc66e2ce18c706345489d6d6d1602823bc94e7bfd7a2fd15ee"), looks := false }, kinds := [], alts := [], laidByText := true, laidKinds := [.data, .data, .data, .data, .pinned], laidTests := true, laidLooks := .later }
def FnExactNamesOfUptoCardSaid : Prop := Claim7.holds Tryz.pinned (.plain (OpenSpec.upto fnExactNamesOfSpec)) fnExactNamesOfUptoCard

/-- THE SECOND FORM's CARD OF 'laws.FnExactQueryOf'. -/
def fnExactQueryOfUptoCard : Claim7 := { stood := { row := fnExactQueryOfUptoRow, standIns := [], harness := (true, "7b75ea54287d95bc66e2ce18c706345489d6d6d1602823bc94e7bfd7a2fd15ee"), looks := false }, kinds := [], alts := [], laidByText := true, laidKinds := [.data, .data, .data, .data, .pinned], laidTests := true, laidLooks := .later }
def FnExactQueryOfUptoCardSaid : Prop := Claim7.holds Tryz.pinned (.plain (OpenSpec.upto fnExactQueryOfSpec)) fnExactQueryOfUptoCard

/-- THE SECOND FORM's CARD OF 'laws.FnExactKillNode'. -/
def fnExactKillNodeUptoCard : Claim7 := { stood := { row := fnExactKillNodeUptoRow, standIns := [], harness := (true, "7b75ea54287d95bc66e2ce18c706345489d6d6d1602823bc94e7bfd7a2fd15ee"), looks := false }, kinds := [], alts := [], laidByText := true, laidKinds := [.data, .data, .data, .data, .pinned], laidTests := true, laidLooks := .later }
def FnExactKillNodeUptoCardSaid : Prop := Claim7.holds Tryz.pinned (.plain (OpenSpec.upto fnExactKillNodeSpec)) fnExactKillNodeUptoCard

/-- THE SECOND FORM's CARD OF 'laws.FnExactKeyPlace'. -/
def fnExactKeyPlaceUptoCard : Claim7 := { stood := { row := fnExactKeyPlaceUptoRow, standIns := [], harness := (true, "7b75ea54287d95bc66e2ce18c706345489d6d6d1602823bc94e7bfd7a2fd15ee"), looks := false }, kinds := [], alts := [], laidByText := true, laidKinds := [.data, .data, .data, .data, .pinned], laidTests := true, laidLooks := .later }
def FnExactKeyPlaceUptoCardSaid : Prop := Claim7.holds Tryz.pinned (.plain (OpenSpec.upto fnExactKeyPlaceSpec)) fnExactKeyPlaceUptoCard

/-- THE SECOND FORM's CARD OF 'laws.FnExactEventOk'. -/
def fnExactEventOkUptoCard : Claim7 := { stood := { row := fnExactEventOkUptoRow, standIns := [], harness := (true, "7b75ea54287d95bc66e2ce18c706345489d6d6d1602823bc94e7bfd7a2fd15ee"), looks := false }, kinds := [], alts := [], laidByText := true, laidKinds := [.data, .data, .data, .data, .pinned], laidTests := true, laidLooks := .later }
def FnExactEventOkUptoCardSaid : Prop := Claim7.holds Tryz.pinned (.plain (OpenSpec.upto fnExactEventOkSpec)) fnExactEventOkUptoCard

/-- THE SECOND FORM's CARD OF 'laws.FnExactPageOk'. -/
def fnExactPageOkUptoCard : Claim7 := { stood := { row := fnExactPageOkUptoRow, standIns := [], harness := (true, "7b75ea54287d95bc66e2ce18c706345489d6d6d1602823bc94e7bfd7a2fd15ee"), looks := false }, kinds := [], alts := [], laidByText := true, laidKinds := [.data, .data, .data, .data, .pinned], laidTests := true, laidLooks := .later }
def FnExactPageOkUptoCardSaid : Prop := Claim7.holds Tryz.pinned (.plain (OpenSpec.upto fnExactPageOkSpec)) fnExactPageOkUptoCard

/-- THE SECOND FORM's CARD OF 'laws.FnExactFindKey'. -/
def fnExactFindKeyUptoCard : Claim7 := { stood := { row := fnExactFindKeyUptoRow, standIns := [], harness := (true, "7b75ea54287d95bc66e2ce18c706345489d6d6d1602823bc94e7bfd7a2fd15ee"), looks := false }, kinds := [], alts := [], laidByText := true, laidKinds := [.data, .data, .data, .data, .pinned], laidTests := true, laidLooks := .later }
def FnExactFindKeyUptoCardSaid : Prop := Claim7.holds Tryz.pinned (.plain (OpenSpec.upto fnExactFindKeySpec)) fnExactFindKeyUptoCard

/-- THE SECOND FORM's CARD OF 'laws.FnExactOutputOf'. -/
def fnExactOutputOfUptoCard : Claim7 := { stood := { row := fnExactOutputOfUptoRow, standIns := [], harness := (true, "7b75ea54287d95bc66e2ce18c706345489d6d6d1602823bc94e7bfd7a2fd15ee"), looks := false }, kinds := [], alts := [], laidByText := true, laidKinds := [.data, .data, .data, .data, .pinned], laidTests := true, laidLooks := .later }
def FnExactOutputOfUptoCardSaid : Prop := Claim7.holds Tryz.pinned (.plain (OpenSpec.upto fnExactOutputOfSpec)) fnExactOutputOfUptoCard
end Rows
end Go.Proofs.YtjfdlbbfodomeaaGreatDoor
