/-
  DERIVED. GIVEN WITH THE SEED: THE CARDS: each row of YtjedmpkjopgklaaGreatDoorRows.lean that lists a variable, with what it lists TIED to the program's text (the seventh form; the later family's looks); each row that meets fmt, with fmt's text TOLD by the authors' own Lean function (tested against real Go, not proved from fmt's source: count such statements apart). THE CARD IS WHAT COUNTS. Prove the row's statement (the work); the ties are given (YtjedmpkjopgklaaGreatDoorTie.lean); close each card by the builder's one call (the guide's Derived/Test/ToyasCard.lean, 'card_holds'). Laid BY PROGRAM, IN A SANDBOX (cutbox-door.mjs). By AI agents, Wed Nov 11 2026. No macro, syntax, notation, axiom, sorry.
-/
import Derived.Test.YtjedmpkjopgklaaGreatDoorRows
import GoSem.ClaimSeven
namespace Go.Proofs.YtjedmpkjopgklaaGreatDoor
namespace Rows

/-- THE TIED CARD OF 'laws.FnExactFindKey'. -/
def fnExactFindKeyCard : Claim7 := { stood := { row := fnExactFindKeyRow, standIns := [], harness := (true, "a71045a7e53b00264114f0e2e574784a74aceea43c683dedbac636bda723b305"), looks := false }, kinds := [], alts := [], laidByText := true, laidKinds := [.data, .data, .data, .data, .pinned], laidTests := true, laidLooks := .later }
def FnExactFindKeyCardSaid : Prop := Claim7.holds Tryz.pinned (.plain (OpenSpec.ofChange fnExactFindKeySpec)) fnExactFindKeyCard

/-- THE TIED CARD OF 'laws.FnExactQueryOf'. -/
def fnExactQueryOfCard : Claim7 := { stood := { row := fnExactQueryOfRow, standIns := [], harness := (true, "a71045a7e53b00264114f0e2e574784a74aceea43c683dedbac636bda723b305"), looks := false }, kinds := [], alts := [], laidByText := true, laidKinds := [.data, .data, .data, .data, .pinned], laidTests := true, laidLooks := .later }
def FnExactQueryOfCardSaid : Prop := Claim7.holds Tryz.pinned (.plain (OpenSpec.ofChange fnExactQueryOfSpec)) fnExactQueryOfCard

/-- THE TIED CARD OF 'laws.FnExactNamesOf'. -/
def fnExactNamesOfCard : Claim7 := { stood := { row := fnExactNamesOfRow, standIns := [], harness := (true, "a71045a7e53b00264114f0e2e574784a74aceea43c683dedbac636bda723b305"), looks := false }, kinds := [], alts := [], laidByText := true, laidKinds := [.data, .data, .data, .data, .pinned], laidTests := true, laidLooks := .later }
def FnExactNamesOfCardSaid : Prop := Claim7.holds Tryz.pinned (.plain (OpenSpec.ofChange fnExactNamesOfSpec)) fnExactNamesOfCard

/-- THE TIED CARD OF 'laws.FnExactKillNode'. -/
def fnExactKillNodeCard : Claim7 := { stood := { row := fnExactKillNodeRow, standIns := [], harness := (true, "a71045a7e53b00264114f0e2e574784a74aceea43c683dedbac636bda723b305"), looks := false }, kinds := [], alts := [], laidByText := true, laidKinds := [.data, .data, .data, .data, .pinned], laidTests := true, laidLooks := .later }
def FnExactKillNodeCardSaid : Prop := Claim7.holds Tryz.pinned (.plain (OpenSpec.ofChange fnExactKillNodeSpec)) fnExactKillNodeCard

/-- THE TIED CARD OF 'laws.FnExactBinOp'. -/
def fnExactBinOpCard : Claim7 := { stood := { row := fnExactBinOpRow, standIns := [], harness := (true, "a71045a7e53b00264114f0e2e574784a74aceea43c683dedbac636bda723b305"), looks := false }, kinds := [], alts := [], laidByText := true, laidKinds := [.data, .data, .data, .data, .pinned], laidTests := true, laidLooks := .later }
def FnExactBinOpCardSaid : Prop := Claim7.holds Tryz.pinned (.plain (OpenSpec.ofChange fnExactBinOpSpec)) fnExactBinOpCard

/-- THE TIED CARD OF 'laws.FnExactPageOk'. -/
def fnExactPageOkCard : Claim7 := { stood := { row := fnExactPageOkRow, standIns := [], harness := (true, "a71045a7e53b00264114f0e2e574784a74aceea43c683dedbac636bda723b305"), looks := false }, kinds := [], alts := [], laidByText := true, laidKinds := [.data, .data, .data, .data, .pinned], laidTests := true, laidLooks := .later }
def FnExactPageOkCardSaid : Prop := Claim7.holds Tryz.pinned (.plain (OpenSpec.ofChange fnExactPageOkSpec)) fnExactPageOkCard

/-- THE SECOND FORM's CARD OF 'laws.FnExactFindKey'. -/
def fnExactFindKeyUptoCard : Claim7 := { stood := { row := fnExactFindKeyUptoRow, standIns := [], harness := (true, "a71045a7e53b00264114f0e2e574784a74aceea43c683dedbac636bda723b305"), looks := false }, kinds := [], alts := [], laidByText := true, laidKinds := [.data, .data, .data, .data, .pinned], laidTests := true, laidLooks := .later }
def FnExactFindKeyUptoCardSaid : Prop := Claim7.holds Tryz.pinned (.plain (OpenSpec.upto fnExactFindKeySpec)) fnExactFindKeyUptoCard

/-- THE SECOND FORM's CARD OF 'laws.FnExactQueryOf'. -/
def fnExactQueryOfUptoCard : Claim7 := { stood := { row := fnExactQueryOfUptoRow, standIns := [], harness := (true, "a71045a7e53b00264114f0e2e574784a74aceea43c683dedbac636bda723b305"), looks := false }, kinds := [], alts := [], laidByText := true, laidKinds := [.data, .data, .data, .data, .pinned], laidTests := true, laidLooks := .later }
def FnExactQueryOfUptoCardSaid : Prop := Claim7.holds Tryz.pinned (.plain (OpenSpec.upto fnExactQueryOfSpec)) fnExactQueryOfUptoCard

/-- THE SECOND FORM's CARD OF 'laws.FnExactNamesOf'. -/
def fnExactNamesOfUptoCard : Claim7 := { stood := { row := fnExactNamesOfUptoRow, standIns := [], harness := (true, "a71045a7e53b00264114f0e2e574784a74aceea43c683dedbac636bda723b305"), looks := false }, kinds := [], alts := [], laidByText := true, laidKinds := [.data, .data, .data, .data, .pinned], laidTests := true, laidLooks := .later }
def FnExactNamesOfUptoCardSaid : Prop := Claim7.holds Tryz.pinned (.plain (OpenSpec.upto fnExactNamesOfSpec)) fnExactNamesOfUptoCard

/-- THE SECOND FORM's CARD OF 'laws.FnExactKillNode'. -/
def fnExactKillNodeUptoCard : Claim7 := { stood := { row := fnExactKillNodeUptoRow, standIns := [], harness := (true, "a71045a7e53b00264114f0e2e574784a74aceea43c683dedbac636bda723b305"), looks := false }, kinds := [], alts := [], laidByText := true, laidKinds := [.data, .data, .data, .data, .pinned], laidTests := true, laidLooks := .later }
def FnExactKillNodeUptoCardSaid : Prop := Claim7.holds Tryz.pinned (.plain (OpenSpec.upto fnExactKillNodeSpec)) fnExactKillNodeUptoCard

/-- THE SECOND FORM's CARD OF 'laws.FnExactBinOp'. -/
def fnExactBinOpUptoCard : Claim7 := { stood := { row := fnExactBinOpUptoRow, standIns := [], harness := (true, "a71045a7e53b00264114f0e2e574784a74aceea43c683dedbac636bda723b305"), looks := false }, kinds := [], alts := [], laidByText := true, laidKinds := [.data, .data, .data, .data, .pinned], laidTests := true, laidLooks := .later }
def FnExactBinOpUptoCardSaid : Prop := Claim7.holds Tryz.pinned (.plain (OpenSpec.upto fnExactBinOpSpec)) fnExactBinOpUptoCard

/-- THE SECOND FORM's CARD OF 'laws.FnExactPageOk'. -/
def fnExactPageOkUptoCard : Claim7 := { stood := { row := fnExactPageOkUptoRow, standIns := [], harness := (true, "a71045a7e53b00264114f0e2e574784a74aceea43c683dedbac636bda723b305"), looks := false }, kinds := [], alts := [], laidByText := true, laidKinds := [.data, .data, .data, .data, .pinned], laidTests := true, laidLooks := .later }
def FnExactPageOkUptoCardSaid : Prop := Claim7.holds Tryz.pinned (.plain (OpenSpec.upto fnExactPageOkSpec)) fnExactPageOkUptoCard
end Rows
end Go.Proofs.YtjedmpkjopgklaaGreatDoor
