/-
  DERIVED. GIVEN WITH THE SEED: THE CARDS: each row of YtjbbhpfoohpbkaaGreatDoorRows.lean that lists a variable, with what it lists TIED to the program's text (the seventh form; the later family's looks); each row that meets fmt, with fmt's text TOLD by the authors' own Lean function (tested against real Go, not proved from fmt's source: count such statements apart). THE CARD IS WHAT COUNTS. Prove the row's statement (the work); the ties are given (YtjbbhpfoohpbkaaGreatDoorTie.lean); close each card by the builder's one call (the guide's Derived/Test/ToyasCard.lean, 'card_holds'). Laid BY PROGRAM, IN A SANDBOX (cutbox-door.mjs). By AI agents, Wed Nov 11 2026. No macro, syntax, notation, axiom, sorry.
-/
import Derived.Test.YtjbbhpfoohpbkaaGreatDoorRows
import GoSem.ClaimSeven
namespace Go.Proofs.YtjbbhpfoohpbkaaGreatDoor
namespace Rows

/-- THE TIED CARD OF 'tollwaylaw54.CheckTexts'. -/
def checkTextsCard : Claim7 := { stood := { row := checkTextsRow, standIns := [], harness := (true, "1d90d658334e377efc2558e549ce2f2bc233d7284d328e15a58a11ea0a01b8f6"), looks := false }, kinds := [], alts := [], laidByText := true, laidKinds := [.data, .data, .data, .data], laidTests := true, laidLooks := .later }
def CheckTextsCardSaid : Prop := Claim7.holds Tryz.pinned (.plain (OpenSpec.ofChange checkTextsSpec)) checkTextsCard

/-- THE TIED CARD OF 'tollwaylaw54.CheckOnce'. -/
def checkOnceCard : Claim7 := { stood := { row := checkOnceRow, standIns := [], harness := (true, "1d90d658334e377efc2558e549ce2f2bc233d7284d328e15a58a11ea0a01b8f6"), looks := false }, kinds := [], alts := [], laidByText := true, laidKinds := [.data, .data, .data, .data], laidTests := true, laidLooks := .later }
def CheckOnceCardSaid : Prop := Claim7.holds Tryz.pinned (.plain (OpenSpec.ofChange checkOnceSpec)) checkOnceCard

/-- THE SECOND FORM's CARD OF 'tollwaylaw54.CheckTexts'. -/
def checkTextsUptoCard : Claim7 := { stood := { row := checkTextsUptoRow, standIns := [], harness := (true, "1d90d658334e377efc2558e549ce2f2bc233d7284d328e15a58a11ea0a01b8f6"), looks := false }, kinds := [], alts := [], laidByText := true, laidKinds := [.data, .data, .data, .data], laidTests := true, laidLooks := .later }
def CheckTextsUptoCardSaid : Prop := Claim7.holds Tryz.pinned (.plain (OpenSpec.upto checkTextsSpec)) checkTextsUptoCard

/-- THE SECOND FORM's CARD OF 'tollwaylaw54.CheckOnce'. -/
def checkOnceUptoCard : Claim7 := { stood := { row := checkOnceUptoRow, standIns := [], harness := (true, "1d90d658334e377efc2558e549ce2f2bc233d7284d328e15a58a11ea0a01b8f6"), looks := false }, kinds := [], alts := [], laidByText := true, laidKinds := [.data, .data, .data, .data], laidTests := true, laidLooks := .later }
def CheckOnceUptoCardSaid : Prop := Claim7.holds Tryz.pinned (.plain (OpenSpec.upto checkOnceSpec)) checkOnceUptoCard
end Rows
end Go.Proofs.YtjbbhpfoohpbkaaGreatDoor
