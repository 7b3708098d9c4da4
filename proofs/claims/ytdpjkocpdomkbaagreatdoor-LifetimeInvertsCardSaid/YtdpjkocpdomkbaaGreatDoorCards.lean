/-
  DERIVED. GIVEN WITH THE SEED: THE CARDS: each row of YtdpjkocpdomkbaaGreatDoorRows.lean that lists a variable, with what it lists TIED to the program's text (the seventh form; the later family's looks); each row that meets fmt, with fmt's text TOLD by the authors' own Lean function (tested against real Go, not proved from fmt's source: count such statements apart). THE CARD IS WHAT COUNTS. Prove the row's statement (the work); the ties are given (YtdpjkocpdomkbaaGreatDoorTie.lean); close each card by the builder's one call (the guide's Derived/Test/ToyasCard.lean, 'card_holds'). Laid BY PROGRAM, IN A SANDBOX (cutbox-door.mjs). By AI agents, Wed Nov 11 2026. No macro, syntax, notation, axiom, sorry.
-/
import Derived.Test.YtdpjkocpdomkbaaGreatDoorRows
import GoSem.ClaimSeven
namespace Go.Proofs.YtdpjkocpdomkbaaGreatDoor
namespace Rows

/-- THE TIED CARD OF 'watchwordlaw13.LifetimeTexts'. -/
def lifetimeTextsCard : Claim7 := { stood := { row := lifetimeTextsRow, standIns := [], harness := (true, "0411475515d8c0c081c8c8632a3a647dc102f0975199b5635a354ccb4b5eae65"), looks := true }, kinds := [], alts := [], laidByText := true, laidKinds := [.data, .data, .data, .data, .sentinel, .sentinel, .pinned], laidTests := true, laidLooks := .later }
def LifetimeTextsCardSaid : Prop := Claim7.holds Tryz.pinned (.plain (OpenSpec.ofChange lifetimeTextsSpec)) lifetimeTextsCard

/-- THE TIED CARD OF 'watchwordlaw13.LifetimeInverts'. -/
def lifetimeInvertsCard : Claim7 := { stood := { row := lifetimeInvertsRow, standIns := [], harness := (true, "0411475515d8c0c081c8c8632a3a647dc102f0975199b5635a354ccb4b5eae65"), looks := true }, kinds := [], alts := [], laidByText := true, laidKinds := [.data, .data, .data, .data, .sentinel, .sentinel, .pinned], laidTests := true, laidLooks := .later }
def LifetimeInvertsCardSaid : Prop := Claim7.holds Tryz.pinned (.plain (OpenSpec.ofChange lifetimeInvertsSpec)) lifetimeInvertsCard

/-- THE SECOND FORM's CARD OF 'watchwordlaw13.LifetimeTexts'. -/
def lifetimeTextsUptoCard : Claim7 := { stood := { row := lifetimeTextsUptoRow, standIns := [], harness := (true, "0411475515d8c0c081c8c8632a3a647dc102f0975199b5635a354ccb4b5eae65"), looks := true }, kinds := [], alts := [], laidByText := true, laidKinds := [.data, .data, .data, .data, .sentinel, .sentinel, .pinned], laidTests := true, laidLooks := .later }
def LifetimeTextsUptoCardSaid : Prop := Claim7.holds Tryz.pinned (.plain (OpenSpec.upto lifetimeTextsSpec)) lifetimeTextsUptoCard

/-- THE SECOND FORM's CARD OF 'watchwordlaw13.LifetimeInverts'. -/
def lifetimeInvertsUptoCard : Claim7 := { stood := { row := lifetimeInvertsUptoRow, standIns := [], harness := (true, "0411475515d8c0c081c8c8632a3a647dc102f0975199b5635a354ccb4b5eae65"), looks := true }, kinds := [], alts := [], laidByText := true, laidKinds := [.data, .data, .data, .data, .sentinel, .sentinel, .pinned], laidTests := true, laidLooks := .later }
def LifetimeInvertsUptoCardSaid : Prop := Claim7.holds Tryz.pinned (.plain (OpenSpec.upto lifetimeInvertsSpec)) lifetimeInvertsUptoCard
end Rows
end Go.Proofs.YtdpjkocpdomkbaaGreatDoor
