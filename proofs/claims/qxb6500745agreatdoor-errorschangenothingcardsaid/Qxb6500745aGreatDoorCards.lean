/-
  DERIVED. GIVEN WITH THE SEED: THE CARDS: each row of Qxb6500745aGreatDoorRows.lean that lists a variable, with what it lists TIED to the program's text (the seventh form; the later family's looks); each row that meets fmt, with fmt's text TOLD by the authors' own Lean function (tested against real Go, not proved from fmt's source: count such statements apart). THE CARD IS WHAT COUNTS. Prove the row's statement (the work); the ties are given (Qxb6500745aGreatDoorTie.lean); close each card by the builder's one call (the guide's Derived/Test/ToyasCard.lean, 'card_holds'). Laid BY PROGRAM, IN A SANDBOX (cutbox-door.mjs). By AI agents, Wed Nov 11 2026. No macro, syntax, notation, axiom, sorry.
-/
import Derived.Test.Qxb6500745aGreatDoorRows
import GoSem.ClaimSeven
namespace Go.Proofs.Qxb6500745aGreatDoor
namespace Rows

/-- THE TIED CARD OF 'bitdomlaw.ErrorsChangeNothing'. -/
def errorsChangeNothingCard : Claim7 := { stood := { row := errorsChangeNothingRow, standIns := [], harness := (true, "d14c8b6be38ec1f4cee0713d74f9e54f1b261b27748949e2c798f96fb3f36557"), looks := true }, kinds := [], alts := [], laidByText := true, laidKinds := [.data, .data, .data, .called, .called, .called, .called, .called], laidTests := true, laidLooks := .later }
def ErrorsChangeNothingCardSaid : Prop := Claim7.holds Tryz.pinned (.plain (OpenSpec.ofChange errorsChangeNothingSpec)) errorsChangeNothingCard

/-- THE TIED CARD OF 'bitdomlaw.IDSetsStaySorted'. -/
def iDSetsStaySortedCard : Claim7 := { stood := { row := iDSetsStaySortedRow, standIns := [], harness := (true, "d14c8b6be38ec1f4cee0713d74f9e54f1b261b27748949e2c798f96fb3f36557"), looks := true }, kinds := [], alts := [], laidByText := true, laidKinds := [.data, .data, .data, .called, .called, .called, .called, .called], laidTests := true, laidLooks := .later }
def IDSetsStaySortedCardSaid : Prop := Claim7.holds Tryz.pinned (.plain (OpenSpec.ofChange iDSetsStaySortedSpec)) iDSetsStaySortedCard

/-- THE TIED CARD OF 'bitdomlaw.IDSetAlgebraIsSetTheory'. -/
def iDSetAlgebraIsSetTheoryCard : Claim7 := { stood := { row := iDSetAlgebraIsSetTheoryRow, standIns := [], harness := (true, "d14c8b6be38ec1f4cee0713d74f9e54f1b261b27748949e2c798f96fb3f36557"), looks := true }, kinds := [], alts := [], laidByText := true, laidKinds := [.data, .data, .data, .called, .called, .called, .called, .called], laidTests := true, laidLooks := .later }
def IDSetAlgebraIsSetTheoryCardSaid : Prop := Claim7.holds Tryz.pinned (.plain (OpenSpec.ofChange iDSetAlgebraIsSetTheorySpec)) iDSetAlgebraIsSetTheoryCard
end Rows
end Go.Proofs.Qxb6500745aGreatDoor
