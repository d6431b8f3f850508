/-
  DERIVED. GIVEN WITH THE SEED: THE CARDS: each row of YtgebfcdpbeaknaaGreatDoorRows.lean that lists a variable, with what it lists TIED to the program's text (the seventh form; the later family's looks); each row that meets fmt, with fmt's text TOLD by the authors' own Lean function (tested against real Go, not proved from fmt's source: count such statements apart). THE CARD IS WHAT COUNTS. Prove the row's statement (the work); the ties are given (YtgebfcdpbeaknaaGreatDoorTie.lean); close each card by the builder's one call (the guide's Derived/Test/ToyasCard.lean, 'card_holds'). Laid BY PROGRAM, IN A SANDBOX (cutbox-door.mjs). By AI agents, Wed Nov 11 2026. No macro, syntax, notation, axiom, sorry.
-/
import Derived.Test.YtgebfcdpbeaknaaGreatDoorRows
import GoSem.ClaimSeven
namespace Go.Proofs.YtgebfcdpbeaknaaGreatDoor
namespace Rows

/-- THE TIED CARD OF 'assayerlaw06.TokensReads'. -/
def tokensReadsCard : Claim7 := { stood := { row := tokensReadsRow, standIns := [], harness := (true, "0cf7c9e17db3dabd2cc305b6569c56d82709ae8ece20e218c7f1614b227f16fa"), looks := false }, kinds := [], alts := [], laidByText := true, laidKinds := [.data, .data, .data], laidTests := true, laidLooks := .later }
def TokensReadsCardSaid : Prop := Claim7.holds Tryz.pinned (.plain (OpenSpec.ofChange tokensReadsSpec)) tokensReadsCard

/-- THE SECOND FORM's CARD OF 'assayerlaw06.TokensReads'. -/
def tokensReadsUptoCard : Claim7 := { stood := { row := tokensReadsUptoRow, standIns := [], harness := (true, "0cf7c9e17db3dabd2cc305b6569c56d82709ae8ece20e218c7f1614b227f16fa"), looks := false }, kinds := [], alts := [], laidByText := true, laidKinds := [.data, .data, .data], laidTests := true, laidLooks := .later }
def TokensReadsUptoCardSaid : Prop := Claim7.holds Tryz.pinned (.plain (OpenSpec.upto tokensReadsSpec)) tokensReadsUptoCard
end Rows
end Go.Proofs.YtgebfcdpbeaknaaGreatDoor
