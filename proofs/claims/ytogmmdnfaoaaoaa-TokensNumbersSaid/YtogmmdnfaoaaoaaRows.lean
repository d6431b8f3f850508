/-
  No cell of these rows narrows 'for every input' (looked for: loops, veiled, ifaces, maps, wideKeys, modest, calm, conditions, laid).
  DERIVED. THE GIVEN ROWS OF THIS SEAT. 8 by the template 'for every input the law returns true; each argument reads behind the call as it read before'; 0 by the template 'total and deterministic' (their statements: YtogmmdnfaoaaoaaTotals.lean).
  GIVEN WITH THE SEED: the statements are not yours to turn. If you find one false, say at which input.
  Laid BY PROGRAM, IN A SANDBOX (cutbox-rows.mjs): the forced cells as the released guide's own fill.sh prints them over the translation 32b7c5ea36ba8dca… (all of the seat's roots in one cut). By AI agents, Wed Nov 11 2026. No macro, syntax, notation, axiom, sorry.
-/
import Derived.Test.YtogmmdnfaoaaoaaChecked
import GoSem.Claim
import GoSem.ClaimJoined
import GoSem.ClaimMapViews
import Derived.JoinedTies
import Derived.KernelRfl
namespace Go.Proofs.Ytogmmdnfaoaaoaa
/- THE CELL 'sum', in the pinned program and in every row, IS THE sha256 OF THE DUMP (.gsa) THAT YtogmmdnfaoaaoaaProg.lean LOADS. Nothing in Lean hashes anything: it is a label: what it is worth is what the hold of that sum in a sandbox is worth. -/
noncomputable def Try.pinned : Pinned := { name := "ytogmmdnfaoaaoaa", sum := "32b7c5ea36ba8dca83ded6da3aa95fefad23ef4552b5250346a913f6a7dc8559", checked := Try.checked }
namespace Rows
def none {H : Type} : Left H := { results := [], args := [] }

/-- 'assayerlaw06.TokensNames': WHATEVER THE INPUT: true; the input reads as it did. -/
def tokensNamesSpec : ChangeSpec := { name := "tokensNames", fn := fun _ => fun
  | [d] => { results := [.lit (.bool true)], args := [d] }
  | _ => none }
def tokensNamesRow : OpenClaim := { program := "ytogmmdnfaoaaoaa", sum := "32b7c5ea36ba8dca83ded6da3aa95fefad23ef4552b5250346a913f6a7dc8559", func := "assayer/assayerlaw06.TokensNames", spec := "tokensNames", apart := false }
def TokensNamesSaid : Prop := tokensNamesRow.holds Try.pinned (OpenSpec.ofChange tokensNamesSpec)

/-- ITS FALSE NEIGHBOUR: 'it returns false'. Refute it at one input. -/
def tokensNamesWrong : ChangeSpec := { name := "tokensNames", fn := fun _ => fun
  | [d] => { results := [.lit (.bool false)], args := [d] }
  | _ => none }
def TokensNamesWrongFalsely : Prop := tokensNamesRow.holds Try.pinned (OpenSpec.ofChange tokensNamesWrong)

/-- 'assayerlaw13.LedgersMay': WHATEVER THE INPUT: true; the input reads as it did. -/
def ledgersMaySpec : ChangeSpec := { name := "ledgersMay", fn := fun _ => fun
  | [d] => { results := [.lit (.bool true)], args := [d] }
  | _ => none }
def ledgersMayRow : OpenClaim := { program := "ytogmmdnfaoaaoaa", sum := "32b7c5ea36ba8dca83ded6da3aa95fefad23ef4552b5250346a913f6a7dc8559", func := "assayer/assayerlaw13.LedgersMay", spec := "ledgersMay", apart := false }
def LedgersMaySaid : Prop := ledgersMayRow.holds Try.pinned (OpenSpec.ofChange ledgersMaySpec)

/-- ITS FALSE NEIGHBOUR: 'it returns false'. Refute it at one input. -/
def ledgersMayWrong : ChangeSpec := { name := "ledgersMay", fn := fun _ => fun
  | [d] => { results := [.lit (.bool false)], args := [d] }
  | _ => none }
def LedgersMayWrongFalsely : Prop := ledgersMayRow.holds Try.pinned (OpenSpec.ofChange ledgersMayWrong)

/-- 'assayerlaw06.TokensPlaces': WHATEVER THE INPUT: true; the input reads as it did. -/
def tokensPlacesSpec : ChangeSpec := { name := "tokensPlaces", fn := fun _ => fun
  | [d] => { results := [.lit (.bool true)], args := [d] }
  | _ => none }
def tokensPlacesRow : OpenClaim := { program := "ytogmmdnfaoaaoaa", sum := "32b7c5ea36ba8dca83ded6da3aa95fefad23ef4552b5250346a913f6a7dc8559", func := "assayer/assayerlaw06.TokensPlaces", spec := "tokensPlaces", inPlace := ["internal/bytealg.IndexByteString", "internal/bytealg.IndexString"], unfollowed := true, recurses := true, named := ["internal/bytealg.MaxLen"], apart := false }
def TokensPlacesSaid : Prop := tokensPlacesRow.holds Try.pinned (OpenSpec.ofChange tokensPlacesSpec)

/-- ITS FALSE NEIGHBOUR: 'it returns false'. Refute it at one input. -/
def tokensPlacesWrong : ChangeSpec := { name := "tokensPlaces", fn := fun _ => fun
  | [d] => { results := [.lit (.bool false)], args := [d] }
  | _ => none }
def TokensPlacesWrongFalsely : Prop := tokensPlacesRow.holds Try.pinned (OpenSpec.ofChange tokensPlacesWrong)

/-- 'assayerlaw06.TokensAgain': WHATEVER THE INPUT: true; the input reads as it did. -/
def tokensAgainSpec : ChangeSpec := { name := "tokensAgain", fn := fun _ => fun
  | [d1, d2] => { results := [.lit (.bool true)], args := [d1, d2] }
  | _ => none }
def tokensAgainRow : OpenClaim := { program := "ytogmmdnfaoaaoaa", sum := "32b7c5ea36ba8dca83ded6da3aa95fefad23ef4552b5250346a913f6a7dc8559", func := "assayer/assayerlaw06.TokensAgain", spec := "tokensAgain", inPlace := ["internal/bytealg.IndexByteString", "internal/bytealg.IndexString"], unfollowed := true, recurses := true, named := ["internal/bytealg.MaxLen"], apart := false }
def TokensAgainSaid : Prop := tokensAgainRow.holds Try.pinned (OpenSpec.ofChange tokensAgainSpec)

/-- ITS FALSE NEIGHBOUR: 'it returns false'. Refute it at one input. -/
def tokensAgainWrong : ChangeSpec := { name := "tokensAgain", fn := fun _ => fun
  | [d1, d2] => { results := [.lit (.bool false)], args := [d1, d2] }
  | _ => none }
def TokensAgainWrongFalsely : Prop := tokensAgainRow.holds Try.pinned (OpenSpec.ofChange tokensAgainWrong)

/-- 'assayerlaw06.TokensJoins': WHATEVER THE INPUT: true; the input reads as it did. -/
def tokensJoinsSpec : ChangeSpec := { name := "tokensJoins", fn := fun _ => fun
  | [d1, d2] => { results := [.lit (.bool true)], args := [d1, d2] }
  | _ => none }
def tokensJoinsRow : OpenClaim := { program := "ytogmmdnfaoaaoaa", sum := "32b7c5ea36ba8dca83ded6da3aa95fefad23ef4552b5250346a913f6a7dc8559", func := "assayer/assayerlaw06.TokensJoins", spec := "tokensJoins", inPlace := ["internal/bytealg.IndexByteString", "internal/bytealg.IndexString"], unfollowed := true, recurses := true, named := ["internal/bytealg.MaxLen"], apart := false }
def TokensJoinsSaid : Prop := tokensJoinsRow.holds Try.pinned (OpenSpec.ofChange tokensJoinsSpec)

/-- ITS FALSE NEIGHBOUR: 'it returns false'. Refute it at one input. -/
def tokensJoinsWrong : ChangeSpec := { name := "tokensJoins", fn := fun _ => fun
  | [d1, d2] => { results := [.lit (.bool false)], args := [d1, d2] }
  | _ => none }
def TokensJoinsWrongFalsely : Prop := tokensJoinsRow.holds Try.pinned (OpenSpec.ofChange tokensJoinsWrong)

/-- 'assayerlaw06.TokensAhead': WHATEVER THE INPUT: true; the input reads as it did. -/
def tokensAheadSpec : ChangeSpec := { name := "tokensAhead", fn := fun _ => fun
  | [d1, d2] => { results := [.lit (.bool true)], args := [d1, d2] }
  | _ => none }
def tokensAheadRow : OpenClaim := { program := "ytogmmdnfaoaaoaa", sum := "32b7c5ea36ba8dca83ded6da3aa95fefad23ef4552b5250346a913f6a7dc8559", func := "assayer/assayerlaw06.TokensAhead", spec := "tokensAhead", inPlace := ["internal/bytealg.IndexByteString", "internal/bytealg.IndexString"], unfollowed := true, recurses := true, named := ["internal/bytealg.MaxLen"], apart := false }
def TokensAheadSaid : Prop := tokensAheadRow.holds Try.pinned (OpenSpec.ofChange tokensAheadSpec)

/-- ITS FALSE NEIGHBOUR: 'it returns false'. Refute it at one input. -/
def tokensAheadWrong : ChangeSpec := { name := "tokensAhead", fn := fun _ => fun
  | [d1, d2] => { results := [.lit (.bool false)], args := [d1, d2] }
  | _ => none }
def TokensAheadWrongFalsely : Prop := tokensAheadRow.holds Try.pinned (OpenSpec.ofChange tokensAheadWrong)

/-- 'assayerlaw06.TokensWords': WHATEVER THE INPUT: true; the input reads as it did. -/
def tokensWordsSpec : ChangeSpec := { name := "tokensWords", fn := fun _ => fun
  | [d1, d2] => { results := [.lit (.bool true)], args := [d1, d2] }
  | _ => none }
def tokensWordsRow : OpenClaim := { program := "ytogmmdnfaoaaoaa", sum := "32b7c5ea36ba8dca83ded6da3aa95fefad23ef4552b5250346a913f6a7dc8559", func := "assayer/assayerlaw06.TokensWords", spec := "tokensWords", inPlace := ["internal/bytealg.IndexByteString", "internal/bytealg.IndexString"], unfollowed := true, recurses := true, named := ["internal/bytealg.MaxLen"], apart := false }
def TokensWordsSaid : Prop := tokensWordsRow.holds Try.pinned (OpenSpec.ofChange tokensWordsSpec)

/-- ITS FALSE NEIGHBOUR: 'it returns false'. Refute it at one input. -/
def tokensWordsWrong : ChangeSpec := { name := "tokensWords", fn := fun _ => fun
  | [d1, d2] => { results := [.lit (.bool false)], args := [d1, d2] }
  | _ => none }
def TokensWordsWrongFalsely : Prop := tokensWordsRow.holds Try.pinned (OpenSpec.ofChange tokensWordsWrong)

/-- 'assayerlaw06.TokensNumbers': WHATEVER THE INPUT: true; the input reads as it did. -/
def tokensNumbersSpec : ChangeSpec := { name := "tokensNumbers", fn := fun _ => fun
  | [d1, d2, d3] => { results := [.lit (.bool true)], args := [d1, d2, d3] }
  | _ => none }
def tokensNumbersRow : OpenClaim := { program := "ytogmmdnfaoaaoaa", sum := "32b7c5ea36ba8dca83ded6da3aa95fefad23ef4552b5250346a913f6a7dc8559", func := "assayer/assayerlaw06.TokensNumbers", spec := "tokensNumbers", inPlace := ["internal/bytealg.IndexByteString", "internal/bytealg.IndexString"], unfollowed := true, recurses := true, named := ["internal/bytealg.MaxLen"], apart := false }
def TokensNumbersSaid : Prop := tokensNumbersRow.holds Try.pinned (OpenSpec.ofChange tokensNumbersSpec)

/-- ITS FALSE NEIGHBOUR: 'it returns false'. Refute it at one input. -/
def tokensNumbersWrong : ChangeSpec := { name := "tokensNumbers", fn := fun _ => fun
  | [d1, d2, d3] => { results := [.lit (.bool false)], args := [d1, d2, d3] }
  | _ => none }
def TokensNumbersWrongFalsely : Prop := tokensNumbersRow.holds Try.pinned (OpenSpec.ofChange tokensNumbersWrong)

/- THE SECOND FORM. 'bulk': how many values and letters a reading holds, each counted each time it is reached (what is shared counts as often as it is met; a slice's spare places count too). A statement '..UptoSaid' is the law's where the arguments, and the package variables that the reading takes, are together of bulk at most 1048576: NARROWER than '..Said'. Prove '..Said' where nothing that the law and all that it calls make is longer than what came in: it says more and counts as full. Else prove '..UptoSaid'. A law counts once. -/
mutual
def uptoBulk {H : Type} : DataW H → Nat
  | .lit (.string bytes) => bytes.length + 1
  | .lit _ => 1
  | .nil => 1
  | .ptr d => uptoBulk d + 1
  | .slice elems spare => uptoBulkAll elems + uptoBulkAll spare + 1
  | .agg parts => uptoBulkAll parts + 1
  | .iface _ d => uptoBulk d + 1
  | .map entries => uptoBulkEntries entries + 1
  | .held _ => 1
def uptoBulkAll {H : Type} : List (DataW H) → Nat
  | [] => 0
  | d :: r => uptoBulk d + uptoBulkAll r
def uptoBulkEntries {H : Type} : List (Lit × DataW H) → Nat
  | [] => 0
  | x :: r => uptoBulkEntry x + uptoBulkEntries r
def uptoBulkEntry {H : Type} : Lit × DataW H → Nat
  | (.string bytes, d) => bytes.length + uptoBulk d + 1
  | (_, d) => uptoBulk d + 1
 end
def uptoSmall : (H : Type) → List (DataW H) → Bool := fun _ ds => decide (uptoBulkAll ds ≤ 1048576)
def OpenSpec.upto (s : _root_.Go.ChangeSpec) : _root_.Go.OpenSpec := { _root_.Go.OpenSpec.ofChange s with cond := some uptoSmall }

/-- 'assayerlaw06.TokensNames', WHERE WHAT IT READS IS OF BULK AT MOST 1048576: true; the input reads as it did. -/
def tokensNamesUptoRow : OpenClaim := { program := "ytogmmdnfaoaaoaa", sum := "32b7c5ea36ba8dca83ded6da3aa95fefad23ef4552b5250346a913f6a7dc8559", func := "assayer/assayerlaw06.TokensNames", spec := "tokensNames", apart := false, narrowed := true }
def TokensNamesUptoSaid : Prop := tokensNamesUptoRow.holds Try.pinned (OpenSpec.upto tokensNamesSpec)

/-- 'assayerlaw13.LedgersMay', WHERE WHAT IT READS IS OF BULK AT MOST 1048576: true; the input reads as it did. -/
def ledgersMayUptoRow : OpenClaim := { program := "ytogmmdnfaoaaoaa", sum := "32b7c5ea36ba8dca83ded6da3aa95fefad23ef4552b5250346a913f6a7dc8559", func := "assayer/assayerlaw13.LedgersMay", spec := "ledgersMay", apart := false, narrowed := true }
def LedgersMayUptoSaid : Prop := ledgersMayUptoRow.holds Try.pinned (OpenSpec.upto ledgersMaySpec)

/-- 'assayerlaw06.TokensPlaces', WHERE WHAT IT READS IS OF BULK AT MOST 1048576: true; the input reads as it did. -/
def tokensPlacesUptoRow : OpenClaim := { program := "ytogmmdnfaoaaoaa", sum := "32b7c5ea36ba8dca83ded6da3aa95fefad23ef4552b5250346a913f6a7dc8559", func := "assayer/assayerlaw06.TokensPlaces", spec := "tokensPlaces", inPlace := ["internal/bytealg.IndexByteString", "internal/bytealg.IndexString"], unfollowed := true, recurses := true, named := ["internal/bytealg.MaxLen"], apart := false, narrowed := true }
def TokensPlacesUptoSaid : Prop := tokensPlacesUptoRow.holds Try.pinned (OpenSpec.upto tokensPlacesSpec)

/-- 'assayerlaw06.TokensAgain', WHERE WHAT IT READS IS OF BULK AT MOST 1048576: true; the input reads as it did. -/
def tokensAgainUptoRow : OpenClaim := { program := "ytogmmdnfaoaaoaa", sum := "32b7c5ea36ba8dca83ded6da3aa95fefad23ef4552b5250346a913f6a7dc8559", func := "assayer/assayerlaw06.TokensAgain", spec := "tokensAgain", inPlace := ["internal/bytealg.IndexByteString", "internal/bytealg.IndexString"], unfollowed := true, recurses := true, named := ["internal/bytealg.MaxLen"], apart := false, narrowed := true }
def TokensAgainUptoSaid : Prop := tokensAgainUptoRow.holds Try.pinned (OpenSpec.upto tokensAgainSpec)

/-- 'assayerlaw06.TokensJoins', WHERE WHAT IT READS IS OF BULK AT MOST 1048576: true; the input reads as it did. -/
def tokensJoinsUptoRow : OpenClaim := { program := "ytogmmdnfaoaaoaa", sum := "32b7c5ea36ba8dca83ded6da3aa95fefad23ef4552b5250346a913f6a7dc8559", func := "assayer/assayerlaw06.TokensJoins", spec := "tokensJoins", inPlace := ["internal/bytealg.IndexByteString", "internal/bytealg.IndexString"], unfollowed := true, recurses := true, named := ["internal/bytealg.MaxLen"], apart := false, narrowed := true }
def TokensJoinsUptoSaid : Prop := tokensJoinsUptoRow.holds Try.pinned (OpenSpec.upto tokensJoinsSpec)

/-- 'assayerlaw06.TokensAhead', WHERE WHAT IT READS IS OF BULK AT MOST 1048576: true; the input reads as it did. -/
def tokensAheadUptoRow : OpenClaim := { program := "ytogmmdnfaoaaoaa", sum := "32b7c5ea36ba8dca83ded6da3aa95fefad23ef4552b5250346a913f6a7dc8559", func := "assayer/assayerlaw06.TokensAhead", spec := "tokensAhead", inPlace := ["internal/bytealg.IndexByteString", "internal/bytealg.IndexString"], unfollowed := true, recurses := true, named := ["internal/bytealg.MaxLen"], apart := false, narrowed := true }
def TokensAheadUptoSaid : Prop := tokensAheadUptoRow.holds Try.pinned (OpenSpec.upto tokensAheadSpec)

/-- 'assayerlaw06.TokensWords', WHERE WHAT IT READS IS OF BULK AT MOST 1048576: true; the input reads as it did. -/
def tokensWordsUptoRow : OpenClaim := { program := "ytogmmdnfaoaaoaa", sum := "32b7c5ea36ba8dca83ded6da3aa95fefad23ef4552b5250346a913f6a7dc8559", func := "assayer/assayerlaw06.TokensWords", spec := "tokensWords", inPlace := ["internal/bytealg.IndexByteString", "internal/bytealg.IndexString"], unfollowed := true, recurses := true, named := ["internal/bytealg.MaxLen"], apart := false, narrowed := true }
def TokensWordsUptoSaid : Prop := tokensWordsUptoRow.holds Try.pinned (OpenSpec.upto tokensWordsSpec)

/-- 'assayerlaw06.TokensNumbers', WHERE WHAT IT READS IS OF BULK AT MOST 1048576: true; the input reads as it did. -/
def tokensNumbersUptoRow : OpenClaim := { program := "ytogmmdnfaoaaoaa", sum := "32b7c5ea36ba8dca83ded6da3aa95fefad23ef4552b5250346a913f6a7dc8559", func := "assayer/assayerlaw06.TokensNumbers", spec := "tokensNumbers", inPlace := ["internal/bytealg.IndexByteString", "internal/bytealg.IndexString"], unfollowed := true, recurses := true, named := ["internal/bytealg.MaxLen"], apart := false, narrowed := true }
def TokensNumbersUptoSaid : Prop := tokensNumbersUptoRow.holds Try.pinned (OpenSpec.upto tokensNumbersSpec)

end Rows
end Go.Proofs.Ytogmmdnfaoaaoaa
