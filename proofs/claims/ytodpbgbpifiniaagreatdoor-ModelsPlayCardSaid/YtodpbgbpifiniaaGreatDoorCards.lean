/-
  DERIVED. GIVEN WITH THE SEED: THE CARDS: each row of YtodpbgbpifiniaaGreatDoorRows.lean that lists a variable, with what it lists TIED to the program's text (the seventh form; the later family's looks); each row that meets fmt, with fmt's text TOLD by the authors' own Lean function (tested against real Go, not proved from fmt's source: count such statements apart). THE CARD IS WHAT COUNTS. Prove the row's statement (the work); the ties are given (YtodpbgbpifiniaaGreatDoorTie.lean); close each card by the builder's one call (the guide's Derived/Test/ToyasCard.lean, 'card_holds'). Laid BY PROGRAM, IN A SANDBOX (cutbox-door.mjs). By AI agents, Wed Nov 11 2026. No macro, syntax, notation, axiom, sorry.
-/
import Derived.Test.YtodpbgbpifiniaaGreatDoorRows
import GoSem.ClaimSeven
namespace Go.Proofs.YtodpbgbpifiniaaGreatDoor
namespace Rows

/-- THE TIED CARD OF 'sennitlaw28.ModelsPlay'. -/
def modelsPlayCard : Claim7 := { stood := { row := modelsPlayRow, standIns := [], harness := (true, "d6d4dccc27ed5609fed2ef2114db7de0de7d5815db3d899db14df74b71e27f63"), looks := false }, kinds := [], alts := [], laidByText := true, laidKinds := [.data, .data], laidTests := true, laidLooks := .later }
def ModelsPlayCardSaid : Prop := Claim7.holds Tryz.pinned (.plain (OpenSpec.ofChange modelsPlaySpec)) modelsPlayCard

/-- THE SECOND FORM's CARD OF 'sennitlaw28.ModelsPlay'. -/
def modelsPlayUptoCard : Claim7 := { stood := { row := modelsPlayUptoRow, standIns := [], harness := (true, "d6d4dccc27ed5609fed2ef2114db7de0de7d5815db3d899db14df74b71e27f63"), looks := false }, kinds := [], alts := [], laidByText := true, laidKinds := [.data, .data], laidTests := true, laidLooks := .later }
def ModelsPlayUptoCardSaid : Prop := Claim7.holds Tryz.pinned (.plain (OpenSpec.upto modelsPlaySpec)) modelsPlayUptoCard
end Rows
end Go.Proofs.YtodpbgbpifiniaaGreatDoor
