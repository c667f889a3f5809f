/-
  DERIVED. GIVEN WITH THE SEED: THE CARDS: each row of YtljeokninakliaaGreatDoorRows.lean that lists a variable, with what it lists TIED to the program's text (the seventh form; the later family's looks); each row that meets fmt, with fmt's text TOLD by the authors' own Lean function (tested against real Go, not proved from fmt's source: count such statements apart). THE CARD IS WHAT COUNTS. Prove the row's statement (the work); the ties are given (YtljeokninakliaaGreatDoorTie.lean); close each card by the builder's one call (the guide's Derived/Test/ToyasCard.lean, 'card_holds'). Laid BY PROGRAM, IN A SANDBOX (cutbox-door.mjs). By AI agents, Wed Nov 11 2026. No macro, syntax, notation, axiom, sorry.
-/
import Derived.Test.YtljeokninakliaaGreatDoorRows
import GoSem.ClaimSeven
namespace Go.Proofs.YtljeokninakliaaGreatDoor
namespace Rows

/-- THE TIED CARD OF 'sennitlaw28.ModelsCrew'. -/
def modelsCrewCard : Claim7 := { stood := { row := modelsCrewRow, standIns := [], harness := (true, "a02e43e94707a07a5f7c28cd0cffc2d38383e2fc1bf9aec327694de45e81689f"), looks := false }, kinds := [], alts := [], laidByText := true, laidKinds := [.data, .data], laidTests := true, laidLooks := .later }
def ModelsCrewCardSaid : Prop := Claim7.holds Tryz.pinned (.plain (OpenSpec.ofChange modelsCrewSpec)) modelsCrewCard

/-- THE SECOND FORM's CARD OF 'sennitlaw28.ModelsCrew'. -/
def modelsCrewUptoCard : Claim7 := { stood := { row := modelsCrewUptoRow, standIns := [], harness := (true, "a02e43e94707a07a5f7c28cd0cffc2d38383e2fc1bf9aec327694de45e81689f"), looks := false }, kinds := [], alts := [], laidByText := true, laidKinds := [.data, .data], laidTests := true, laidLooks := .later }
def ModelsCrewUptoCardSaid : Prop := Claim7.holds Tryz.pinned (.plain (OpenSpec.upto modelsCrewSpec)) modelsCrewUptoCard
end Rows
end Go.Proofs.YtljeokninakliaaGreatDoor
