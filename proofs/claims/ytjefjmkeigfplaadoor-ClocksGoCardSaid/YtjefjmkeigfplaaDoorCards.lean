/-
  DERIVED. GIVEN WITH THE SEED: THE CARDS: each row of YtjefjmkeigfplaaDoorRows.lean that lists a variable, with what it lists TIED to the program's text (the seventh form; the later family's looks); each row that meets fmt, with fmt's text TOLD by the authors' own Lean function (tested against real Go, not proved from fmt's source: count such statements apart). THE CARD IS WHAT COUNTS. Prove the row's statement (the work); the ties are given (YtjefjmkeigfplaaDoorTie.lean); close each card by the builder's one call (the guide's Derived/Test/ToyasCard.lean, 'card_holds'). Laid BY PROGRAM, IN A SANDBOX (cutbox-door.mjs). By AI agents, Wed Nov 11 2026. No macro, syntax, notation, axiom, sorry.
-/
import Derived.Test.YtjefjmkeigfplaaDoorRows
import GoSem.ClaimSeven
namespace Go.Proofs.YtjefjmkeigfplaaDoor
namespace Rows

/-- THE TIED CARD OF 'sennitlaw06.ClocksWhole'. -/
def clocksWholeCard : Claim7 := { stood := { row := clocksWholeRow, standIns := [], harness := (true, "1e697bc22bb384447c37b037fac15b11054ea50bc87584e7a0d1d13c8c967bf2"), looks := false }, kinds := [], alts := [], laidByText := true, laidKinds := [.data], laidTests := true, laidLooks := .later }
def ClocksWholeCardSaid : Prop := Claim7.holds Tryd.pinned (.plain (OpenSpec.ofChange clocksWholeSpec)) clocksWholeCard

/-- THE TIED CARD OF 'sennitlaw06.ClocksGo'. -/
def clocksGoCard : Claim7 := { stood := { row := clocksGoRow, standIns := [], harness := (true, "1e697bc22bb384447c37b037fac15b11054ea50bc87584e7a0d1d13c8c967bf2"), looks := false }, kinds := [], alts := [], laidByText := true, laidKinds := [.data], laidTests := true, laidLooks := .later }
def ClocksGoCardSaid : Prop := Claim7.holds Tryd.pinned (.plain (OpenSpec.ofChange clocksGoSpec)) clocksGoCard

/-- THE SECOND FORM's CARD OF 'sennitlaw06.ClocksWhole'. -/
def clocksWholeUptoCard : Claim7 := { stood := { row := clocksWholeUptoRow, standIns := [], harness := (true, "1e697bc22bb384447c37b037fac15b11054ea50bc87584e7a0d1d13c8c967bf2"), looks := false }, kinds := [], alts := [], laidByText := true, laidKinds := [.data], laidTests := true, laidLooks := .later }
def ClocksWholeUptoCardSaid : Prop := Claim7.holds Tryd.pinned (.plain (OpenSpec.upto clocksWholeSpec)) clocksWholeUptoCard

/-- THE SECOND FORM's CARD OF 'sennitlaw06.ClocksGo'. -/
def clocksGoUptoCard : Claim7 := { stood := { row := clocksGoUptoRow, standIns := [], harness := (true, "1e697bc22bb384447c37b037fac15b11054ea50bc87584e7a0d1d13c8c967bf2"), looks := false }, kinds := [], alts := [], laidByText := true, laidKinds := [.data], laidTests := true, laidLooks := .later }
def ClocksGoUptoCardSaid : Prop := Claim7.holds Tryd.pinned (.plain (OpenSpec.upto clocksGoSpec)) clocksGoUptoCard
end Rows
end Go.Proofs.YtjefjmkeigfplaaDoor
