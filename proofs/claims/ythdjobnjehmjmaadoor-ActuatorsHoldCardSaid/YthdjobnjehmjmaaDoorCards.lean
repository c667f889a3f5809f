/-
  DERIVED. GIVEN WITH THE SEED: THE CARDS: each row of YthdjobnjehmjmaaDoorRows.lean that lists a variable, with what it lists TIED to the program's text (the seventh form; the later family's looks); each row that meets fmt, with fmt's text TOLD by the authors' own Lean function (tested against real Go, not proved from fmt's source: count such statements apart). THE CARD IS WHAT COUNTS. Prove the row's statement (the work); the ties are given (YthdjobnjehmjmaaDoorTie.lean); close each card by the builder's one call (the guide's Derived/Test/ToyasCard.lean, 'card_holds'). Laid BY PROGRAM, IN A SANDBOX (cutbox-door.mjs). By AI agents, Wed Nov 11 2026. No macro, syntax, notation, axiom, sorry.
-/
import Derived.Test.YthdjobnjehmjmaaDoorRows
import GoSem.ClaimSeven
namespace Go.Proofs.YthdjobnjehmjmaaDoor
namespace Rows

/-- THE TIED CARD OF 'sennitlaw25.ModesAny'. -/
def modesAnyCard : Claim7 := { stood := { row := modesAnyRow, standIns := [], harness := (true, "4fef0b5d252a6113a108208e841c471aa0332737edf7d0162f30362d3674a26f"), looks := false }, kinds := [], alts := [], laidByText := true, laidKinds := [.data, .data], laidTests := true, laidLooks := .later }
def ModesAnyCardSaid : Prop := Claim7.holds Tryd.pinned (.plain (OpenSpec.ofChange modesAnySpec)) modesAnyCard

/-- THE TIED CARD OF 'sennitlaw25.ModesTotal'. -/
def modesTotalCard : Claim7 := { stood := { row := modesTotalRow, standIns := [], harness := (true, "4fef0b5d252a6113a108208e841c471aa0332737edf7d0162f30362d3674a26f"), looks := false }, kinds := [], alts := [], laidByText := true, laidKinds := [.data, .data], laidTests := true, laidLooks := .later }
def ModesTotalCardSaid : Prop := Claim7.holds Tryd.pinned (.plain (OpenSpec.ofChange modesTotalSpec)) modesTotalCard

/-- THE TIED CARD OF 'sennitlaw25.ModesWorse'. -/
def modesWorseCard : Claim7 := { stood := { row := modesWorseRow, standIns := [], harness := (true, "4fef0b5d252a6113a108208e841c471aa0332737edf7d0162f30362d3674a26f"), looks := false }, kinds := [], alts := [], laidByText := true, laidKinds := [.data, .data], laidTests := true, laidLooks := .later }
def ModesWorseCardSaid : Prop := Claim7.holds Tryd.pinned (.plain (OpenSpec.ofChange modesWorseSpec)) modesWorseCard

/-- THE TIED CARD OF 'sennitlaw26.ActuatorsHold'. -/
def actuatorsHoldCard : Claim7 := { stood := { row := actuatorsHoldRow, standIns := [], harness := (true, "4fef0b5d252a6113a108208e841c471aa0332737edf7d0162f30362d3674a26f"), looks := false }, kinds := [], alts := [], laidByText := true, laidKinds := [.data], laidTests := true, laidLooks := .later }
def ActuatorsHoldCardSaid : Prop := Claim7.holds Tryd.pinned (.plain (OpenSpec.ofChange actuatorsHoldSpec)) actuatorsHoldCard

/-- THE TIED CARD OF 'sennitlaw26.ActuatorsAny'. -/
def actuatorsAnyCard : Claim7 := { stood := { row := actuatorsAnyRow, standIns := [], harness := (true, "4fef0b5d252a6113a108208e841c471aa0332737edf7d0162f30362d3674a26f"), looks := false }, kinds := [], alts := [], laidByText := true, laidKinds := [.data], laidTests := true, laidLooks := .later }
def ActuatorsAnyCardSaid : Prop := Claim7.holds Tryd.pinned (.plain (OpenSpec.ofChange actuatorsAnySpec)) actuatorsAnyCard

/-- THE TIED CARD OF 'sennitlaw26.ActuatorsRun'. -/
def actuatorsRunCard : Claim7 := { stood := { row := actuatorsRunRow, standIns := [], harness := (true, "4fef0b5d252a6113a108208e841c471aa0332737edf7d0162f30362d3674a26f"), looks := false }, kinds := [], alts := [], laidByText := true, laidKinds := [.data], laidTests := true, laidLooks := .later }
def ActuatorsRunCardSaid : Prop := Claim7.holds Tryd.pinned (.plain (OpenSpec.ofChange actuatorsRunSpec)) actuatorsRunCard

/-- THE TIED CARD OF 'sennitlaw04.ConfigsNew'. -/
def configsNewCard : Claim7 := { stood := { row := configsNewRow, standIns := [], harness := (true, "4fef0b5d252a6113a108208e841c471aa0332737edf7d0162f30362d3674a26f"), looks := false }, kinds := [], alts := [], laidByText := true, laidKinds := [.data], laidTests := true, laidLooks := .later }
def ConfigsNewCardSaid : Prop := Claim7.holds Tryd.pinned (.plain (OpenSpec.ofChange configsNewSpec)) configsNewCard

/-- THE TIED CARD OF 'sennitlaw04.ConfigsTurned'. -/
def configsTurnedCard : Claim7 := { stood := { row := configsTurnedRow, standIns := [], harness := (true, "4fef0b5d252a6113a108208e841c471aa0332737edf7d0162f30362d3674a26f"), looks := false }, kinds := [], alts := [], laidByText := true, laidKinds := [.data], laidTests := true, laidLooks := .later }
def ConfigsTurnedCardSaid : Prop := Claim7.holds Tryd.pinned (.plain (OpenSpec.ofChange configsTurnedSpec)) configsTurnedCard

/-- THE TIED CARD OF 'sennitlaw04.ConfigsEdges'. -/
def configsEdgesCard : Claim7 := { stood := { row := configsEdgesRow, standIns := [], harness := (true, "4fef0b5d252a6113a108208e841c471aa0332737edf7d0162f30362d3674a26f"), looks := false }, kinds := [], alts := [], laidByText := true, laidKinds := [.data], laidTests := true, laidLooks := .later }
def ConfigsEdgesCardSaid : Prop := Claim7.holds Tryd.pinned (.plain (OpenSpec.ofChange configsEdgesSpec)) configsEdgesCard

/-- THE TIED CARD OF 'sennitlaw04.ConfigsVoid'. -/
def configsVoidCard : Claim7 := { stood := { row := configsVoidRow, standIns := [], harness := (true, "4fef0b5d252a6113a108208e841c471aa0332737edf7d0162f30362d3674a26f"), looks := false }, kinds := [], alts := [], laidByText := true, laidKinds := [.data], laidTests := true, laidLooks := .later }
def ConfigsVoidCardSaid : Prop := Claim7.holds Tryd.pinned (.plain (OpenSpec.ofChange configsVoidSpec)) configsVoidCard

/-- THE TIED CARD OF 'sennitlaw04.ConfigsHalves'. -/
def configsHalvesCard : Claim7 := { stood := { row := configsHalvesRow, standIns := [], harness := (true, "4fef0b5d252a6113a108208e841c471aa0332737edf7d0162f30362d3674a26f"), looks := false }, kinds := [], alts := [], laidByText := true, laidKinds := [.data], laidTests := true, laidLooks := .later }
def ConfigsHalvesCardSaid : Prop := Claim7.holds Tryd.pinned (.plain (OpenSpec.ofChange configsHalvesSpec)) configsHalvesCard

/-- THE SECOND FORM's CARD OF 'sennitlaw25.ModesAny'. -/
def modesAnyUptoCard : Claim7 := { stood := { row := modesAnyUptoRow, standIns := [], harness := (true, "4fef0b5d252a6113a108208e841c471aa0332737edf7d0162f30362d3674a26f"), looks := false }, kinds := [], alts := [], laidByText := true, laidKinds := [.data, .data], laidTests := true, laidLooks := .later }
def ModesAnyUptoCardSaid : Prop := Claim7.holds Tryd.pinned (.plain (OpenSpec.upto modesAnySpec)) modesAnyUptoCard

/-- THE SECOND FORM's CARD OF 'sennitlaw25.ModesTotal'. -/
def modesTotalUptoCard : Claim7 := { stood := { row := modesTotalUptoRow, standIns := [], harness := (true, "4fef0b5d252a6113a108208e841c471aa0332737edf7d0162f30362d3674a26f"), looks := false }, kinds := [], alts := [], laidByText := true, laidKinds := [.data, .data], laidTests := true, laidLooks := .later }
def ModesTotalUptoCardSaid : Prop := Claim7.holds Tryd.pinned (.plain (OpenSpec.upto modesTotalSpec)) modesTotalUptoCard

/-- THE SECOND FORM's CARD OF 'sennitlaw25.ModesWorse'. -/
def modesWorseUptoCard : Claim7 := { stood := { row := modesWorseUptoRow, standIns := [], harness := (true, "4fef0b5d252a6113a108208e841c471aa0332737edf7d0162f30362d3674a26f"), looks := false }, kinds := [], alts := [], laidByText := true, laidKinds := [.data, .data], laidTests := true, laidLooks := .later }
def ModesWorseUptoCardSaid : Prop := Claim7.holds Tryd.pinned (.plain (OpenSpec.upto modesWorseSpec)) modesWorseUptoCard

/-- THE SECOND FORM's CARD OF 'sennitlaw26.ActuatorsHold'. -/
def actuatorsHoldUptoCard : Claim7 := { stood := { row := actuatorsHoldUptoRow, standIns := [], harness := (true, "4fef0b5d252a6113a108208e841c471aa0332737edf7d0162f30362d3674a26f"), looks := false }, kinds := [], alts := [], laidByText := true, laidKinds := [.data], laidTests := true, laidLooks := .later }
def ActuatorsHoldUptoCardSaid : Prop := Claim7.holds Tryd.pinned (.plain (OpenSpec.upto actuatorsHoldSpec)) actuatorsHoldUptoCard

/-- THE SECOND FORM's CARD OF 'sennitlaw26.ActuatorsAny'. -/
def actuatorsAnyUptoCard : Claim7 := { stood := { row := actuatorsAnyUptoRow, standIns := [], harness := (true, "4fef0b5d252a6113a108208e841c471aa0332737edf7d0162f30362d3674a26f"), looks := false }, kinds := [], alts := [], laidByText := true, laidKinds := [.data], laidTests := true, laidLooks := .later }
def ActuatorsAnyUptoCardSaid : Prop := Claim7.holds Tryd.pinned (.plain (OpenSpec.upto actuatorsAnySpec)) actuatorsAnyUptoCard

/-- THE SECOND FORM's CARD OF 'sennitlaw26.ActuatorsRun'. -/
def actuatorsRunUptoCard : Claim7 := { stood := { row := actuatorsRunUptoRow, standIns := [], harness := (true, "4fef0b5d252a6113a108208e841c471aa0332737edf7d0162f30362d3674a26f"), looks := false }, kinds := [], alts := [], laidByText := true, laidKinds := [.data], laidTests := true, laidLooks := .later }
def ActuatorsRunUptoCardSaid : Prop := Claim7.holds Tryd.pinned (.plain (OpenSpec.upto actuatorsRunSpec)) actuatorsRunUptoCard

/-- THE SECOND FORM's CARD OF 'sennitlaw04.ConfigsNew'. -/
def configsNewUptoCard : Claim7 := { stood := { row := configsNewUptoRow, standIns := [], harness := (true, "4fef0b5d252a6113a108208e841c471aa0332737edf7d0162f30362d3674a26f"), looks := false }, kinds := [], alts := [], laidByText := true, laidKinds := [.data], laidTests := true, laidLooks := .later }
def ConfigsNewUptoCardSaid : Prop := Claim7.holds Tryd.pinned (.plain (OpenSpec.upto configsNewSpec)) configsNewUptoCard

/-- THE SECOND FORM's CARD OF 'sennitlaw04.ConfigsTurned'. -/
def configsTurnedUptoCard : Claim7 := { stood := { row := configsTurnedUptoRow, standIns := [], harness := (true, "4fef0b5d252a6113a108208e841c471aa0332737edf7d0162f30362d3674a26f"), looks := false }, kinds := [], alts := [], laidByText := true, laidKinds := [.data], laidTests := true, laidLooks := .later }
def ConfigsTurnedUptoCardSaid : Prop := Claim7.holds Tryd.pinned (.plain (OpenSpec.upto configsTurnedSpec)) configsTurnedUptoCard

/-- THE SECOND FORM's CARD OF 'sennitlaw04.ConfigsEdges'. -/
def configsEdgesUptoCard : Claim7 := { stood := { row := configsEdgesUptoRow, standIns := [], harness := (true, "4fef0b5d252a6113a108208e841c471aa0332737edf7d0162f30362d3674a26f"), looks := false }, kinds := [], alts := [], laidByText := true, laidKinds := [.data], laidTests := true, laidLooks := .later }
def ConfigsEdgesUptoCardSaid : Prop := Claim7.holds Tryd.pinned (.plain (OpenSpec.upto configsEdgesSpec)) configsEdgesUptoCard

/-- THE SECOND FORM's CARD OF 'sennitlaw04.ConfigsVoid'. -/
def configsVoidUptoCard : Claim7 := { stood := { row := configsVoidUptoRow, standIns := [], harness := (true, "4fef0b5d252a6113a108208e841c471aa0332737edf7d0162f30362d3674a26f"), looks := false }, kinds := [], alts := [], laidByText := true, laidKinds := [.data], laidTests := true, laidLooks := .later }
def ConfigsVoidUptoCardSaid : Prop := Claim7.holds Tryd.pinned (.plain (OpenSpec.upto configsVoidSpec)) configsVoidUptoCard

/-- THE SECOND FORM's CARD OF 'sennitlaw04.ConfigsHalves'. -/
def configsHalvesUptoCard : Claim7 := { stood := { row := configsHalvesUptoRow, standIns := [], harness := (true, "4fef0b5d252a6113a108208e841c471aa0332737edf7d0162f30362d3674a26f"), looks := false }, kinds := [], alts := [], laidByText := true, laidKinds := [.data], laidTests := true, laidLooks := .later }
def ConfigsHalvesUptoCardSaid : Prop := Claim7.holds Tryd.pinned (.plain (OpenSpec.upto configsHalvesSpec)) configsHalvesUptoCard
end Rows
end Go.Proofs.YthdjobnjehmjmaaDoor
