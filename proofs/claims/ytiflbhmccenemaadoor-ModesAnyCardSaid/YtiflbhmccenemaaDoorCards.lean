/-
  DERIVED. GIVEN WITH THE SEED: THE CARDS: each row of YtiflbhmccenemaaDoorRows.lean that lists a variable, with what it lists TIED to the program's text (the seventh form; the later family's looks); each row that meets fmt, with fmt's text TOLD by the authors' own Lean function (tested against real Go, not proved from fmt's source: count such statements apart). THE CARD IS WHAT COUNTS. Prove the row's statement (the work); the ties are given (YtiflbhmccenemaaDoorTie.lean); close each card by the builder's one call (the guide's Derived/Test/ToyasCard.lean, 'card_holds'). Laid BY PROGRAM, IN A SANDBOX (cutbox-door.mjs). By AI agents, Wed Nov 11 2026. No macro, syntax, notation, axiom, sorry.
-/
import Derived.Test.YtiflbhmccenemaaDoorRows
import GoSem.ClaimSeven
namespace Go.Proofs.YtiflbhmccenemaaDoor
namespace Rows

/-- THE TIED CARD OF 'sennitlaw25.ModesAny'. -/
def modesAnyCard : Claim7 := { stood := { row := modesAnyRow, standIns := [], harness := (true, "b88eb13fb7f8bb94b5a4dd0867966691ad89c38d73ee75b5c0c1563af6cde394"), looks := false }, kinds := [], alts := [], laidByText := true, laidKinds := [.data, .data], laidTests := true, laidLooks := .later }
def ModesAnyCardSaid : Prop := Claim7.holds Tryd.pinned (.plain (OpenSpec.ofChange modesAnySpec)) modesAnyCard

/-- THE TIED CARD OF 'sennitlaw25.ModesTotal'. -/
def modesTotalCard : Claim7 := { stood := { row := modesTotalRow, standIns := [], harness := (true, "b88eb13fb7f8bb94b5a4dd0867966691ad89c38d73ee75b5c0c1563af6cde394"), looks := false }, kinds := [], alts := [], laidByText := true, laidKinds := [.data, .data], laidTests := true, laidLooks := .later }
def ModesTotalCardSaid : Prop := Claim7.holds Tryd.pinned (.plain (OpenSpec.ofChange modesTotalSpec)) modesTotalCard

/-- THE TIED CARD OF 'sennitlaw25.ModesWorse'. -/
def modesWorseCard : Claim7 := { stood := { row := modesWorseRow, standIns := [], harness := (true, "b88eb13fb7f8bb94b5a4dd0867966691ad89c38d73ee75b5c0c1563af6cde394"), looks := false }, kinds := [], alts := [], laidByText := true, laidKinds := [.data, .data], laidTests := true, laidLooks := .later }
def ModesWorseCardSaid : Prop := Claim7.holds Tryd.pinned (.plain (OpenSpec.ofChange modesWorseSpec)) modesWorseCard

/-- THE TIED CARD OF 'sennitlaw04.ConfigsNew'. -/
def configsNewCard : Claim7 := { stood := { row := configsNewRow, standIns := [], harness := (true, "b88eb13fb7f8bb94b5a4dd0867966691ad89c38d73ee75b5c0c1563af6cde394"), looks := false }, kinds := [], alts := [], laidByText := true, laidKinds := [.data], laidTests := true, laidLooks := .later }
def ConfigsNewCardSaid : Prop := Claim7.holds Tryd.pinned (.plain (OpenSpec.ofChange configsNewSpec)) configsNewCard

/-- THE TIED CARD OF 'sennitlaw04.ConfigsTurned'. -/
def configsTurnedCard : Claim7 := { stood := { row := configsTurnedRow, standIns := [], harness := (true, "b88eb13fb7f8bb94b5a4dd0867966691ad89c38d73ee75b5c0c1563af6cde394"), looks := false }, kinds := [], alts := [], laidByText := true, laidKinds := [.data], laidTests := true, laidLooks := .later }
def ConfigsTurnedCardSaid : Prop := Claim7.holds Tryd.pinned (.plain (OpenSpec.ofChange configsTurnedSpec)) configsTurnedCard

/-- THE TIED CARD OF 'sennitlaw04.ConfigsEdges'. -/
def configsEdgesCard : Claim7 := { stood := { row := configsEdgesRow, standIns := [], harness := (true, "b88eb13fb7f8bb94b5a4dd0867966691ad89c38d73ee75b5c0c1563af6cde394"), looks := false }, kinds := [], alts := [], laidByText := true, laidKinds := [.data], laidTests := true, laidLooks := .later }
def ConfigsEdgesCardSaid : Prop := Claim7.holds Tryd.pinned (.plain (OpenSpec.ofChange configsEdgesSpec)) configsEdgesCard

/-- THE TIED CARD OF 'sennitlaw26.ActuatorsAny'. -/
def actuatorsAnyCard : Claim7 := { stood := { row := actuatorsAnyRow, standIns := [], harness := (true, "b88eb13fb7f8bb94b5a4dd0867966691ad89c38d73ee75b5c0c1563af6cde394"), looks := false }, kinds := [], alts := [], laidByText := true, laidKinds := [.data], laidTests := true, laidLooks := .later }
def ActuatorsAnyCardSaid : Prop := Claim7.holds Tryd.pinned (.plain (OpenSpec.ofChange actuatorsAnySpec)) actuatorsAnyCard

/-- THE TIED CARD OF 'sennitlaw26.ActuatorsRun'. -/
def actuatorsRunCard : Claim7 := { stood := { row := actuatorsRunRow, standIns := [], harness := (true, "b88eb13fb7f8bb94b5a4dd0867966691ad89c38d73ee75b5c0c1563af6cde394"), looks := false }, kinds := [], alts := [], laidByText := true, laidKinds := [.data], laidTests := true, laidLooks := .later }
def ActuatorsRunCardSaid : Prop := Claim7.holds Tryd.pinned (.plain (OpenSpec.ofChange actuatorsRunSpec)) actuatorsRunCard

/-- THE TIED CARD OF 'sennitlaw04.ConfigsHalves'. -/
def configsHalvesCard : Claim7 := { stood := { row := configsHalvesRow, standIns := [], harness := (true, "b88eb13fb7f8bb94b5a4dd0867966691ad89c38d73ee75b5c0c1563af6cde394"), looks := false }, kinds := [], alts := [], laidByText := true, laidKinds := [.data], laidTests := true, laidLooks := .later }
def ConfigsHalvesCardSaid : Prop := Claim7.holds Tryd.pinned (.plain (OpenSpec.ofChange configsHalvesSpec)) configsHalvesCard

/-- THE TIED CARD OF 'sennitlaw10.WindowsOver'. -/
def windowsOverCard : Claim7 := { stood := { row := windowsOverRow, standIns := [], harness := (true, "b88eb13fb7f8bb94b5a4dd0867966691ad89c38d73ee75b5c0c1563af6cde394"), looks := false }, kinds := [], alts := [], laidByText := true, laidKinds := [.data, .data], laidTests := true, laidLooks := .later }
def WindowsOverCardSaid : Prop := Claim7.holds Tryd.pinned (.plain (OpenSpec.ofChange windowsOverSpec)) windowsOverCard

/-- THE TIED CARD OF 'sennitlaw10.WindowsOf'. -/
def windowsOfCard : Claim7 := { stood := { row := windowsOfRow, standIns := [], harness := (true, "b88eb13fb7f8bb94b5a4dd0867966691ad89c38d73ee75b5c0c1563af6cde394"), looks := false }, kinds := [], alts := [], laidByText := true, laidKinds := [.data, .data], laidTests := true, laidLooks := .later }
def WindowsOfCardSaid : Prop := Claim7.holds Tryd.pinned (.plain (OpenSpec.ofChange windowsOfSpec)) windowsOfCard

/-- THE SECOND FORM's CARD OF 'sennitlaw25.ModesAny'. -/
def modesAnyUptoCard : Claim7 := { stood := { row := modesAnyUptoRow, standIns := [], harness := (true, "b88eb13fb7f8bb94b5a4dd0867966691ad89c38d73ee75b5c0c1563af6cde394"), looks := false }, kinds := [], alts := [], laidByText := true, laidKinds := [.data, .data], laidTests := true, laidLooks := .later }
def ModesAnyUptoCardSaid : Prop := Claim7.holds Tryd.pinned (.plain (OpenSpec.upto modesAnySpec)) modesAnyUptoCard

/-- THE SECOND FORM's CARD OF 'sennitlaw25.ModesTotal'. -/
def modesTotalUptoCard : Claim7 := { stood := { row := modesTotalUptoRow, standIns := [], harness := (true, "b88eb13fb7f8bb94b5a4dd0867966691ad89c38d73ee75b5c0c1563af6cde394"), looks := false }, kinds := [], alts := [], laidByText := true, laidKinds := [.data, .data], laidTests := true, laidLooks := .later }
def ModesTotalUptoCardSaid : Prop := Claim7.holds Tryd.pinned (.plain (OpenSpec.upto modesTotalSpec)) modesTotalUptoCard

/-- THE SECOND FORM's CARD OF 'sennitlaw25.ModesWorse'. -/
def modesWorseUptoCard : Claim7 := { stood := { row := modesWorseUptoRow, standIns := [], harness := (true, "b88eb13fb7f8bb94b5a4dd0867966691ad89c38d73ee75b5c0c1563af6cde394"), looks := false }, kinds := [], alts := [], laidByText := true, laidKinds := [.data, .data], laidTests := true, laidLooks := .later }
def ModesWorseUptoCardSaid : Prop := Claim7.holds Tryd.pinned (.plain (OpenSpec.upto modesWorseSpec)) modesWorseUptoCard

/-- THE SECOND FORM's CARD OF 'sennitlaw04.ConfigsNew'. -/
def configsNewUptoCard : Claim7 := { stood := { row := configsNewUptoRow, standIns := [], harness := (true, "b88eb13fb7f8bb94b5a4dd0867966691ad89c38d73ee75b5c0c1563af6cde394"), looks := false }, kinds := [], alts := [], laidByText := true, laidKinds := [.data], laidTests := true, laidLooks := .later }
def ConfigsNewUptoCardSaid : Prop := Claim7.holds Tryd.pinned (.plain (OpenSpec.upto configsNewSpec)) configsNewUptoCard

/-- THE SECOND FORM's CARD OF 'sennitlaw04.ConfigsTurned'. -/
def configsTurnedUptoCard : Claim7 := { stood := { row := configsTurnedUptoRow, standIns := [], harness := (true, "b88eb13fb7f8bb94b5a4dd0867966691ad89c38d73ee75b5c0c1563af6cde394"), looks := false }, kinds := [], alts := [], laidByText := true, laidKinds := [.data], laidTests := true, laidLooks := .later }
def ConfigsTurnedUptoCardSaid : Prop := Claim7.holds Tryd.pinned (.plain (OpenSpec.upto configsTurnedSpec)) configsTurnedUptoCard

/-- THE SECOND FORM's CARD OF 'sennitlaw04.ConfigsEdges'. -/
def configsEdgesUptoCard : Claim7 := { stood := { row := configsEdgesUptoRow, standIns := [], harness := (true, "b88eb13fb7f8bb94b5a4dd0867966691ad89c38d73ee75b5c0c1563af6cde394"), looks := false }, kinds := [], alts := [], laidByText := true, laidKinds := [.data], laidTests := true, laidLooks := .later }
def ConfigsEdgesUptoCardSaid : Prop := Claim7.holds Tryd.pinned (.plain (OpenSpec.upto configsEdgesSpec)) configsEdgesUptoCard

/-- THE SECOND FORM's CARD OF 'sennitlaw26.ActuatorsAny'. -/
def actuatorsAnyUptoCard : Claim7 := { stood := { row := actuatorsAnyUptoRow, standIns := [], harness := (true, "b88eb13fb7f8bb94b5a4dd0867966691ad89c38d73ee75b5c0c1563af6cde394"), looks := false }, kinds := [], alts := [], laidByText := true, laidKinds := [.data], laidTests := true, laidLooks := .later }
def ActuatorsAnyUptoCardSaid : Prop := Claim7.holds Tryd.pinned (.plain (OpenSpec.upto actuatorsAnySpec)) actuatorsAnyUptoCard

/-- THE SECOND FORM's CARD OF 'sennitlaw26.ActuatorsRun'. -/
def actuatorsRunUptoCard : Claim7 := { stood := { row := actuatorsRunUptoRow, standIns := [], harness := (true, "b88eb13fb7f8bb94b5a4dd0867966691ad89c38d73ee75b5c0c1563af6cde394"), looks := false }, kinds := [], alts := [], laidByText := true, laidKinds := [.data], laidTests := true, laidLooks := .later }
def ActuatorsRunUptoCardSaid : Prop := Claim7.holds Tryd.pinned (.plain (OpenSpec.upto actuatorsRunSpec)) actuatorsRunUptoCard

/-- THE SECOND FORM's CARD OF 'sennitlaw04.ConfigsHalves'. -/
def configsHalvesUptoCard : Claim7 := { stood := { row := configsHalvesUptoRow, standIns := [], harness := (true, "b88eb13fb7f8bb94b5a4dd0867966691ad89c38d73ee75b5c0c1563af6cde394"), looks := false }, kinds := [], alts := [], laidByText := true, laidKinds := [.data], laidTests := true, laidLooks := .later }
def ConfigsHalvesUptoCardSaid : Prop := Claim7.holds Tryd.pinned (.plain (OpenSpec.upto configsHalvesSpec)) configsHalvesUptoCard

/-- THE SECOND FORM's CARD OF 'sennitlaw10.WindowsOver'. -/
def windowsOverUptoCard : Claim7 := { stood := { row := windowsOverUptoRow, standIns := [], harness := (true, "b88eb13fb7f8bb94b5a4dd0867966691ad89c38d73ee75b5c0c1563af6cde394"), looks := false }, kinds := [], alts := [], laidByText := true, laidKinds := [.data, .data], laidTests := true, laidLooks := .later }
def WindowsOverUptoCardSaid : Prop := Claim7.holds Tryd.pinned (.plain (OpenSpec.upto windowsOverSpec)) windowsOverUptoCard

/-- THE SECOND FORM's CARD OF 'sennitlaw10.WindowsOf'. -/
def windowsOfUptoCard : Claim7 := { stood := { row := windowsOfUptoRow, standIns := [], harness := (true, "b88eb13fb7f8bb94b5a4dd0867966691ad89c38d73ee75b5c0c1563af6cde394"), looks := false }, kinds := [], alts := [], laidByText := true, laidKinds := [.data, .data], laidTests := true, laidLooks := .later }
def WindowsOfUptoCardSaid : Prop := Claim7.holds Tryd.pinned (.plain (OpenSpec.upto windowsOfSpec)) windowsOfUptoCard
end Rows
end Go.Proofs.YtiflbhmccenemaaDoor
