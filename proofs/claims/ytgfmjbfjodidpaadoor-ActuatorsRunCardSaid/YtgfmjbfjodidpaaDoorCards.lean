/-
  DERIVED. GIVEN WITH THE SEED: THE CARDS: each row of YtgfmjbfjodidpaaDoorRows.lean that lists a variable, with what it lists TIED to the program's text (the seventh form; the later family's looks); each row that meets fmt, with fmt's text TOLD by the authors' own Lean function (tested against real Go, not proved from fmt's source: count such statements apart). THE CARD IS WHAT COUNTS. Prove the row's statement (the work); the ties are given (YtgfmjbfjodidpaaDoorTie.lean); close each card by the builder's one call (the guide's Derived/Test/ToyasCard.lean, 'card_holds'). Laid BY PROGRAM, IN A SANDBOX (cutbox-door.mjs). By AI agents, Wed Nov 11 2026. No macro, syntax, notation, axiom, sorry.
-/
import Derived.Test.YtgfmjbfjodidpaaDoorRows
import GoSem.ClaimSeven
namespace Go.Proofs.YtgfmjbfjodidpaaDoor
namespace Rows

/-- THE TIED CARD OF 'sennitlaw25.ModesWorse'. -/
def modesWorseCard : Claim7 := { stood := { row := modesWorseRow, standIns := [], harness := (true, "0c64a0d1f17d297727ae6c4909af7cf3bab9b10693b6e5e95a904fc70a14f618"), looks := false }, kinds := [], alts := [], laidByText := true, laidKinds := [.data, .data], laidTests := true, laidLooks := .later }
def ModesWorseCardSaid : Prop := Claim7.holds Tryd.pinned (.plain (OpenSpec.ofChange modesWorseSpec)) modesWorseCard

/-- THE TIED CARD OF 'sennitlaw04.ConfigsNew'. -/
def configsNewCard : Claim7 := { stood := { row := configsNewRow, standIns := [], harness := (true, "0c64a0d1f17d297727ae6c4909af7cf3bab9b10693b6e5e95a904fc70a14f618"), looks := false }, kinds := [], alts := [], laidByText := true, laidKinds := [.data], laidTests := true, laidLooks := .later }
def ConfigsNewCardSaid : Prop := Claim7.holds Tryd.pinned (.plain (OpenSpec.ofChange configsNewSpec)) configsNewCard

/-- THE TIED CARD OF 'sennitlaw04.ConfigsEdges'. -/
def configsEdgesCard : Claim7 := { stood := { row := configsEdgesRow, standIns := [], harness := (true, "0c64a0d1f17d297727ae6c4909af7cf3bab9b10693b6e5e95a904fc70a14f618"), looks := false }, kinds := [], alts := [], laidByText := true, laidKinds := [.data], laidTests := true, laidLooks := .later }
def ConfigsEdgesCardSaid : Prop := Claim7.holds Tryd.pinned (.plain (OpenSpec.ofChange configsEdgesSpec)) configsEdgesCard

/-- THE TIED CARD OF 'sennitlaw26.ActuatorsAny'. -/
def actuatorsAnyCard : Claim7 := { stood := { row := actuatorsAnyRow, standIns := [], harness := (true, "0c64a0d1f17d297727ae6c4909af7cf3bab9b10693b6e5e95a904fc70a14f618"), looks := false }, kinds := [], alts := [], laidByText := true, laidKinds := [.data], laidTests := true, laidLooks := .later }
def ActuatorsAnyCardSaid : Prop := Claim7.holds Tryd.pinned (.plain (OpenSpec.ofChange actuatorsAnySpec)) actuatorsAnyCard

/-- THE TIED CARD OF 'sennitlaw26.ActuatorsRun'. -/
def actuatorsRunCard : Claim7 := { stood := { row := actuatorsRunRow, standIns := [], harness := (true, "0c64a0d1f17d297727ae6c4909af7cf3bab9b10693b6e5e95a904fc70a14f618"), looks := false }, kinds := [], alts := [], laidByText := true, laidKinds := [.data], laidTests := true, laidLooks := .later }
def ActuatorsRunCardSaid : Prop := Claim7.holds Tryd.pinned (.plain (OpenSpec.ofChange actuatorsRunSpec)) actuatorsRunCard

/-- THE TIED CARD OF 'sennitlaw04.ConfigsHalves'. -/
def configsHalvesCard : Claim7 := { stood := { row := configsHalvesRow, standIns := [], harness := (true, "0c64a0d1f17d297727ae6c4909af7cf3bab9b10693b6e5e95a904fc70a14f618"), looks := false }, kinds := [], alts := [], laidByText := true, laidKinds := [.data], laidTests := true, laidLooks := .later }
def ConfigsHalvesCardSaid : Prop := Claim7.holds Tryd.pinned (.plain (OpenSpec.ofChange configsHalvesSpec)) configsHalvesCard

/-- THE TIED CARD OF 'sennitlaw10.WindowsOver'. -/
def windowsOverCard : Claim7 := { stood := { row := windowsOverRow, standIns := [], harness := (true, "0c64a0d1f17d297727ae6c4909af7cf3bab9b10693b6e5e95a904fc70a14f618"), looks := false }, kinds := [], alts := [], laidByText := true, laidKinds := [.data, .data], laidTests := true, laidLooks := .later }
def WindowsOverCardSaid : Prop := Claim7.holds Tryd.pinned (.plain (OpenSpec.ofChange windowsOverSpec)) windowsOverCard

/-- THE TIED CARD OF 'sennitlaw10.WindowsOf'. -/
def windowsOfCard : Claim7 := { stood := { row := windowsOfRow, standIns := [], harness := (true, "0c64a0d1f17d297727ae6c4909af7cf3bab9b10693b6e5e95a904fc70a14f618"), looks := false }, kinds := [], alts := [], laidByText := true, laidKinds := [.data, .data], laidTests := true, laidLooks := .later }
def WindowsOfCardSaid : Prop := Claim7.holds Tryd.pinned (.plain (OpenSpec.ofChange windowsOfSpec)) windowsOfCard

/-- THE TIED CARD OF 'sennitlaw10.WindowsGuards'. -/
def windowsGuardsCard : Claim7 := { stood := { row := windowsGuardsRow, standIns := [], harness := (true, "0c64a0d1f17d297727ae6c4909af7cf3bab9b10693b6e5e95a904fc70a14f618"), looks := false }, kinds := [], alts := [], laidByText := true, laidKinds := [.data, .data], laidTests := true, laidLooks := .later }
def WindowsGuardsCardSaid : Prop := Claim7.holds Tryd.pinned (.plain (OpenSpec.ofChange windowsGuardsSpec)) windowsGuardsCard

/-- THE TIED CARD OF 'sennitlaw10.WindowsMeet'. -/
def windowsMeetCard : Claim7 := { stood := { row := windowsMeetRow, standIns := [], harness := (true, "0c64a0d1f17d297727ae6c4909af7cf3bab9b10693b6e5e95a904fc70a14f618"), looks := false }, kinds := [], alts := [], laidByText := true, laidKinds := [.data, .data], laidTests := true, laidLooks := .later }
def WindowsMeetCardSaid : Prop := Claim7.holds Tryd.pinned (.plain (OpenSpec.ofChange windowsMeetSpec)) windowsMeetCard

/-- THE TIED CARD OF 'sennitlaw06.ClocksOf'. -/
def clocksOfCard : Claim7 := { stood := { row := clocksOfRow, standIns := [], harness := (true, "0c64a0d1f17d297727ae6c4909af7cf3bab9b10693b6e5e95a904fc70a14f618"), looks := false }, kinds := [], alts := [], laidByText := true, laidKinds := [.data], laidTests := true, laidLooks := .later }
def ClocksOfCardSaid : Prop := Claim7.holds Tryd.pinned (.plain (OpenSpec.ofChange clocksOfSpec)) clocksOfCard

/-- THE TIED CARD OF 'sennitlaw06.ClocksBack'. -/
def clocksBackCard : Claim7 := { stood := { row := clocksBackRow, standIns := [], harness := (true, "0c64a0d1f17d297727ae6c4909af7cf3bab9b10693b6e5e95a904fc70a14f618"), looks := false }, kinds := [], alts := [], laidByText := true, laidKinds := [.data], laidTests := true, laidLooks := .later }
def ClocksBackCardSaid : Prop := Claim7.holds Tryd.pinned (.plain (OpenSpec.ofChange clocksBackSpec)) clocksBackCard

/-- THE SECOND FORM's CARD OF 'sennitlaw25.ModesWorse'. -/
def modesWorseUptoCard : Claim7 := { stood := { row := modesWorseUptoRow, standIns := [], harness := (true, "0c64a0d1f17d297727ae6c4909af7cf3bab9b10693b6e5e95a904fc70a14f618"), looks := false }, kinds := [], alts := [], laidByText := true, laidKinds := [.data, .data], laidTests := true, laidLooks := .later }
def ModesWorseUptoCardSaid : Prop := Claim7.holds Tryd.pinned (.plain (OpenSpec.upto modesWorseSpec)) modesWorseUptoCard

/-- THE SECOND FORM's CARD OF 'sennitlaw04.ConfigsNew'. -/
def configsNewUptoCard : Claim7 := { stood := { row := configsNewUptoRow, standIns := [], harness := (true, "0c64a0d1f17d297727ae6c4909af7cf3bab9b10693b6e5e95a904fc70a14f618"), looks := false }, kinds := [], alts := [], laidByText := true, laidKinds := [.data], laidTests := true, laidLooks := .later }
def ConfigsNewUptoCardSaid : Prop := Claim7.holds Tryd.pinned (.plain (OpenSpec.upto configsNewSpec)) configsNewUptoCard

/-- THE SECOND FORM's CARD OF 'sennitlaw04.ConfigsEdges'. -/
def configsEdgesUptoCard : Claim7 := { stood := { row := configsEdgesUptoRow, standIns := [], harness := (true, "0c64a0d1f17d297727ae6c4909af7cf3bab9b10693b6e5e95a904fc70a14f618"), looks := false }, kinds := [], alts := [], laidByText := true, laidKinds := [.data], laidTests := true, laidLooks := .later }
def ConfigsEdgesUptoCardSaid : Prop := Claim7.holds Tryd.pinned (.plain (OpenSpec.upto configsEdgesSpec)) configsEdgesUptoCard

/-- THE SECOND FORM's CARD OF 'sennitlaw26.ActuatorsAny'. -/
def actuatorsAnyUptoCard : Claim7 := { stood := { row := actuatorsAnyUptoRow, standIns := [], harness := (true, "0c64a0d1f17d297727ae6c4909af7cf3bab9b10693b6e5e95a904fc70a14f618"), looks := false }, kinds := [], alts := [], laidByText := true, laidKinds := [.data], laidTests := true, laidLooks := .later }
def ActuatorsAnyUptoCardSaid : Prop := Claim7.holds Tryd.pinned (.plain (OpenSpec.upto actuatorsAnySpec)) actuatorsAnyUptoCard

/-- THE SECOND FORM's CARD OF 'sennitlaw26.ActuatorsRun'. -/
def actuatorsRunUptoCard : Claim7 := { stood := { row := actuatorsRunUptoRow, standIns := [], harness := (true, "0c64a0d1f17d297727ae6c4909af7cf3bab9b10693b6e5e95a904fc70a14f618"), looks := false }, kinds := [], alts := [], laidByText := true, laidKinds := [.data], laidTests := true, laidLooks := .later }
def ActuatorsRunUptoCardSaid : Prop := Claim7.holds Tryd.pinned (.plain (OpenSpec.upto actuatorsRunSpec)) actuatorsRunUptoCard

/-- THE SECOND FORM's CARD OF 'sennitlaw04.ConfigsHalves'. -/
def configsHalvesUptoCard : Claim7 := { stood := { row := configsHalvesUptoRow, standIns := [], harness := (true, "0c64a0d1f17d297727ae6c4909af7cf3bab9b10693b6e5e95a904fc70a14f618"), looks := false }, kinds := [], alts := [], laidByText := true, laidKinds := [.data], laidTests := true, laidLooks := .later }
def ConfigsHalvesUptoCardSaid : Prop := Claim7.holds Tryd.pinned (.plain (OpenSpec.upto configsHalvesSpec)) configsHalvesUptoCard

/-- THE SECOND FORM's CARD OF 'sennitlaw10.WindowsOver'. -/
def windowsOverUptoCard : Claim7 := { stood := { row := windowsOverUptoRow, standIns := [], harness := (true, "0c64a0d1f17d297727ae6c4909af7cf3bab9b10693b6e5e95a904fc70a14f618"), looks := false }, kinds := [], alts := [], laidByText := true, laidKinds := [.data, .data], laidTests := true, laidLooks := .later }
def WindowsOverUptoCardSaid : Prop := Claim7.holds Tryd.pinned (.plain (OpenSpec.upto windowsOverSpec)) windowsOverUptoCard

/-- THE SECOND FORM's CARD OF 'sennitlaw10.WindowsOf'. -/
def windowsOfUptoCard : Claim7 := { stood := { row := windowsOfUptoRow, standIns := [], harness := (true, "0c64a0d1f17d297727ae6c4909af7cf3bab9b10693b6e5e95a904fc70a14f618"), looks := false }, kinds := [], alts := [], laidByText := true, laidKinds := [.data, .data], laidTests := true, laidLooks := .later }
def WindowsOfUptoCardSaid : Prop := Claim7.holds Tryd.pinned (.plain (OpenSpec.upto windowsOfSpec)) windowsOfUptoCard

/-- THE SECOND FORM's CARD OF 'sennitlaw10.WindowsGuards'. -/
def windowsGuardsUptoCard : Claim7 := { stood := { row := windowsGuardsUptoRow, standIns := [], harness := (true, "0c64a0d1f17d297727ae6c4909af7cf3bab9b10693b6e5e95a904fc70a14f618"), looks := false }, kinds := [], alts := [], laidByText := true, laidKinds := [.data, .data], laidTests := true, laidLooks := .later }
def WindowsGuardsUptoCardSaid : Prop := Claim7.holds Tryd.pinned (.plain (OpenSpec.upto windowsGuardsSpec)) windowsGuardsUptoCard

/-- THE SECOND FORM's CARD OF 'sennitlaw10.WindowsMeet'. -/
def windowsMeetUptoCard : Claim7 := { stood := { row := windowsMeetUptoRow, standIns := [], harness := (true, "0c64a0d1f17d297727ae6c4909af7cf3bab9b10693b6e5e95a904fc70a14f618"), looks := false }, kinds := [], alts := [], laidByText := true, laidKinds := [.data, .data], laidTests := true, laidLooks := .later }
def WindowsMeetUptoCardSaid : Prop := Claim7.holds Tryd.pinned (.plain (OpenSpec.upto windowsMeetSpec)) windowsMeetUptoCard

/-- THE SECOND FORM's CARD OF 'sennitlaw06.ClocksOf'. -/
def clocksOfUptoCard : Claim7 := { stood := { row := clocksOfUptoRow, standIns := [], harness := (true, "0c64a0d1f17d297727ae6c4909af7cf3bab9b10693b6e5e95a904fc70a14f618"), looks := false }, kinds := [], alts := [], laidByText := true, laidKinds := [.data], laidTests := true, laidLooks := .later }
def ClocksOfUptoCardSaid : Prop := Claim7.holds Tryd.pinned (.plain (OpenSpec.upto clocksOfSpec)) clocksOfUptoCard

/-- THE SECOND FORM's CARD OF 'sennitlaw06.ClocksBack'. -/
def clocksBackUptoCard : Claim7 := { stood := { row := clocksBackUptoRow, standIns := [], harness := (true, "0c64a0d1f17d297727ae6c4909af7cf3bab9b10693b6e5e95a904fc70a14f618"), looks := false }, kinds := [], alts := [], laidByText := true, laidKinds := [.data], laidTests := true, laidLooks := .later }
def ClocksBackUptoCardSaid : Prop := Claim7.holds Tryd.pinned (.plain (OpenSpec.upto clocksBackSpec)) clocksBackUptoCard
end Rows
end Go.Proofs.YtgfmjbfjodidpaaDoor
