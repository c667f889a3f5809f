/-
  DERIVED. GIVEN WITH THE SEED: THE CARDS: each row of YtfohlkhfnogmdaaGreatDoorRows.lean that lists a variable, with what it lists TIED to the program's text (the seventh form; the later family's looks); each row that meets fmt, with fmt's text TOLD by the authors' own Lean function (tested against real Go, not proved from fmt's source: count such statements apart). THE CARD IS WHAT COUNTS. Prove the row's statement (the work); the ties are given (YtfohlkhfnogmdaaGreatDoorTie.lean); close each card by the builder's one call (the guide's Derived/Test/ToyasCard.lean, 'card_holds'). Laid BY PROGRAM, IN A SANDBOX (cutbox-door.mjs). By AI agents, Wed Nov 11 2026. No macro, syntax, notation, axiom, sorry.
-/
import Derived.Test.YtfohlkhfnogmdaaGreatDoorRows
import GoSem.ClaimSeven
namespace Go.Proofs.YtfohlkhfnogmdaaGreatDoor
namespace Rows

/-- THE TIED CARD OF 'sennitlaw04.ConfigsAsk'. -/
def configsAskCard : Claim7 := { stood := { row := configsAskRow, standIns := [], harness := (true, "eb6b246ed679f832223ea8d356803057d0dd42207ffa6f4b931c438f0f4382aa"), looks := false }, kinds := [], alts := [], laidByText := true, laidKinds := [.data], laidTests := true, laidLooks := .later }
def ConfigsAskCardSaid : Prop := Claim7.holds Tryz.pinned (.plain (OpenSpec.ofChange configsAskSpec)) configsAskCard

/-- THE TIED CARD OF 'sennitlaw28.ModelsKeep'. -/
def modelsKeepCard : Claim7 := { stood := { row := modelsKeepRow, standIns := [], harness := (true, "eb6b246ed679f832223ea8d356803057d0dd42207ffa6f4b931c438f0f4382aa"), looks := false }, kinds := [], alts := [], laidByText := true, laidKinds := [.data, .data], laidTests := true, laidLooks := .later }
def ModelsKeepCardSaid : Prop := Claim7.holds Tryz.pinned (.plain (OpenSpec.ofChange modelsKeepSpec)) modelsKeepCard

/-- THE TIED CARD OF 'sennitlaw28.ModelsPlay'. -/
def modelsPlayCard : Claim7 := { stood := { row := modelsPlayRow, standIns := [], harness := (true, "eb6b246ed679f832223ea8d356803057d0dd42207ffa6f4b931c438f0f4382aa"), looks := false }, kinds := [], alts := [], laidByText := true, laidKinds := [.data, .data], laidTests := true, laidLooks := .later }
def ModelsPlayCardSaid : Prop := Claim7.holds Tryz.pinned (.plain (OpenSpec.ofChange modelsPlaySpec)) modelsPlayCard

/-- THE TIED CARD OF 'sennitlaw27.CrewsBound'. -/
def crewsBoundCard : Claim7 := { stood := { row := crewsBoundRow, standIns := [], harness := (true, "eb6b246ed679f832223ea8d356803057d0dd42207ffa6f4b931c438f0f4382aa"), looks := false }, kinds := [], alts := [], laidByText := true, laidKinds := [.data, .data], laidTests := true, laidLooks := .later }
def CrewsBoundCardSaid : Prop := Claim7.holds Tryz.pinned (.plain (OpenSpec.ofChange crewsBoundSpec)) crewsBoundCard

/-- THE SECOND FORM's CARD OF 'sennitlaw04.ConfigsAsk'. -/
def configsAskUptoCard : Claim7 := { stood := { row := configsAskUptoRow, standIns := [], harness := (true, "eb6b246ed679f832223ea8d356803057d0dd42207ffa6f4b931c438f0f4382aa"), looks := false }, kinds := [], alts := [], laidByText := true, laidKinds := [.data], laidTests := true, laidLooks := .later }
def ConfigsAskUptoCardSaid : Prop := Claim7.holds Tryz.pinned (.plain (OpenSpec.upto configsAskSpec)) configsAskUptoCard

/-- THE SECOND FORM's CARD OF 'sennitlaw28.ModelsKeep'. -/
def modelsKeepUptoCard : Claim7 := { stood := { row := modelsKeepUptoRow, standIns := [], harness := (true, "eb6b246ed679f832223ea8d356803057d0dd42207ffa6f4b931c438f0f4382aa"), looks := false }, kinds := [], alts := [], laidByText := true, laidKinds := [.data, .data], laidTests := true, laidLooks := .later }
def ModelsKeepUptoCardSaid : Prop := Claim7.holds Tryz.pinned (.plain (OpenSpec.upto modelsKeepSpec)) modelsKeepUptoCard

/-- THE SECOND FORM's CARD OF 'sennitlaw28.ModelsPlay'. -/
def modelsPlayUptoCard : Claim7 := { stood := { row := modelsPlayUptoRow, standIns := [], harness := (true, "eb6b246ed679f832223ea8d356803057d0dd42207ffa6f4b931c438f0f4382aa"), looks := false }, kinds := [], alts := [], laidByText := true, laidKinds := [.data, .data], laidTests := true, laidLooks := .later }
def ModelsPlayUptoCardSaid : Prop := Claim7.holds Tryz.pinned (.plain (OpenSpec.upto modelsPlaySpec)) modelsPlayUptoCard

/-- THE SECOND FORM's CARD OF 'sennitlaw27.CrewsBound'. -/
def crewsBoundUptoCard : Claim7 := { stood := { row := crewsBoundUptoRow, standIns := [], harness := (true, "eb6b246ed679f832223ea8d356803057d0dd42207ffa6f4b931c438f0f4382aa"), looks := false }, kinds := [], alts := [], laidByText := true, laidKinds := [.data, .data], laidTests := true, laidLooks := .later }
def CrewsBoundUptoCardSaid : Prop := Claim7.holds Tryz.pinned (.plain (OpenSpec.upto crewsBoundSpec)) crewsBoundUptoCard
end Rows
end Go.Proofs.YtfohlkhfnogmdaaGreatDoor
