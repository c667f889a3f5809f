/-
  DERIVED. GIVEN WITH THE SEED: THE CARDS: each row of YtpgaplcdbbnblaaGreatDoorRows.lean that lists a variable, with what it lists TIED to the program's text (the seventh form; the later family's looks); each row that meets fmt, with fmt's text TOLD by the authors' own Lean function (tested against real Go, not proved from fmt's source: count such statements apart). THE CARD IS WHAT COUNTS. Prove the row's statement (the work); the ties are given (YtpgaplcdbbnblaaGreatDoorTie.lean); close each card by the builder's one call (the guide's Derived/Test/ToyasCard.lean, 'card_holds'). Laid BY PROGRAM, IN A SANDBOX (cutbox-door.mjs). By AI agents, Wed Nov 11 2026. No macro, syntax, notation, axiom, sorry.
-/
import Derived.Test.YtpgaplcdbbnblaaGreatDoorRows
import GoSem.ClaimSeven
namespace Go.Proofs.YtpgaplcdbbnblaaGreatDoor
namespace Rows

/-- THE TIED CARD OF 'sennitlaw22.MembersView'. -/
def membersViewCard : Claim7 := { stood := { row := membersViewRow, standIns := [], harness := (true, "ff40fff4d2289b47425bbe6f4571e952ba3917c893dd8b7a1f1f45a97c27d0b2"), looks := true }, kinds := [], alts := [], laidByText := true, laidKinds := [.data], laidTests := true, laidLooks := .later }
def MembersViewCardSaid : Prop := Claim7.holds Tryz.pinned (.plain (OpenSpec.ofChange membersViewSpec)) membersViewCard

/-- THE TIED CARD OF 'sennitlaw11.SendersOut'. -/
def sendersOutCard : Claim7 := { stood := { row := sendersOutRow, standIns := [], harness := (true, "ff40fff4d2289b47425bbe6f4571e952ba3917c893dd8b7a1f1f45a97c27d0b2"), looks := true }, kinds := [], alts := [], laidByText := true, laidKinds := [.data, .data], laidTests := true, laidLooks := .later }
def SendersOutCardSaid : Prop := Claim7.holds Tryz.pinned (.plain (OpenSpec.ofChange sendersOutSpec)) sendersOutCard

/-- THE TIED CARD OF 'sennitlaw11.SendersVoid'. -/
def sendersVoidCard : Claim7 := { stood := { row := sendersVoidRow, standIns := [], harness := (true, "ff40fff4d2289b47425bbe6f4571e952ba3917c893dd8b7a1f1f45a97c27d0b2"), looks := true }, kinds := [], alts := [], laidByText := true, laidKinds := [.data, .data], laidTests := true, laidLooks := .later }
def SendersVoidCardSaid : Prop := Claim7.holds Tryz.pinned (.plain (OpenSpec.ofChange sendersVoidSpec)) sendersVoidCard

/-- THE TIED CARD OF 'sennitlaw11.SendersUnlike'. -/
def sendersUnlikeCard : Claim7 := { stood := { row := sendersUnlikeRow, standIns := [], harness := (true, "ff40fff4d2289b47425bbe6f4571e952ba3917c893dd8b7a1f1f45a97c27d0b2"), looks := true }, kinds := [], alts := [], laidByText := true, laidKinds := [.data, .data], laidTests := true, laidLooks := .later }
def SendersUnlikeCardSaid : Prop := Claim7.holds Tryz.pinned (.plain (OpenSpec.ofChange sendersUnlikeSpec)) sendersUnlikeCard

/-- THE TIED CARD OF 'sennitlaw23.HealthsBlame'. -/
def healthsBlameCard : Claim7 := { stood := { row := healthsBlameRow, standIns := [], harness := (true, "ff40fff4d2289b47425bbe6f4571e952ba3917c893dd8b7a1f1f45a97c27d0b2"), looks := true }, kinds := [], alts := [], laidByText := true, laidKinds := [.data], laidTests := true, laidLooks := .later }
def HealthsBlameCardSaid : Prop := Claim7.holds Tryz.pinned (.plain (OpenSpec.ofChange healthsBlameSpec)) healthsBlameCard

/-- THE TIED CARD OF 'sennitlaw12.FlowsVoid'. -/
def flowsVoidCard : Claim7 := { stood := { row := flowsVoidRow, standIns := [], harness := (true, "ff40fff4d2289b47425bbe6f4571e952ba3917c893dd8b7a1f1f45a97c27d0b2"), looks := true }, kinds := [], alts := [], laidByText := true, laidKinds := [.data, .data], laidTests := true, laidLooks := .later }
def FlowsVoidCardSaid : Prop := Claim7.holds Tryz.pinned (.plain (OpenSpec.ofChange flowsVoidSpec)) flowsVoidCard

/-- THE TIED CARD OF 'sennitlaw28.ModelsKeep'. -/
def modelsKeepCard : Claim7 := { stood := { row := modelsKeepRow, standIns := [], harness := (true, "ff40fff4d2289b47425bbe6f4571e952ba3917c893dd8b7a1f1f45a97c27d0b2"), looks := true }, kinds := [], alts := [], laidByText := true, laidKinds := [.data, .data], laidTests := true, laidLooks := .later }
def ModelsKeepCardSaid : Prop := Claim7.holds Tryz.pinned (.plain (OpenSpec.ofChange modelsKeepSpec)) modelsKeepCard

/-- THE TIED CARD OF 'sennitlaw27.CrewsBound'. -/
def crewsBoundCard : Claim7 := { stood := { row := crewsBoundRow, standIns := [], harness := (true, "ff40fff4d2289b47425bbe6f4571e952ba3917c893dd8b7a1f1f45a97c27d0b2"), looks := true }, kinds := [], alts := [], laidByText := true, laidKinds := [.data, .data], laidTests := true, laidLooks := .later }
def CrewsBoundCardSaid : Prop := Claim7.holds Tryz.pinned (.plain (OpenSpec.ofChange crewsBoundSpec)) crewsBoundCard

/-- THE TIED CARD OF 'sennitlaw27.CrewsEdges'. -/
def crewsEdgesCard : Claim7 := { stood := { row := crewsEdgesRow, standIns := [], harness := (true, "ff40fff4d2289b47425bbe6f4571e952ba3917c893dd8b7a1f1f45a97c27d0b2"), looks := true }, kinds := [], alts := [], laidByText := true, laidKinds := [.data, .data], laidTests := true, laidLooks := .later }
def CrewsEdgesCardSaid : Prop := Claim7.holds Tryz.pinned (.plain (OpenSpec.ofChange crewsEdgesSpec)) crewsEdgesCard

/-- THE TIED CARD OF 'sennitlaw27.CrewsVoid'. -/
def crewsVoidCard : Claim7 := { stood := { row := crewsVoidRow, standIns := [], harness := (true, "ff40fff4d2289b47425bbe6f4571e952ba3917c893dd8b7a1f1f45a97c27d0b2"), looks := true }, kinds := [], alts := [], laidByText := true, laidKinds := [.data, .data], laidTests := true, laidLooks := .later }
def CrewsVoidCardSaid : Prop := Claim7.holds Tryz.pinned (.plain (OpenSpec.ofChange crewsVoidSpec)) crewsVoidCard

/-- THE SECOND FORM's CARD OF 'sennitlaw22.MembersView'. -/
def membersViewUptoCard : Claim7 := { stood := { row := membersViewUptoRow, standIns := [], harness := (true, "ff40fff4d2289b47425bbe6f4571e952ba3917c893dd8b7a1f1f45a97c27d0b2"), looks := true }, kinds := [], alts := [], laidByText := true, laidKinds := [.data], laidTests := true, laidLooks := .later }
def MembersViewUptoCardSaid : Prop := Claim7.holds Tryz.pinned (.plain (OpenSpec.upto membersViewSpec)) membersViewUptoCard

/-- THE SECOND FORM's CARD OF 'sennitlaw11.SendersOut'. -/
def sendersOutUptoCard : Claim7 := { stood := { row := sendersOutUptoRow, standIns := [], harness := (true, "ff40fff4d2289b47425bbe6f4571e952ba3917c893dd8b7a1f1f45a97c27d0b2"), looks := true }, kinds := [], alts := [], laidByText := true, laidKinds := [.data, .data], laidTests := true, laidLooks := .later }
def SendersOutUptoCardSaid : Prop := Claim7.holds Tryz.pinned (.plain (OpenSpec.upto sendersOutSpec)) sendersOutUptoCard

/-- THE SECOND FORM's CARD OF 'sennitlaw11.SendersVoid'. -/
def sendersVoidUptoCard : Claim7 := { stood := { row := sendersVoidUptoRow, standIns := [], harness := (true, "ff40fff4d2289b47425bbe6f4571e952ba3917c893dd8b7a1f1f45a97c27d0b2"), looks := true }, kinds := [], alts := [], laidByText := true, laidKinds := [.data, .data], laidTests := true, laidLooks := .later }
def SendersVoidUptoCardSaid : Prop := Claim7.holds Tryz.pinned (.plain (OpenSpec.upto sendersVoidSpec)) sendersVoidUptoCard

/-- THE SECOND FORM's CARD OF 'sennitlaw11.SendersUnlike'. -/
def sendersUnlikeUptoCard : Claim7 := { stood := { row := sendersUnlikeUptoRow, standIns := [], harness := (true, "ff40fff4d2289b47425bbe6f4571e952ba3917c893dd8b7a1f1f45a97c27d0b2"), looks := true }, kinds := [], alts := [], laidByText := true, laidKinds := [.data, .data], laidTests := true, laidLooks := .later }
def SendersUnlikeUptoCardSaid : Prop := Claim7.holds Tryz.pinned (.plain (OpenSpec.upto sendersUnlikeSpec)) sendersUnlikeUptoCard

/-- THE SECOND FORM's CARD OF 'sennitlaw23.HealthsBlame'. -/
def healthsBlameUptoCard : Claim7 := { stood := { row := healthsBlameUptoRow, standIns := [], harness := (true, "ff40fff4d2289b47425bbe6f4571e952ba3917c893dd8b7a1f1f45a97c27d0b2"), looks := true }, kinds := [], alts := [], laidByText := true, laidKinds := [.data], laidTests := true, laidLooks := .later }
def HealthsBlameUptoCardSaid : Prop := Claim7.holds Tryz.pinned (.plain (OpenSpec.upto healthsBlameSpec)) healthsBlameUptoCard

/-- THE SECOND FORM's CARD OF 'sennitlaw12.FlowsVoid'. -/
def flowsVoidUptoCard : Claim7 := { stood := { row := flowsVoidUptoRow, standIns := [], harness := (true, "ff40fff4d2289b47425bbe6f4571e952ba3917c893dd8b7a1f1f45a97c27d0b2"), looks := true }, kinds := [], alts := [], laidByText := true, laidKinds := [.data, .data], laidTests := true, laidLooks := .later }
def FlowsVoidUptoCardSaid : Prop := Claim7.holds Tryz.pinned (.plain (OpenSpec.upto flowsVoidSpec)) flowsVoidUptoCard

/-- THE SECOND FORM's CARD OF 'sennitlaw28.ModelsKeep'. -/
def modelsKeepUptoCard : Claim7 := { stood := { row := modelsKeepUptoRow, standIns := [], harness := (true, "ff40fff4d2289b47425bbe6f4571e952ba3917c893dd8b7a1f1f45a97c27d0b2"), looks := true }, kinds := [], alts := [], laidByText := true, laidKinds := [.data, .data], laidTests := true, laidLooks := .later }
def ModelsKeepUptoCardSaid : Prop := Claim7.holds Tryz.pinned (.plain (OpenSpec.upto modelsKeepSpec)) modelsKeepUptoCard

/-- THE SECOND FORM's CARD OF 'sennitlaw27.CrewsBound'. -/
def crewsBoundUptoCard : Claim7 := { stood := { row := crewsBoundUptoRow, standIns := [], harness := (true, "ff40fff4d2289b47425bbe6f4571e952ba3917c893dd8b7a1f1f45a97c27d0b2"), looks := true }, kinds := [], alts := [], laidByText := true, laidKinds := [.data, .data], laidTests := true, laidLooks := .later }
def CrewsBoundUptoCardSaid : Prop := Claim7.holds Tryz.pinned (.plain (OpenSpec.upto crewsBoundSpec)) crewsBoundUptoCard

/-- THE SECOND FORM's CARD OF 'sennitlaw27.CrewsEdges'. -/
def crewsEdgesUptoCard : Claim7 := { stood := { row := crewsEdgesUptoRow, standIns := [], harness := (true, "ff40fff4d2289b47425bbe6f4571e952ba3917c893dd8b7a1f1f45a97c27d0b2"), looks := true }, kinds := [], alts := [], laidByText := true, laidKinds := [.data, .data], laidTests := true, laidLooks := .later }
def CrewsEdgesUptoCardSaid : Prop := Claim7.holds Tryz.pinned (.plain (OpenSpec.upto crewsEdgesSpec)) crewsEdgesUptoCard

/-- THE SECOND FORM's CARD OF 'sennitlaw27.CrewsVoid'. -/
def crewsVoidUptoCard : Claim7 := { stood := { row := crewsVoidUptoRow, standIns := [], harness := (true, "ff40fff4d2289b47425bbe6f4571e952ba3917c893dd8b7a1f1f45a97c27d0b2"), looks := true }, kinds := [], alts := [], laidByText := true, laidKinds := [.data, .data], laidTests := true, laidLooks := .later }
def CrewsVoidUptoCardSaid : Prop := Claim7.holds Tryz.pinned (.plain (OpenSpec.upto crewsVoidSpec)) crewsVoidUptoCard
end Rows
end Go.Proofs.YtpgaplcdbbnblaaGreatDoor
