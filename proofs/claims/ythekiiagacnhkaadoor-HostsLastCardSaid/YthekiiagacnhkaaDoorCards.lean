/-
  DERIVED. GIVEN WITH THE SEED: THE CARDS: each row of YthekiiagacnhkaaDoorRows.lean that lists a variable, with what it lists TIED to the program's text (the seventh form; the later family's looks); each row that meets fmt, with fmt's text TOLD by the authors' own Lean function (tested against real Go, not proved from fmt's source: count such statements apart). THE CARD IS WHAT COUNTS. Prove the row's statement (the work); the ties are given (YthekiiagacnhkaaDoorTie.lean); close each card by the builder's one call (the guide's Derived/Test/ToyasCard.lean, 'card_holds'). Laid BY PROGRAM, IN A SANDBOX (cutbox-door.mjs). By AI agents, Wed Nov 11 2026. No macro, syntax, notation, axiom, sorry.
-/
import Derived.Test.YthekiiagacnhkaaDoorRows
import GoSem.ClaimSeven
namespace Go.Proofs.YthekiiagacnhkaaDoor
namespace Rows

/-- THE TIED CARD OF 'sennitlaw04.ConfigsNew'. -/
def configsNewCard : Claim7 := { stood := { row := configsNewRow, standIns := [], harness := (true, "9aa2eb36beec8874cec29896696ad9b866c521ea77614caddb426773efc43567"), looks := false }, kinds := [], alts := [], laidByText := true, laidKinds := [.data], laidTests := true, laidLooks := .later }
def ConfigsNewCardSaid : Prop := Claim7.holds Tryd.pinned (.plain (OpenSpec.ofChange configsNewSpec)) configsNewCard

/-- THE TIED CARD OF 'sennitlaw04.ConfigsTurned'. -/
def configsTurnedCard : Claim7 := { stood := { row := configsTurnedRow, standIns := [], harness := (true, "9aa2eb36beec8874cec29896696ad9b866c521ea77614caddb426773efc43567"), looks := false }, kinds := [], alts := [], laidByText := true, laidKinds := [.data], laidTests := true, laidLooks := .later }
def ConfigsTurnedCardSaid : Prop := Claim7.holds Tryd.pinned (.plain (OpenSpec.ofChange configsTurnedSpec)) configsTurnedCard

/-- THE TIED CARD OF 'sennitlaw04.ConfigsEdges'. -/
def configsEdgesCard : Claim7 := { stood := { row := configsEdgesRow, standIns := [], harness := (true, "9aa2eb36beec8874cec29896696ad9b866c521ea77614caddb426773efc43567"), looks := false }, kinds := [], alts := [], laidByText := true, laidKinds := [.data], laidTests := true, laidLooks := .later }
def ConfigsEdgesCardSaid : Prop := Claim7.holds Tryd.pinned (.plain (OpenSpec.ofChange configsEdgesSpec)) configsEdgesCard

/-- THE TIED CARD OF 'sennitlaw22.MembersRun'. -/
def membersRunCard : Claim7 := { stood := { row := membersRunRow, standIns := [], harness := (true, "9aa2eb36beec8874cec29896696ad9b866c521ea77614caddb426773efc43567"), looks := false }, kinds := [], alts := [], laidByText := true, laidKinds := [.data], laidTests := true, laidLooks := .later }
def MembersRunCardSaid : Prop := Claim7.holds Tryd.pinned (.plain (OpenSpec.ofChange membersRunSpec)) membersRunCard

/-- THE TIED CARD OF 'sennitlaw19.HostsOffer'. -/
def hostsOfferCard : Claim7 := { stood := { row := hostsOfferRow, standIns := [], harness := (true, "9aa2eb36beec8874cec29896696ad9b866c521ea77614caddb426773efc43567"), looks := false }, kinds := [], alts := [], laidByText := true, laidKinds := [.data], laidTests := true, laidLooks := .later }
def HostsOfferCardSaid : Prop := Claim7.holds Tryd.pinned (.plain (OpenSpec.ofChange hostsOfferSpec)) hostsOfferCard

/-- THE TIED CARD OF 'sennitlaw19.HostsBox'. -/
def hostsBoxCard : Claim7 := { stood := { row := hostsBoxRow, standIns := [], harness := (true, "9aa2eb36beec8874cec29896696ad9b866c521ea77614caddb426773efc43567"), looks := false }, kinds := [], alts := [], laidByText := true, laidKinds := [.data], laidTests := true, laidLooks := .later }
def HostsBoxCardSaid : Prop := Claim7.holds Tryd.pinned (.plain (OpenSpec.ofChange hostsBoxSpec)) hostsBoxCard

/-- THE TIED CARD OF 'sennitlaw19.HostsLast'. -/
def hostsLastCard : Claim7 := { stood := { row := hostsLastRow, standIns := [], harness := (true, "9aa2eb36beec8874cec29896696ad9b866c521ea77614caddb426773efc43567"), looks := false }, kinds := [], alts := [], laidByText := true, laidKinds := [.data], laidTests := true, laidLooks := .later }
def HostsLastCardSaid : Prop := Claim7.holds Tryd.pinned (.plain (OpenSpec.ofChange hostsLastSpec)) hostsLastCard

/-- THE TIED CARD OF 'sennitlaw06.ClocksWhole'. -/
def clocksWholeCard : Claim7 := { stood := { row := clocksWholeRow, standIns := [], harness := (true, "9aa2eb36beec8874cec29896696ad9b866c521ea77614caddb426773efc43567"), looks := false }, kinds := [], alts := [], laidByText := true, laidKinds := [.data], laidTests := true, laidLooks := .later }
def ClocksWholeCardSaid : Prop := Claim7.holds Tryd.pinned (.plain (OpenSpec.ofChange clocksWholeSpec)) clocksWholeCard

/-- THE TIED CARD OF 'sennitlaw22.MembersOrder'. -/
def membersOrderCard : Claim7 := { stood := { row := membersOrderRow, standIns := [], harness := (true, "9aa2eb36beec8874cec29896696ad9b866c521ea77614caddb426773efc43567"), looks := false }, kinds := [], alts := [], laidByText := true, laidKinds := [.data], laidTests := true, laidLooks := .later }
def MembersOrderCardSaid : Prop := Claim7.holds Tryd.pinned (.plain (OpenSpec.ofChange membersOrderSpec)) membersOrderCard

/-- THE SECOND FORM's CARD OF 'sennitlaw04.ConfigsNew'. -/
def configsNewUptoCard : Claim7 := { stood := { row := configsNewUptoRow, standIns := [], harness := (true, "9aa2eb36beec8874cec29896696ad9b866c521ea77614caddb426773efc43567"), looks := false }, kinds := [], alts := [], laidByText := true, laidKinds := [.data], laidTests := true, laidLooks := .later }
def ConfigsNewUptoCardSaid : Prop := Claim7.holds Tryd.pinned (.plain (OpenSpec.upto configsNewSpec)) configsNewUptoCard

/-- THE SECOND FORM's CARD OF 'sennitlaw04.ConfigsTurned'. -/
def configsTurnedUptoCard : Claim7 := { stood := { row := configsTurnedUptoRow, standIns := [], harness := (true, "9aa2eb36beec8874cec29896696ad9b866c521ea77614caddb426773efc43567"), looks := false }, kinds := [], alts := [], laidByText := true, laidKinds := [.data], laidTests := true, laidLooks := .later }
def ConfigsTurnedUptoCardSaid : Prop := Claim7.holds Tryd.pinned (.plain (OpenSpec.upto configsTurnedSpec)) configsTurnedUptoCard

/-- THE SECOND FORM's CARD OF 'sennitlaw04.ConfigsEdges'. -/
def configsEdgesUptoCard : Claim7 := { stood := { row := configsEdgesUptoRow, standIns := [], harness := (true, "9aa2eb36beec8874cec29896696ad9b866c521ea77614caddb426773efc43567"), looks := false }, kinds := [], alts := [], laidByText := true, laidKinds := [.data], laidTests := true, laidLooks := .later }
def ConfigsEdgesUptoCardSaid : Prop := Claim7.holds Tryd.pinned (.plain (OpenSpec.upto configsEdgesSpec)) configsEdgesUptoCard

/-- THE SECOND FORM's CARD OF 'sennitlaw22.MembersRun'. -/
def membersRunUptoCard : Claim7 := { stood := { row := membersRunUptoRow, standIns := [], harness := (true, "9aa2eb36beec8874cec29896696ad9b866c521ea77614caddb426773efc43567"), looks := false }, kinds := [], alts := [], laidByText := true, laidKinds := [.data], laidTests := true, laidLooks := .later }
def MembersRunUptoCardSaid : Prop := Claim7.holds Tryd.pinned (.plain (OpenSpec.upto membersRunSpec)) membersRunUptoCard

/-- THE SECOND FORM's CARD OF 'sennitlaw19.HostsOffer'. -/
def hostsOfferUptoCard : Claim7 := { stood := { row := hostsOfferUptoRow, standIns := [], harness := (true, "9aa2eb36beec8874cec29896696ad9b866c521ea77614caddb426773efc43567"), looks := false }, kinds := [], alts := [], laidByText := true, laidKinds := [.data], laidTests := true, laidLooks := .later }
def HostsOfferUptoCardSaid : Prop := Claim7.holds Tryd.pinned (.plain (OpenSpec.upto hostsOfferSpec)) hostsOfferUptoCard

/-- THE SECOND FORM's CARD OF 'sennitlaw19.HostsBox'. -/
def hostsBoxUptoCard : Claim7 := { stood := { row := hostsBoxUptoRow, standIns := [], harness := (true, "9aa2eb36beec8874cec29896696ad9b866c521ea77614caddb426773efc43567"), looks := false }, kinds := [], alts := [], laidByText := true, laidKinds := [.data], laidTests := true, laidLooks := .later }
def HostsBoxUptoCardSaid : Prop := Claim7.holds Tryd.pinned (.plain (OpenSpec.upto hostsBoxSpec)) hostsBoxUptoCard

/-- THE SECOND FORM's CARD OF 'sennitlaw19.HostsLast'. -/
def hostsLastUptoCard : Claim7 := { stood := { row := hostsLastUptoRow, standIns := [], harness := (true, "9aa2eb36beec8874cec29896696ad9b866c521ea77614caddb426773efc43567"), looks := false }, kinds := [], alts := [], laidByText := true, laidKinds := [.data], laidTests := true, laidLooks := .later }
def HostsLastUptoCardSaid : Prop := Claim7.holds Tryd.pinned (.plain (OpenSpec.upto hostsLastSpec)) hostsLastUptoCard

/-- THE SECOND FORM's CARD OF 'sennitlaw06.ClocksWhole'. -/
def clocksWholeUptoCard : Claim7 := { stood := { row := clocksWholeUptoRow, standIns := [], harness := (true, "9aa2eb36beec8874cec29896696ad9b866c521ea77614caddb426773efc43567"), looks := false }, kinds := [], alts := [], laidByText := true, laidKinds := [.data], laidTests := true, laidLooks := .later }
def ClocksWholeUptoCardSaid : Prop := Claim7.holds Tryd.pinned (.plain (OpenSpec.upto clocksWholeSpec)) clocksWholeUptoCard

/-- THE SECOND FORM's CARD OF 'sennitlaw22.MembersOrder'. -/
def membersOrderUptoCard : Claim7 := { stood := { row := membersOrderUptoRow, standIns := [], harness := (true, "9aa2eb36beec8874cec29896696ad9b866c521ea77614caddb426773efc43567"), looks := false }, kinds := [], alts := [], laidByText := true, laidKinds := [.data], laidTests := true, laidLooks := .later }
def MembersOrderUptoCardSaid : Prop := Claim7.holds Tryd.pinned (.plain (OpenSpec.upto membersOrderSpec)) membersOrderUptoCard
end Rows
end Go.Proofs.YthekiiagacnhkaaDoor
