/-
  DERIVED. GIVEN WITH THE SEED: THE CARDS: each row of YtpfkhlfkcmgdlaaDoorRows.lean that lists a variable, with what it lists TIED to the program's text (the seventh form; the later family's looks); each row that meets fmt, with fmt's text TOLD by the authors' own Lean function (tested against real Go, not proved from fmt's source: count such statements apart). THE CARD IS WHAT COUNTS. Prove the row's statement (the work); the ties are given (YtpfkhlfkcmgdlaaDoorTie.lean); close each card by the builder's one call (the guide's Derived/Test/ToyasCard.lean, 'card_holds'). Laid BY PROGRAM, IN A SANDBOX (cutbox-door.mjs). By AI agents, Wed Nov 11 2026. No macro, syntax, notation, axiom, sorry.
-/
import Derived.Test.YtpfkhlfkcmgdlaaDoorRows
import GoSem.ClaimSeven
namespace Go.Proofs.YtpfkhlfkcmgdlaaDoor
namespace Rows

/-- THE TIED CARD OF 'sennitlaw10.WindowsVoid'. -/
def windowsVoidCard : Claim7 := { stood := { row := windowsVoidRow, standIns := [], harness := (true, "ca124386327443298798ecf79ecaeaefe7f7f2ff677b67ad22f0c1680ab24195"), looks := false }, kinds := [], alts := [], laidByText := true, laidKinds := [.data, .data], laidTests := true, laidLooks := .later }
def WindowsVoidCardSaid : Prop := Claim7.holds Tryd.pinned (.plain (OpenSpec.ofChange windowsVoidSpec)) windowsVoidCard

/-- THE TIED CARD OF 'sennitlaw19.HostsOffer'. -/
def hostsOfferCard : Claim7 := { stood := { row := hostsOfferRow, standIns := [], harness := (true, "ca124386327443298798ecf79ecaeaefe7f7f2ff677b67ad22f0c1680ab24195"), looks := false }, kinds := [], alts := [], laidByText := true, laidKinds := [.data], laidTests := true, laidLooks := .later }
def HostsOfferCardSaid : Prop := Claim7.holds Tryd.pinned (.plain (OpenSpec.ofChange hostsOfferSpec)) hostsOfferCard

/-- THE TIED CARD OF 'sennitlaw19.HostsBox'. -/
def hostsBoxCard : Claim7 := { stood := { row := hostsBoxRow, standIns := [], harness := (true, "ca124386327443298798ecf79ecaeaefe7f7f2ff677b67ad22f0c1680ab24195"), looks := false }, kinds := [], alts := [], laidByText := true, laidKinds := [.data], laidTests := true, laidLooks := .later }
def HostsBoxCardSaid : Prop := Claim7.holds Tryd.pinned (.plain (OpenSpec.ofChange hostsBoxSpec)) hostsBoxCard

/-- THE TIED CARD OF 'sennitlaw19.HostsVoid'. -/
def hostsVoidCard : Claim7 := { stood := { row := hostsVoidRow, standIns := [], harness := (true, "ca124386327443298798ecf79ecaeaefe7f7f2ff677b67ad22f0c1680ab24195"), looks := false }, kinds := [], alts := [], laidByText := true, laidKinds := [.data], laidTests := true, laidLooks := .later }
def HostsVoidCardSaid : Prop := Claim7.holds Tryd.pinned (.plain (OpenSpec.ofChange hostsVoidSpec)) hostsVoidCard

/-- THE TIED CARD OF 'sennitlaw19.HostsLast'. -/
def hostsLastCard : Claim7 := { stood := { row := hostsLastRow, standIns := [], harness := (true, "ca124386327443298798ecf79ecaeaefe7f7f2ff677b67ad22f0c1680ab24195"), looks := false }, kinds := [], alts := [], laidByText := true, laidKinds := [.data], laidTests := true, laidLooks := .later }
def HostsLastCardSaid : Prop := Claim7.holds Tryd.pinned (.plain (OpenSpec.ofChange hostsLastSpec)) hostsLastCard

/-- THE TIED CARD OF 'sennitlaw19.HostsAges'. -/
def hostsAgesCard : Claim7 := { stood := { row := hostsAgesRow, standIns := [], harness := (true, "ca124386327443298798ecf79ecaeaefe7f7f2ff677b67ad22f0c1680ab24195"), looks := false }, kinds := [], alts := [], laidByText := true, laidKinds := [.data], laidTests := true, laidLooks := .later }
def HostsAgesCardSaid : Prop := Claim7.holds Tryd.pinned (.plain (OpenSpec.ofChange hostsAgesSpec)) hostsAgesCard

/-- THE TIED CARD OF 'sennitlaw06.ClocksVoid'. -/
def clocksVoidCard : Claim7 := { stood := { row := clocksVoidRow, standIns := [], harness := (true, "ca124386327443298798ecf79ecaeaefe7f7f2ff677b67ad22f0c1680ab24195"), looks := false }, kinds := [], alts := [], laidByText := true, laidKinds := [.data], laidTests := true, laidLooks := .later }
def ClocksVoidCardSaid : Prop := Claim7.holds Tryd.pinned (.plain (OpenSpec.ofChange clocksVoidSpec)) clocksVoidCard

/-- THE TIED CARD OF 'sennitlaw22.MembersOrder'. -/
def membersOrderCard : Claim7 := { stood := { row := membersOrderRow, standIns := [], harness := (true, "ca124386327443298798ecf79ecaeaefe7f7f2ff677b67ad22f0c1680ab24195"), looks := false }, kinds := [], alts := [], laidByText := true, laidKinds := [.data], laidTests := true, laidLooks := .later }
def MembersOrderCardSaid : Prop := Claim7.holds Tryd.pinned (.plain (OpenSpec.ofChange membersOrderSpec)) membersOrderCard

/-- THE SECOND FORM's CARD OF 'sennitlaw10.WindowsVoid'. -/
def windowsVoidUptoCard : Claim7 := { stood := { row := windowsVoidUptoRow, standIns := [], harness := (true, "ca124386327443298798ecf79ecaeaefe7f7f2ff677b67ad22f0c1680ab24195"), looks := false }, kinds := [], alts := [], laidByText := true, laidKinds := [.data, .data], laidTests := true, laidLooks := .later }
def WindowsVoidUptoCardSaid : Prop := Claim7.holds Tryd.pinned (.plain (OpenSpec.upto windowsVoidSpec)) windowsVoidUptoCard

/-- THE SECOND FORM's CARD OF 'sennitlaw19.HostsOffer'. -/
def hostsOfferUptoCard : Claim7 := { stood := { row := hostsOfferUptoRow, standIns := [], harness := (true, "ca124386327443298798ecf79ecaeaefe7f7f2ff677b67ad22f0c1680ab24195"), looks := false }, kinds := [], alts := [], laidByText := true, laidKinds := [.data], laidTests := true, laidLooks := .later }
def HostsOfferUptoCardSaid : Prop := Claim7.holds Tryd.pinned (.plain (OpenSpec.upto hostsOfferSpec)) hostsOfferUptoCard

/-- THE SECOND FORM's CARD OF 'sennitlaw19.HostsBox'. -/
def hostsBoxUptoCard : Claim7 := { stood := { row := hostsBoxUptoRow, standIns := [], harness := (true, "ca124386327443298798ecf79ecaeaefe7f7f2ff677b67ad22f0c1680ab24195"), looks := false }, kinds := [], alts := [], laidByText := true, laidKinds := [.data], laidTests := true, laidLooks := .later }
def HostsBoxUptoCardSaid : Prop := Claim7.holds Tryd.pinned (.plain (OpenSpec.upto hostsBoxSpec)) hostsBoxUptoCard

/-- THE SECOND FORM's CARD OF 'sennitlaw19.HostsVoid'. -/
def hostsVoidUptoCard : Claim7 := { stood := { row := hostsVoidUptoRow, standIns := [], harness := (true, "ca124386327443298798ecf79ecaeaefe7f7f2ff677b67ad22f0c1680ab24195"), looks := false }, kinds := [], alts := [], laidByText := true, laidKinds := [.data], laidTests := true, laidLooks := .later }
def HostsVoidUptoCardSaid : Prop := Claim7.holds Tryd.pinned (.plain (OpenSpec.upto hostsVoidSpec)) hostsVoidUptoCard

/-- THE SECOND FORM's CARD OF 'sennitlaw19.HostsLast'. -/
def hostsLastUptoCard : Claim7 := { stood := { row := hostsLastUptoRow, standIns := [], harness := (true, "ca124386327443298798ecf79ecaeaefe7f7f2ff677b67ad22f0c1680ab24195"), looks := false }, kinds := [], alts := [], laidByText := true, laidKinds := [.data], laidTests := true, laidLooks := .later }
def HostsLastUptoCardSaid : Prop := Claim7.holds Tryd.pinned (.plain (OpenSpec.upto hostsLastSpec)) hostsLastUptoCard

/-- THE SECOND FORM's CARD OF 'sennitlaw19.HostsAges'. -/
def hostsAgesUptoCard : Claim7 := { stood := { row := hostsAgesUptoRow, standIns := [], harness := (true, "ca124386327443298798ecf79ecaeaefe7f7f2ff677b67ad22f0c1680ab24195"), looks := false }, kinds := [], alts := [], laidByText := true, laidKinds := [.data], laidTests := true, laidLooks := .later }
def HostsAgesUptoCardSaid : Prop := Claim7.holds Tryd.pinned (.plain (OpenSpec.upto hostsAgesSpec)) hostsAgesUptoCard

/-- THE SECOND FORM's CARD OF 'sennitlaw06.ClocksVoid'. -/
def clocksVoidUptoCard : Claim7 := { stood := { row := clocksVoidUptoRow, standIns := [], harness := (true, "ca124386327443298798ecf79ecaeaefe7f7f2ff677b67ad22f0c1680ab24195"), looks := false }, kinds := [], alts := [], laidByText := true, laidKinds := [.data], laidTests := true, laidLooks := .later }
def ClocksVoidUptoCardSaid : Prop := Claim7.holds Tryd.pinned (.plain (OpenSpec.upto clocksVoidSpec)) clocksVoidUptoCard

/-- THE SECOND FORM's CARD OF 'sennitlaw22.MembersOrder'. -/
def membersOrderUptoCard : Claim7 := { stood := { row := membersOrderUptoRow, standIns := [], harness := (true, "ca124386327443298798ecf79ecaeaefe7f7f2ff677b67ad22f0c1680ab24195"), looks := false }, kinds := [], alts := [], laidByText := true, laidKinds := [.data], laidTests := true, laidLooks := .later }
def MembersOrderUptoCardSaid : Prop := Claim7.holds Tryd.pinned (.plain (OpenSpec.upto membersOrderSpec)) membersOrderUptoCard
end Rows
end Go.Proofs.YtpfkhlfkcmgdlaaDoor
