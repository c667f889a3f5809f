/-
  DERIVED. GIVEN WITH THE SEED: THE CARDS: each row of YtgdoojlfbebaaaaDoorRows.lean that lists a variable, with what it lists TIED to the program's text (the seventh form; the later family's looks); each row that meets fmt, with fmt's text TOLD by the authors' own Lean function (tested against real Go, not proved from fmt's source: count such statements apart). THE CARD IS WHAT COUNTS. Prove the row's statement (the work); the ties are given (YtgdoojlfbebaaaaDoorTie.lean); close each card by the builder's one call (the guide's Derived/Test/ToyasCard.lean, 'card_holds'). Laid BY PROGRAM, IN A SANDBOX (cutbox-door.mjs). By AI agents, Wed Nov 11 2026. No macro, syntax, notation, axiom, sorry.
-/
import Derived.Test.YtgdoojlfbebaaaaDoorRows
import GoSem.ClaimSeven
namespace Go.Proofs.YtgdoojlfbebaaaaDoor
namespace Rows

/-- THE TIED CARD OF 'sennitlaw04.ConfigsTurned'. -/
def configsTurnedCard : Claim7 := { stood := { row := configsTurnedRow, standIns := [], harness := (true, "fb32e43a99bc9e68e6c59335e076909a898b337a92c079b9c2f52576d7cb62ce"), looks := false }, kinds := [], alts := [], laidByText := true, laidKinds := [.data], laidTests := true, laidLooks := .later }
def ConfigsTurnedCardSaid : Prop := Claim7.holds Tryd.pinned (.plain (OpenSpec.ofChange configsTurnedSpec)) configsTurnedCard

/-- THE TIED CARD OF 'sennitlaw19.HostsBox'. -/
def hostsBoxCard : Claim7 := { stood := { row := hostsBoxRow, standIns := [], harness := (true, "fb32e43a99bc9e68e6c59335e076909a898b337a92c079b9c2f52576d7cb62ce"), looks := false }, kinds := [], alts := [], laidByText := true, laidKinds := [.data], laidTests := true, laidLooks := .later }
def HostsBoxCardSaid : Prop := Claim7.holds Tryd.pinned (.plain (OpenSpec.ofChange hostsBoxSpec)) hostsBoxCard

/-- THE TIED CARD OF 'sennitlaw22.MembersBase'. -/
def membersBaseCard : Claim7 := { stood := { row := membersBaseRow, standIns := [], harness := (true, "fb32e43a99bc9e68e6c59335e076909a898b337a92c079b9c2f52576d7cb62ce"), looks := false }, kinds := [], alts := [], laidByText := true, laidKinds := [.data], laidTests := true, laidLooks := .later }
def MembersBaseCardSaid : Prop := Claim7.holds Tryd.pinned (.plain (OpenSpec.ofChange membersBaseSpec)) membersBaseCard

/-- THE TIED CARD OF 'sennitlaw22.MembersAgree'. -/
def membersAgreeCard : Claim7 := { stood := { row := membersAgreeRow, standIns := [], harness := (true, "fb32e43a99bc9e68e6c59335e076909a898b337a92c079b9c2f52576d7cb62ce"), looks := false }, kinds := [], alts := [], laidByText := true, laidKinds := [.data], laidTests := true, laidLooks := .later }
def MembersAgreeCardSaid : Prop := Claim7.holds Tryd.pinned (.plain (OpenSpec.ofChange membersAgreeSpec)) membersAgreeCard

/-- THE SECOND FORM's CARD OF 'sennitlaw04.ConfigsTurned'. -/
def configsTurnedUptoCard : Claim7 := { stood := { row := configsTurnedUptoRow, standIns := [], harness := (true, "fb32e43a99bc9e68e6c59335e076909a898b337a92c079b9c2f52576d7cb62ce"), looks := false }, kinds := [], alts := [], laidByText := true, laidKinds := [.data], laidTests := true, laidLooks := .later }
def ConfigsTurnedUptoCardSaid : Prop := Claim7.holds Tryd.pinned (.plain (OpenSpec.upto configsTurnedSpec)) configsTurnedUptoCard

/-- THE SECOND FORM's CARD OF 'sennitlaw19.HostsBox'. -/
def hostsBoxUptoCard : Claim7 := { stood := { row := hostsBoxUptoRow, standIns := [], harness := (true, "fb32e43a99bc9e68e6c59335e076909a898b337a92c079b9c2f52576d7cb62ce"), looks := false }, kinds := [], alts := [], laidByText := true, laidKinds := [.data], laidTests := true, laidLooks := .later }
def HostsBoxUptoCardSaid : Prop := Claim7.holds Tryd.pinned (.plain (OpenSpec.upto hostsBoxSpec)) hostsBoxUptoCard

/-- THE SECOND FORM's CARD OF 'sennitlaw22.MembersBase'. -/
def membersBaseUptoCard : Claim7 := { stood := { row := membersBaseUptoRow, standIns := [], harness := (true, "fb32e43a99bc9e68e6c59335e076909a898b337a92c079b9c2f52576d7cb62ce"), looks := false }, kinds := [], alts := [], laidByText := true, laidKinds := [.data], laidTests := true, laidLooks := .later }
def MembersBaseUptoCardSaid : Prop := Claim7.holds Tryd.pinned (.plain (OpenSpec.upto membersBaseSpec)) membersBaseUptoCard

/-- THE SECOND FORM's CARD OF 'sennitlaw22.MembersAgree'. -/
def membersAgreeUptoCard : Claim7 := { stood := { row := membersAgreeUptoRow, standIns := [], harness := (true, "fb32e43a99bc9e68e6c59335e076909a898b337a92c079b9c2f52576d7cb62ce"), looks := false }, kinds := [], alts := [], laidByText := true, laidKinds := [.data], laidTests := true, laidLooks := .later }
def MembersAgreeUptoCardSaid : Prop := Claim7.holds Tryd.pinned (.plain (OpenSpec.upto membersAgreeSpec)) membersAgreeUptoCard
end Rows
end Go.Proofs.YtgdoojlfbebaaaaDoor
