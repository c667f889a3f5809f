/-
  DERIVED. GIVEN WITH THE SEED: THE CARDS: each row of YthekiiagacnhkaaGreatDoorRows.lean that lists a variable, with what it lists TIED to the program's text (the seventh form; the later family's looks); each row that meets fmt, with fmt's text TOLD by the authors' own Lean function (tested against real Go, not proved from fmt's source: count such statements apart). THE CARD IS WHAT COUNTS. Prove the row's statement (the work); the ties are given (YthekiiagacnhkaaGreatDoorTie.lean); close each card by the builder's one call (the guide's Derived/Test/ToyasCard.lean, 'card_holds'). Laid BY PROGRAM, IN A SANDBOX (cutbox-door.mjs). By AI agents, Wed Nov 11 2026. No macro, syntax, notation, axiom, sorry.
-/
import Derived.Test.YthekiiagacnhkaaGreatDoorRows
import GoSem.ClaimSeven
namespace Go.Proofs.YthekiiagacnhkaaGreatDoor
namespace Rows

/-- THE TIED CARD OF 'sennitlaw22.MembersView'. -/
def membersViewCard : Claim7 := { stood := { row := membersViewRow, standIns := [], harness := (true, "ce236d0c13cf94941d6b76b9b77c82e8023f2d97047830c7cea0b16cc2997a56"), looks := false }, kinds := [], alts := [], laidByText := true, laidKinds := [.data], laidTests := true, laidLooks := .later }
def MembersViewCardSaid : Prop := Claim7.holds Tryz.pinned (.plain (OpenSpec.ofChange membersViewSpec)) membersViewCard

/-- THE TIED CARD OF 'sennitlaw24.RanksStay'. -/
def ranksStayCard : Claim7 := { stood := { row := ranksStayRow, standIns := [], harness := (true, "ce236d0c13cf94941d6b76b9b77c82e8023f2d97047830c7cea0b16cc2997a56"), looks := false }, kinds := [], alts := [], laidByText := true, laidKinds := [.data], laidTests := true, laidLooks := .later }
def RanksStayCardSaid : Prop := Claim7.holds Tryz.pinned (.plain (OpenSpec.ofChange ranksStaySpec)) ranksStayCard

/-- THE TIED CARD OF 'sennitlaw24.RanksHeir'. -/
def ranksHeirCard : Claim7 := { stood := { row := ranksHeirRow, standIns := [], harness := (true, "ce236d0c13cf94941d6b76b9b77c82e8023f2d97047830c7cea0b16cc2997a56"), looks := false }, kinds := [], alts := [], laidByText := true, laidKinds := [.data], laidTests := true, laidLooks := .later }
def RanksHeirCardSaid : Prop := Claim7.holds Tryz.pinned (.plain (OpenSpec.ofChange ranksHeirSpec)) ranksHeirCard

/-- THE SECOND FORM's CARD OF 'sennitlaw22.MembersView'. -/
def membersViewUptoCard : Claim7 := { stood := { row := membersViewUptoRow, standIns := [], harness := (true, "ce236d0c13cf94941d6b76b9b77c82e8023f2d97047830c7cea0b16cc2997a56"), looks := false }, kinds := [], alts := [], laidByText := true, laidKinds := [.data], laidTests := true, laidLooks := .later }
def MembersViewUptoCardSaid : Prop := Claim7.holds Tryz.pinned (.plain (OpenSpec.upto membersViewSpec)) membersViewUptoCard

/-- THE SECOND FORM's CARD OF 'sennitlaw24.RanksStay'. -/
def ranksStayUptoCard : Claim7 := { stood := { row := ranksStayUptoRow, standIns := [], harness := (true, "ce236d0c13cf94941d6b76b9b77c82e8023f2d97047830c7cea0b16cc2997a56"), looks := false }, kinds := [], alts := [], laidByText := true, laidKinds := [.data], laidTests := true, laidLooks := .later }
def RanksStayUptoCardSaid : Prop := Claim7.holds Tryz.pinned (.plain (OpenSpec.upto ranksStaySpec)) ranksStayUptoCard

/-- THE SECOND FORM's CARD OF 'sennitlaw24.RanksHeir'. -/
def ranksHeirUptoCard : Claim7 := { stood := { row := ranksHeirUptoRow, standIns := [], harness := (true, "ce236d0c13cf94941d6b76b9b77c82e8023f2d97047830c7cea0b16cc2997a56"), looks := false }, kinds := [], alts := [], laidByText := true, laidKinds := [.data], laidTests := true, laidLooks := .later }
def RanksHeirUptoCardSaid : Prop := Claim7.holds Tryz.pinned (.plain (OpenSpec.upto ranksHeirSpec)) ranksHeirUptoCard
end Rows
end Go.Proofs.YthekiiagacnhkaaGreatDoor
