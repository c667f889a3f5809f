/-
  DERIVED. GIVEN WITH THE SEED: THE CARDS: each row of YtoelekmbmghicaaGreatDoorRows.lean that lists a variable, with what it lists TIED to the program's text (the seventh form; the later family's looks); each row that meets fmt, with fmt's text TOLD by the authors' own Lean function (tested against real Go, not proved from fmt's source: count such statements apart). THE CARD IS WHAT COUNTS. Prove the row's statement (the work); the ties are given (YtoelekmbmghicaaGreatDoorTie.lean); close each card by the builder's one call (the guide's Derived/Test/ToyasCard.lean, 'card_holds'). Laid BY PROGRAM, IN A SANDBOX (cutbox-door.mjs). By AI agents, Wed Nov 11 2026. No macro, syntax, notation, axiom, sorry.
-/
import Derived.Test.YtoelekmbmghicaaGreatDoorRows
import GoSem.ClaimSeven
namespace Go.Proofs.YtoelekmbmghicaaGreatDoor
namespace Rows

/-- THE TIED CARD OF 'sennitlaw11.SendersOut'. -/
def sendersOutCard : Claim7 := { stood := { row := sendersOutRow, standIns := [], harness := (true, "cb199d85380b2bc9c5de39f5d1ee7fb921205c1565332682604cfdef43a1a328"), looks := false }, kinds := [], alts := [], laidByText := true, laidKinds := [.data, .data], laidTests := true, laidLooks := .later }
def SendersOutCardSaid : Prop := Claim7.holds Tryz.pinned (.plain (OpenSpec.ofChange sendersOutSpec)) sendersOutCard

/-- THE TIED CARD OF 'sennitlaw11.SendersBoth'. -/
def sendersBothCard : Claim7 := { stood := { row := sendersBothRow, standIns := [], harness := (true, "cb199d85380b2bc9c5de39f5d1ee7fb921205c1565332682604cfdef43a1a328"), looks := false }, kinds := [], alts := [], laidByText := true, laidKinds := [.data, .data], laidTests := true, laidLooks := .later }
def SendersBothCardSaid : Prop := Claim7.holds Tryz.pinned (.plain (OpenSpec.ofChange sendersBothSpec)) sendersBothCard

/-- THE SECOND FORM's CARD OF 'sennitlaw11.SendersOut'. -/
def sendersOutUptoCard : Claim7 := { stood := { row := sendersOutUptoRow, standIns := [], harness := (true, "cb199d85380b2bc9c5de39f5d1ee7fb921205c1565332682604cfdef43a1a328"), looks := false }, kinds := [], alts := [], laidByText := true, laidKinds := [.data, .data], laidTests := true, laidLooks := .later }
def SendersOutUptoCardSaid : Prop := Claim7.holds Tryz.pinned (.plain (OpenSpec.upto sendersOutSpec)) sendersOutUptoCard

/-- THE SECOND FORM's CARD OF 'sennitlaw11.SendersBoth'. -/
def sendersBothUptoCard : Claim7 := { stood := { row := sendersBothUptoRow, standIns := [], harness := (true, "cb199d85380b2bc9c5de39f5d1ee7fb921205c1565332682604cfdef43a1a328"), looks := false }, kinds := [], alts := [], laidByText := true, laidKinds := [.data, .data], laidTests := true, laidLooks := .later }
def SendersBothUptoCardSaid : Prop := Claim7.holds Tryz.pinned (.plain (OpenSpec.upto sendersBothSpec)) sendersBothUptoCard
end Rows
end Go.Proofs.YtoelekmbmghicaaGreatDoor
