/-
  NARROWER THAN 'FOR EVERY INPUT', by the rows' own cells (each row's printed sentence says how): SendersOut: laid · SendersBoth: laid.
  DERIVED. THE GIVEN ROWS OF THIS SEAT. 2 by the template 'for every input the law returns true; each argument reads behind the call as it read before'; 0 by the template 'total and deterministic' (their statements: YtoelekmbmghicaaGreatDoorTotals.lean).
  GIVEN WITH THE SEED: the statements are not yours to turn. If you find one false, say at which input.
  Laid BY PROGRAM, IN A SANDBOX (cutbox-rows.mjs): the forced cells as the released guide's own fill.sh prints them over the translation df032ad67ba0a9de… (all of the seat's roots in one cut). By AI agents, Wed Nov 11 2026. No macro, syntax, notation, axiom, sorry.
-/
import Derived.Test.YtoelekmbmghicaaGreatDoorChecked
import GoSem.Claim
import GoSem.ClaimJoined
import GoSem.ClaimMapViews
import Derived.JoinedTies
import Derived.KernelRfl
namespace Go.Proofs.YtoelekmbmghicaaGreatDoor
/- THE CELL 'sum', in the pinned program and in every row, IS THE sha256 OF THE DUMP (.gsa) THAT YtoelekmbmghicaaGreatDoorProg.lean LOADS. Nothing in Lean hashes anything: it is a label: what it is worth is what the hold of that sum in a sandbox is worth. -/
noncomputable def Tryz.pinned : Pinned := { name := "ytoelekmbmghicaagreatdoor", sum := "df032ad67ba0a9de61fed11fdcd9ba79ad36e5c54259ce0cf17c0d97886fc977", checked := Tryz.checked }
namespace Rows
def none {H : Type} : Left H := { results := [], args := [] }

/- WHAT THE LISTED PACKAGE-LEVEL VARIABLES READ AS WHEN THE CALL BEGINS. Each datum BY PROGRAM (the guide's laid-datum.mjs) off the statement by which the dump's own 'gosem.cut.vars' lays the variable. In a bare row this is a premise. The card (YtoelekmbmghicaaGreatDoorCards.lean) ties it to the program's text. -/
def laid_sennit_rings_signs {H : Type} : DataW H := .agg [.lit (.int .i64 1), .lit (.int .i64 (-1))]
def laid_sennit_windows_roles {H : Type} : DataW H := .agg [.lit (.int .u8 1), .lit (.int .u8 1), .lit (.int .u8 2)]

/-- 'sennitlaw11.SendersOut': WHATEVER THE INPUT: true; the input reads as it did. -/
def sendersOutSpec : ChangeSpec := { name := "sendersOut", fn := fun _ => fun
  | [d1, d2, d3] => { results := [.lit (.bool true)], args := [d1, d2, d3] }
  | _ => none }
def sendersOutRow : OpenClaim := { program := "ytoelekmbmghicaagreatdoor", sum := "df032ad67ba0a9de61fed11fdcd9ba79ad36e5c54259ce0cf17c0d97886fc977", func := "sennit/sennitlaw11.SendersOut", spec := "sendersOut", unfollowed := true, recurses := true, named := ["sennit/rings.signs", "sennit/windows.roles"], apart := false, laid := [("sennit/rings.signs", laid_sennit_rings_signs), ("sennit/windows.roles", laid_sennit_windows_roles)] }
def SendersOutSaid : Prop := sendersOutRow.holds Tryz.pinned (OpenSpec.ofChange sendersOutSpec)

/-- ITS FALSE NEIGHBOUR: 'it returns false'. Refute it at one input. -/
def sendersOutWrong : ChangeSpec := { name := "sendersOut", fn := fun _ => fun
  | [d1, d2, d3] => { results := [.lit (.bool false)], args := [d1, d2, d3] }
  | _ => none }
def SendersOutWrongFalsely : Prop := sendersOutRow.holds Tryz.pinned (OpenSpec.ofChange sendersOutWrong)

/-- 'sennitlaw11.SendersBoth': WHATEVER THE INPUT: true; the input reads as it did. -/
def sendersBothSpec : ChangeSpec := { name := "sendersBoth", fn := fun _ => fun
  | [d1, d2, d3] => { results := [.lit (.bool true)], args := [d1, d2, d3] }
  | _ => none }
def sendersBothRow : OpenClaim := { program := "ytoelekmbmghicaagreatdoor", sum := "df032ad67ba0a9de61fed11fdcd9ba79ad36e5c54259ce0cf17c0d97886fc977", func := "sennit/sennitlaw11.SendersBoth", spec := "sendersBoth", unfollowed := true, recurses := true, named := ["sennit/rings.signs", "sennit/windows.roles"], apart := false, laid := [("sennit/rings.signs", laid_sennit_rings_signs), ("sennit/windows.roles", laid_sennit_windows_roles)] }
def SendersBothSaid : Prop := sendersBothRow.holds Tryz.pinned (OpenSpec.ofChange sendersBothSpec)

/-- ITS FALSE NEIGHBOUR: 'it returns false'. Refute it at one input. -/
def sendersBothWrong : ChangeSpec := { name := "sendersBoth", fn := fun _ => fun
  | [d1, d2, d3] => { results := [.lit (.bool false)], args := [d1, d2, d3] }
  | _ => none }
def SendersBothWrongFalsely : Prop := sendersBothRow.holds Tryz.pinned (OpenSpec.ofChange sendersBothWrong)

/- THE SECOND FORM. 'bulk': how many values and letters a reading holds, each counted each time it is reached (what is shared counts as often as it is met; a slice's spare places count too). A statement '..UptoSaid' is the law's where the arguments, and the package variables that the reading takes, are together of bulk at most 1048576: NARROWER than '..Said'. Prove '..Said' where nothing that the law and all that it calls make is longer than what came in: it says more and counts as full. Else prove '..UptoSaid'. A law counts once. -/
mutual
def uptoBulk {H : Type} : DataW H → Nat
  | .lit (.string bytes) => bytes.length + 1
  | .lit _ => 1
  | .nil => 1
  | .ptr d => uptoBulk d + 1
  | .slice elems spare => uptoBulkAll elems + uptoBulkAll spare + 1
  | .agg parts => uptoBulkAll parts + 1
  | .iface _ d => uptoBulk d + 1
  | .map entries => uptoBulkEntries entries + 1
  | .held _ => 1
def uptoBulkAll {H : Type} : List (DataW H) → Nat
  | [] => 0
  | d :: r => uptoBulk d + uptoBulkAll r
def uptoBulkEntries {H : Type} : List (Lit × DataW H) → Nat
  | [] => 0
  | x :: r => uptoBulkEntry x + uptoBulkEntries r
def uptoBulkEntry {H : Type} : Lit × DataW H → Nat
  | (.string bytes, d) => bytes.length + uptoBulk d + 1
  | (_, d) => uptoBulk d + 1
 end
def uptoSmall : (H : Type) → List (DataW H) → Bool := fun _ ds => decide (uptoBulkAll ds ≤ 1048576)
def OpenSpec.upto (s : _root_.Go.ChangeSpec) : _root_.Go.OpenSpec := { _root_.Go.OpenSpec.ofChange s with cond := some uptoSmall }

/-- 'sennitlaw11.SendersOut', WHERE WHAT IT READS IS OF BULK AT MOST 1048576: true; the input reads as it did. -/
def sendersOutUptoRow : OpenClaim := { program := "ytoelekmbmghicaagreatdoor", sum := "df032ad67ba0a9de61fed11fdcd9ba79ad36e5c54259ce0cf17c0d97886fc977", func := "sennit/sennitlaw11.SendersOut", spec := "sendersOut", unfollowed := true, recurses := true, named := ["sennit/rings.signs", "sennit/windows.roles"], apart := false, laid := [("sennit/rings.signs", laid_sennit_rings_signs), ("sennit/windows.roles", laid_sennit_windows_roles)], narrowed := true }
def SendersOutUptoSaid : Prop := sendersOutUptoRow.holds Tryz.pinned (OpenSpec.upto sendersOutSpec)

/-- 'sennitlaw11.SendersBoth', WHERE WHAT IT READS IS OF BULK AT MOST 1048576: true; the input reads as it did. -/
def sendersBothUptoRow : OpenClaim := { program := "ytoelekmbmghicaagreatdoor", sum := "df032ad67ba0a9de61fed11fdcd9ba79ad36e5c54259ce0cf17c0d97886fc977", func := "sennit/sennitlaw11.SendersBoth", spec := "sendersBoth", unfollowed := true, recurses := true, named := ["sennit/rings.signs", "sennit/windows.roles"], apart := false, laid := [("sennit/rings.signs", laid_sennit_rings_signs), ("sennit/windows.roles", laid_sennit_windows_roles)], narrowed := true }
def SendersBothUptoSaid : Prop := sendersBothUptoRow.holds Tryz.pinned (OpenSpec.upto sendersBothSpec)

end Rows
end Go.Proofs.YtoelekmbmghicaaGreatDoor
