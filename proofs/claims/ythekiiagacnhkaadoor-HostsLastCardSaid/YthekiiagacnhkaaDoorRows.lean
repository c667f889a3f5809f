/-
  NARROWER THAN 'FOR EVERY INPUT', by the rows' own cells (each row's printed sentence says how): ConfigsNew: laid · ConfigsTurned: laid · ConfigsEdges: laid · MembersRun: laid · HostsOffer: laid · HostsBox: laid · HostsLast: laid · ClocksWhole: laid · MembersOrder: laid.
  DERIVED. THE GIVEN ROWS OF THIS SEAT. 9 by the template 'for every input the law returns true; each argument reads behind the call as it read before'; 0 by the template 'total and deterministic' (their statements: YthekiiagacnhkaaDoorTotals.lean).
  GIVEN WITH THE SEED: the statements are not yours to turn. If you find one false, say at which input.
  Laid BY PROGRAM, IN A SANDBOX (cutbox-rows.mjs): the forced cells as the released guide's own fill.sh prints them over the translation 23a94e4e96c16a91… (all of the seat's roots in one cut). By AI agents, Wed Nov 11 2026. No macro, syntax, notation, axiom, sorry.
-/
import Derived.Test.YthekiiagacnhkaaDoorChecked
import GoSem.Claim
import GoSem.ClaimJoined
import GoSem.ClaimMapViews
import Derived.JoinedTies
import Derived.KernelRfl
namespace Go.Proofs.YthekiiagacnhkaaDoor
/- THE CELL 'sum', in the pinned program and in every row, IS THE sha256 OF THE DUMP (.gsa) THAT YthekiiagacnhkaaDoorProg.lean LOADS. Nothing in Lean hashes anything: it is a label: what it is worth is what the hold of that sum in a sandbox is worth. -/
noncomputable def Tryd.pinned : Pinned := { name := "ythekiiagacnhkaadoor", sum := "23a94e4e96c16a9173b2c91fa1b828152456baba5ad7c5b4d46fd99360226fec", checked := Tryd.checked }
namespace Rows
def none {H : Type} : Left H := { results := [], args := [] }

/- WHAT THE LISTED PACKAGE-LEVEL VARIABLES READ AS WHEN THE CALL BEGINS. Each datum BY PROGRAM (the guide's laid-datum.mjs) off the statement by which the dump's own 'gosem.cut.vars' lays the variable. In a bare row this is a premise. The card (YthekiiagacnhkaaDoorCards.lean) ties it to the program's text. -/
def laid_sennit_rings_signs {H : Type} : DataW H := .agg [.lit (.int .i64 1), .lit (.int .i64 (-1))]

/-- 'sennitlaw04.ConfigsNew': WHATEVER THE INPUT: true; the input reads as it did. -/
def configsNewSpec : ChangeSpec := { name := "configsNew", fn := fun _ => fun
  | [d] => { results := [.lit (.bool true)], args := [d] }
  | _ => none }
def configsNewRow : OpenClaim := { program := "ythekiiagacnhkaadoor", sum := "23a94e4e96c16a9173b2c91fa1b828152456baba5ad7c5b4d46fd99360226fec", func := "sennit/sennitlaw04.ConfigsNew", spec := "configsNew", unfollowed := true, recurses := true, named := ["sennit/rings.signs"], apart := false, laid := [("sennit/rings.signs", laid_sennit_rings_signs)] }
def ConfigsNewSaid : Prop := configsNewRow.holds Tryd.pinned (OpenSpec.ofChange configsNewSpec)

/-- ITS FALSE NEIGHBOUR: 'it returns false'. Refute it at one input. -/
def configsNewWrong : ChangeSpec := { name := "configsNew", fn := fun _ => fun
  | [d] => { results := [.lit (.bool false)], args := [d] }
  | _ => none }
def ConfigsNewWrongFalsely : Prop := configsNewRow.holds Tryd.pinned (OpenSpec.ofChange configsNewWrong)

/-- 'sennitlaw04.ConfigsTurned': WHATEVER THE INPUT: true; the input reads as it did. -/
def configsTurnedSpec : ChangeSpec := { name := "configsTurned", fn := fun _ => fun
  | [d1, d2] => { results := [.lit (.bool true)], args := [d1, d2] }
  | _ => none }
def configsTurnedRow : OpenClaim := { program := "ythekiiagacnhkaadoor", sum := "23a94e4e96c16a9173b2c91fa1b828152456baba5ad7c5b4d46fd99360226fec", func := "sennit/sennitlaw04.ConfigsTurned", spec := "configsTurned", unfollowed := true, recurses := true, named := ["sennit/rings.signs"], apart := false, laid := [("sennit/rings.signs", laid_sennit_rings_signs)] }
def ConfigsTurnedSaid : Prop := configsTurnedRow.holds Tryd.pinned (OpenSpec.ofChange configsTurnedSpec)

/-- ITS FALSE NEIGHBOUR: 'it returns false'. Refute it at one input. -/
def configsTurnedWrong : ChangeSpec := { name := "configsTurned", fn := fun _ => fun
  | [d1, d2] => { results := [.lit (.bool false)], args := [d1, d2] }
  | _ => none }
def ConfigsTurnedWrongFalsely : Prop := configsTurnedRow.holds Tryd.pinned (OpenSpec.ofChange configsTurnedWrong)

/-- 'sennitlaw04.ConfigsEdges': WHATEVER THE INPUT: true; the input reads as it did. -/
def configsEdgesSpec : ChangeSpec := { name := "configsEdges", fn := fun _ => fun
  | [d1, d2] => { results := [.lit (.bool true)], args := [d1, d2] }
  | _ => none }
def configsEdgesRow : OpenClaim := { program := "ythekiiagacnhkaadoor", sum := "23a94e4e96c16a9173b2c91fa1b828152456baba5ad7c5b4d46fd99360226fec", func := "sennit/sennitlaw04.ConfigsEdges", spec := "configsEdges", unfollowed := true, recurses := true, named := ["sennit/rings.signs"], apart := false, laid := [("sennit/rings.signs", laid_sennit_rings_signs)] }
def ConfigsEdgesSaid : Prop := configsEdgesRow.holds Tryd.pinned (OpenSpec.ofChange configsEdgesSpec)

/-- ITS FALSE NEIGHBOUR: 'it returns false'. Refute it at one input. -/
def configsEdgesWrong : ChangeSpec := { name := "configsEdges", fn := fun _ => fun
  | [d1, d2] => { results := [.lit (.bool false)], args := [d1, d2] }
  | _ => none }
def ConfigsEdgesWrongFalsely : Prop := configsEdgesRow.holds Tryd.pinned (OpenSpec.ofChange configsEdgesWrong)

/-- 'sennitlaw22.MembersRun': WHATEVER THE INPUT: true; the input reads as it did. -/
def membersRunSpec : ChangeSpec := { name := "membersRun", fn := fun _ => fun
  | [d1, d2, d3] => { results := [.lit (.bool true)], args := [d1, d2, d3] }
  | _ => none }
def membersRunRow : OpenClaim := { program := "ythekiiagacnhkaadoor", sum := "23a94e4e96c16a9173b2c91fa1b828152456baba5ad7c5b4d46fd99360226fec", func := "sennit/sennitlaw22.MembersRun", spec := "membersRun", unfollowed := true, recurses := true, named := ["sennit/rings.signs"], apart := false, laid := [("sennit/rings.signs", laid_sennit_rings_signs)] }
def MembersRunSaid : Prop := membersRunRow.holds Tryd.pinned (OpenSpec.ofChange membersRunSpec)

/-- ITS FALSE NEIGHBOUR: 'it returns false'. Refute it at one input. -/
def membersRunWrong : ChangeSpec := { name := "membersRun", fn := fun _ => fun
  | [d1, d2, d3] => { results := [.lit (.bool false)], args := [d1, d2, d3] }
  | _ => none }
def MembersRunWrongFalsely : Prop := membersRunRow.holds Tryd.pinned (OpenSpec.ofChange membersRunWrong)

/-- 'sennitlaw19.HostsOffer': WHATEVER THE INPUT: true; the input reads as it did. -/
def hostsOfferSpec : ChangeSpec := { name := "hostsOffer", fn := fun _ => fun
  | [d1, d2] => { results := [.lit (.bool true)], args := [d1, d2] }
  | _ => none }
def hostsOfferRow : OpenClaim := { program := "ythekiiagacnhkaadoor", sum := "23a94e4e96c16a9173b2c91fa1b828152456baba5ad7c5b4d46fd99360226fec", func := "sennit/sennitlaw19.HostsOffer", spec := "hostsOffer", unfollowed := true, recurses := true, named := ["sennit/rings.signs"], apart := false, laid := [("sennit/rings.signs", laid_sennit_rings_signs)] }
def HostsOfferSaid : Prop := hostsOfferRow.holds Tryd.pinned (OpenSpec.ofChange hostsOfferSpec)

/-- ITS FALSE NEIGHBOUR: 'it returns false'. Refute it at one input. -/
def hostsOfferWrong : ChangeSpec := { name := "hostsOffer", fn := fun _ => fun
  | [d1, d2] => { results := [.lit (.bool false)], args := [d1, d2] }
  | _ => none }
def HostsOfferWrongFalsely : Prop := hostsOfferRow.holds Tryd.pinned (OpenSpec.ofChange hostsOfferWrong)

/-- 'sennitlaw19.HostsBox': WHATEVER THE INPUT: true; the input reads as it did. -/
def hostsBoxSpec : ChangeSpec := { name := "hostsBox", fn := fun _ => fun
  | [d1, d2] => { results := [.lit (.bool true)], args := [d1, d2] }
  | _ => none }
def hostsBoxRow : OpenClaim := { program := "ythekiiagacnhkaadoor", sum := "23a94e4e96c16a9173b2c91fa1b828152456baba5ad7c5b4d46fd99360226fec", func := "sennit/sennitlaw19.HostsBox", spec := "hostsBox", unfollowed := true, recurses := true, named := ["sennit/rings.signs"], apart := false, laid := [("sennit/rings.signs", laid_sennit_rings_signs)] }
def HostsBoxSaid : Prop := hostsBoxRow.holds Tryd.pinned (OpenSpec.ofChange hostsBoxSpec)

/-- ITS FALSE NEIGHBOUR: 'it returns false'. Refute it at one input. -/
def hostsBoxWrong : ChangeSpec := { name := "hostsBox", fn := fun _ => fun
  | [d1, d2] => { results := [.lit (.bool false)], args := [d1, d2] }
  | _ => none }
def HostsBoxWrongFalsely : Prop := hostsBoxRow.holds Tryd.pinned (OpenSpec.ofChange hostsBoxWrong)

/-- 'sennitlaw19.HostsLast': WHATEVER THE INPUT: true; the input reads as it did. -/
def hostsLastSpec : ChangeSpec := { name := "hostsLast", fn := fun _ => fun
  | [d1, d2, d3] => { results := [.lit (.bool true)], args := [d1, d2, d3] }
  | _ => none }
def hostsLastRow : OpenClaim := { program := "ythekiiagacnhkaadoor", sum := "23a94e4e96c16a9173b2c91fa1b828152456baba5ad7c5b4d46fd99360226fec", func := "sennit/sennitlaw19.HostsLast", spec := "hostsLast", unfollowed := true, recurses := true, named := ["sennit/rings.signs"], apart := false, laid := [("sennit/rings.signs", laid_sennit_rings_signs)] }
def HostsLastSaid : Prop := hostsLastRow.holds Tryd.pinned (OpenSpec.ofChange hostsLastSpec)

/-- ITS FALSE NEIGHBOUR: 'it returns false'. Refute it at one input. -/
def hostsLastWrong : ChangeSpec := { name := "hostsLast", fn := fun _ => fun
  | [d1, d2, d3] => { results := [.lit (.bool false)], args := [d1, d2, d3] }
  | _ => none }
def HostsLastWrongFalsely : Prop := hostsLastRow.holds Tryd.pinned (OpenSpec.ofChange hostsLastWrong)

/-- 'sennitlaw06.ClocksWhole': WHATEVER THE INPUT: true; the input reads as it did. -/
def clocksWholeSpec : ChangeSpec := { name := "clocksWhole", fn := fun _ => fun
  | [d1, d2] => { results := [.lit (.bool true)], args := [d1, d2] }
  | _ => none }
def clocksWholeRow : OpenClaim := { program := "ythekiiagacnhkaadoor", sum := "23a94e4e96c16a9173b2c91fa1b828152456baba5ad7c5b4d46fd99360226fec", func := "sennit/sennitlaw06.ClocksWhole", spec := "clocksWhole", unfollowed := true, recurses := true, named := ["sennit/rings.signs"], apart := false, laid := [("sennit/rings.signs", laid_sennit_rings_signs)] }
def ClocksWholeSaid : Prop := clocksWholeRow.holds Tryd.pinned (OpenSpec.ofChange clocksWholeSpec)

/-- ITS FALSE NEIGHBOUR: 'it returns false'. Refute it at one input. -/
def clocksWholeWrong : ChangeSpec := { name := "clocksWhole", fn := fun _ => fun
  | [d1, d2] => { results := [.lit (.bool false)], args := [d1, d2] }
  | _ => none }
def ClocksWholeWrongFalsely : Prop := clocksWholeRow.holds Tryd.pinned (OpenSpec.ofChange clocksWholeWrong)

/-- 'sennitlaw22.MembersOrder': WHATEVER THE INPUT: true; the input reads as it did. -/
def membersOrderSpec : ChangeSpec := { name := "membersOrder", fn := fun _ => fun
  | [d1, d2, d3] => { results := [.lit (.bool true)], args := [d1, d2, d3] }
  | _ => none }
def membersOrderRow : OpenClaim := { program := "ythekiiagacnhkaadoor", sum := "23a94e4e96c16a9173b2c91fa1b828152456baba5ad7c5b4d46fd99360226fec", func := "sennit/sennitlaw22.MembersOrder", spec := "membersOrder", unfollowed := true, recurses := true, named := ["sennit/rings.signs"], apart := false, laid := [("sennit/rings.signs", laid_sennit_rings_signs)] }
def MembersOrderSaid : Prop := membersOrderRow.holds Tryd.pinned (OpenSpec.ofChange membersOrderSpec)

/-- ITS FALSE NEIGHBOUR: 'it returns false'. Refute it at one input. -/
def membersOrderWrong : ChangeSpec := { name := "membersOrder", fn := fun _ => fun
  | [d1, d2, d3] => { results := [.lit (.bool false)], args := [d1, d2, d3] }
  | _ => none }
def MembersOrderWrongFalsely : Prop := membersOrderRow.holds Tryd.pinned (OpenSpec.ofChange membersOrderWrong)

/- THE SECOND FORM. 'bulk': how many values and letters a reading holds, each counted each time it is reached (what is shared counts as often as it is met; a slice's spare places count too). A statement '..UptoSaid' is the law's where the arguments, and the package variables that the reading takes, are together of bulk at most 1048576: NARROWER than '..Said'. Prove '..Said' where nothing that the law and all that it calls make is longer than what came in: it says more and counts as full. Else prove '..UptoSaid'. A law counts once. -/
mutual
def uptoBulk {H : Type} : DataW H → Nat
  | .lit (.string bytes) => bytes.length + 1
  | .lit _ => 1
  | .nil => 1
  | .ptr d => uptoBulk d + 1
  | .slice elems spare => uptoBulkAll elems + uptoBulkAll spare + 1
  | .agg parts => uptoBulkAll parts + 1
  | .iface _ d => uptoBulk d + 1
  | .map entries => uptoBulkEntries entries + 1
  | .held _ => 1
def uptoBulkAll {H : Type} : List (DataW H) → Nat
  | [] => 0
  | d :: r => uptoBulk d + uptoBulkAll r
def uptoBulkEntries {H : Type} : List (Lit × DataW H) → Nat
  | [] => 0
  | x :: r => uptoBulkEntry x + uptoBulkEntries r
def uptoBulkEntry {H : Type} : Lit × DataW H → Nat
  | (.string bytes, d) => bytes.length + uptoBulk d + 1
  | (_, d) => uptoBulk d + 1
 end
def uptoSmall : (H : Type) → List (DataW H) → Bool := fun _ ds => decide (uptoBulkAll ds ≤ 1048576)
def OpenSpec.upto (s : _root_.Go.ChangeSpec) : _root_.Go.OpenSpec := { _root_.Go.OpenSpec.ofChange s with cond := some uptoSmall }

/-- 'sennitlaw04.ConfigsNew', WHERE WHAT IT READS IS OF BULK AT MOST 1048576: true; the input reads as it did. -/
def configsNewUptoRow : OpenClaim := { program := "ythekiiagacnhkaadoor", sum := "23a94e4e96c16a9173b2c91fa1b828152456baba5ad7c5b4d46fd99360226fec", func := "sennit/sennitlaw04.ConfigsNew", spec := "configsNew", unfollowed := true, recurses := true, named := ["sennit/rings.signs"], apart := false, laid := [("sennit/rings.signs", laid_sennit_rings_signs)], narrowed := true }
def ConfigsNewUptoSaid : Prop := configsNewUptoRow.holds Tryd.pinned (OpenSpec.upto configsNewSpec)

/-- 'sennitlaw04.ConfigsTurned', WHERE WHAT IT READS IS OF BULK AT MOST 1048576: true; the input reads as it did. -/
def configsTurnedUptoRow : OpenClaim := { program := "ythekiiagacnhkaadoor", sum := "23a94e4e96c16a9173b2c91fa1b828152456baba5ad7c5b4d46fd99360226fec", func := "sennit/sennitlaw04.ConfigsTurned", spec := "configsTurned", unfollowed := true, recurses := true, named := ["sennit/rings.signs"], apart := false, laid := [("sennit/rings.signs", laid_sennit_rings_signs)], narrowed := true }
def ConfigsTurnedUptoSaid : Prop := configsTurnedUptoRow.holds Tryd.pinned (OpenSpec.upto configsTurnedSpec)

/-- 'sennitlaw04.ConfigsEdges', WHERE WHAT IT READS IS OF BULK AT MOST 1048576: true; the input reads as it did. -/
def configsEdgesUptoRow : OpenClaim := { program := "ythekiiagacnhkaadoor", sum := "23a94e4e96c16a9173b2c91fa1b828152456baba5ad7c5b4d46fd99360226fec", func := "sennit/sennitlaw04.ConfigsEdges", spec := "configsEdges", unfollowed := true, recurses := true, named := ["sennit/rings.signs"], apart := false, laid := [("sennit/rings.signs", laid_sennit_rings_signs)], narrowed := true }
def ConfigsEdgesUptoSaid : Prop := configsEdgesUptoRow.holds Tryd.pinned (OpenSpec.upto configsEdgesSpec)

/-- 'sennitlaw22.MembersRun', WHERE WHAT IT READS IS OF BULK AT MOST 1048576: true; the input reads as it did. -/
def membersRunUptoRow : OpenClaim := { program := "ythekiiagacnhkaadoor", sum := "23a94e4e96c16a9173b2c91fa1b828152456baba5ad7c5b4d46fd99360226fec", func := "sennit/sennitlaw22.MembersRun", spec := "membersRun", unfollowed := true, recurses := true, named := ["sennit/rings.signs"], apart := false, laid := [("sennit/rings.signs", laid_sennit_rings_signs)], narrowed := true }
def MembersRunUptoSaid : Prop := membersRunUptoRow.holds Tryd.pinned (OpenSpec.upto membersRunSpec)

/-- 'sennitlaw19.HostsOffer', WHERE WHAT IT READS IS OF BULK AT MOST 1048576: true; the input reads as it did. -/
def hostsOfferUptoRow : OpenClaim := { program := "ythekiiagacnhkaadoor", sum := "23a94e4e96c16a9173b2c91fa1b828152456baba5ad7c5b4d46fd99360226fec", func := "sennit/sennitlaw19.HostsOffer", spec := "hostsOffer", unfollowed := true, recurses := true, named := ["sennit/rings.signs"], apart := false, laid := [("sennit/rings.signs", laid_sennit_rings_signs)], narrowed := true }
def HostsOfferUptoSaid : Prop := hostsOfferUptoRow.holds Tryd.pinned (OpenSpec.upto hostsOfferSpec)

/-- 'sennitlaw19.HostsBox', WHERE WHAT IT READS IS OF BULK AT MOST 1048576: true; the input reads as it did. -/
def hostsBoxUptoRow : OpenClaim := { program := "ythekiiagacnhkaadoor", sum := "23a94e4e96c16a9173b2c91fa1b828152456baba5ad7c5b4d46fd99360226fec", func := "sennit/sennitlaw19.HostsBox", spec := "hostsBox", unfollowed := true, recurses := true, named := ["sennit/rings.signs"], apart := false, laid := [("sennit/rings.signs", laid_sennit_rings_signs)], narrowed := true }
def HostsBoxUptoSaid : Prop := hostsBoxUptoRow.holds Tryd.pinned (OpenSpec.upto hostsBoxSpec)

/-- 'sennitlaw19.HostsLast', WHERE WHAT IT READS IS OF BULK AT MOST 1048576: true; the input reads as it did. -/
def hostsLastUptoRow : OpenClaim := { program := "ythekiiagacnhkaadoor", sum := "23a94e4e96c16a9173b2c91fa1b828152456baba5ad7c5b4d46fd99360226fec", func := "sennit/sennitlaw19.HostsLast", spec := "hostsLast", unfollowed := true, recurses := true, named := ["sennit/rings.signs"], apart := false, laid := [("sennit/rings.signs", laid_sennit_rings_signs)], narrowed := true }
def HostsLastUptoSaid : Prop := hostsLastUptoRow.holds Tryd.pinned (OpenSpec.upto hostsLastSpec)

/-- 'sennitlaw06.ClocksWhole', WHERE WHAT IT READS IS OF BULK AT MOST 1048576: true; the input reads as it did. -/
def clocksWholeUptoRow : OpenClaim := { program := "ythekiiagacnhkaadoor", sum := "23a94e4e96c16a9173b2c91fa1b828152456baba5ad7c5b4d46fd99360226fec", func := "sennit/sennitlaw06.ClocksWhole", spec := "clocksWhole", unfollowed := true, recurses := true, named := ["sennit/rings.signs"], apart := false, laid := [("sennit/rings.signs", laid_sennit_rings_signs)], narrowed := true }
def ClocksWholeUptoSaid : Prop := clocksWholeUptoRow.holds Tryd.pinned (OpenSpec.upto clocksWholeSpec)

/-- 'sennitlaw22.MembersOrder', WHERE WHAT IT READS IS OF BULK AT MOST 1048576: true; the input reads as it did. -/
def membersOrderUptoRow : OpenClaim := { program := "ythekiiagacnhkaadoor", sum := "23a94e4e96c16a9173b2c91fa1b828152456baba5ad7c5b4d46fd99360226fec", func := "sennit/sennitlaw22.MembersOrder", spec := "membersOrder", unfollowed := true, recurses := true, named := ["sennit/rings.signs"], apart := false, laid := [("sennit/rings.signs", laid_sennit_rings_signs)], narrowed := true }
def MembersOrderUptoSaid : Prop := membersOrderUptoRow.holds Tryd.pinned (OpenSpec.upto membersOrderSpec)

end Rows
end Go.Proofs.YthekiiagacnhkaaDoor
