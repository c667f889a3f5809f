/-
  NARROWER THAN 'FOR EVERY INPUT', by the rows' own cells (each row's printed sentence says how): MembersView: laid · RanksStay: laid · RanksHeir: laid.
  DERIVED. THE GIVEN ROWS OF THIS SEAT. 3 by the template 'for every input the law returns true; each argument reads behind the call as it read before'; 0 by the template 'total and deterministic' (their statements: YthekiiagacnhkaaGreatDoorTotals.lean).
  GIVEN WITH THE SEED: the statements are not yours to turn. If you find one false, say at which input.
  Laid BY PROGRAM, IN A SANDBOX (cutbox-rows.mjs): the forced cells as the released guide's own fill.sh prints them over the translation daf735baf7b8d6b1… (all of the seat's roots in one cut). By AI agents, Wed Nov 11 2026. No macro, syntax, notation, axiom, sorry.
-/
import Derived.Test.YthekiiagacnhkaaGreatDoorChecked
import GoSem.Claim
import GoSem.ClaimJoined
import GoSem.ClaimMapViews
import Derived.JoinedTies
import Derived.KernelRfl
namespace Go.Proofs.YthekiiagacnhkaaGreatDoor
/- THE CELL 'sum', in the pinned program and in every row, IS THE sha256 OF THE DUMP (.gsa) THAT YthekiiagacnhkaaGreatDoorProg.lean LOADS. Nothing in Lean hashes anything: it is a label: what it is worth is what the hold of that sum in a sandbox is worth. -/
noncomputable def Tryz.pinned : Pinned := { name := "ythekiiagacnhkaagreatdoor", sum := "daf735baf7b8d6b10672c0803a237169ab1b1e1cac5f05ee7e365b7bc51f25cd", checked := Tryz.checked }
namespace Rows
def none {H : Type} : Left H := { results := [], args := [] }

/- WHAT THE LISTED PACKAGE-LEVEL VARIABLES READ AS WHEN THE CALL BEGINS. Each datum BY PROGRAM (the guide's laid-datum.mjs) off the statement by which the dump's own 'gosem.cut.vars' lays the variable. In a bare row this is a premise. The card (YthekiiagacnhkaaGreatDoorCards.lean) ties it to the program's text. -/
def laid_sennit_rings_signs {H : Type} : DataW H := .agg [.lit (.int .i64 1), .lit (.int .i64 (-1))]

/-- 'sennitlaw22.MembersView': WHATEVER THE INPUT: true; the input reads as it did. -/
def membersViewSpec : ChangeSpec := { name := "membersView", fn := fun _ => fun
  | [d1, d2, d3] => { results := [.lit (.bool true)], args := [d1, d2, d3] }
  | _ => none }
def membersViewRow : OpenClaim := { program := "ythekiiagacnhkaagreatdoor", sum := "daf735baf7b8d6b10672c0803a237169ab1b1e1cac5f05ee7e365b7bc51f25cd", func := "sennit/sennitlaw22.MembersView", spec := "membersView", unfollowed := true, recurses := true, named := ["sennit/rings.signs"], plainKeys := false, apart := false, laid := [("sennit/rings.signs", laid_sennit_rings_signs)] }
def MembersViewSaid : Prop := membersViewRow.holds Tryz.pinned (OpenSpec.ofChange membersViewSpec)

/-- ITS FALSE NEIGHBOUR: 'it returns false'. Refute it at one input. -/
def membersViewWrong : ChangeSpec := { name := "membersView", fn := fun _ => fun
  | [d1, d2, d3] => { results := [.lit (.bool false)], args := [d1, d2, d3] }
  | _ => none }
def MembersViewWrongFalsely : Prop := membersViewRow.holds Tryz.pinned (OpenSpec.ofChange membersViewWrong)

/-- 'sennitlaw24.RanksStay': WHATEVER THE INPUT: true; the input reads as it did. -/
def ranksStaySpec : ChangeSpec := { name := "ranksStay", fn := fun _ => fun
  | [d1, d2] => { results := [.lit (.bool true)], args := [d1, d2] }
  | _ => none }
def ranksStayRow : OpenClaim := { program := "ythekiiagacnhkaagreatdoor", sum := "daf735baf7b8d6b10672c0803a237169ab1b1e1cac5f05ee7e365b7bc51f25cd", func := "sennit/sennitlaw24.RanksStay", spec := "ranksStay", unfollowed := true, recurses := true, named := ["sennit/rings.signs"], plainKeys := false, apart := false, laid := [("sennit/rings.signs", laid_sennit_rings_signs)] }
def RanksStaySaid : Prop := ranksStayRow.holds Tryz.pinned (OpenSpec.ofChange ranksStaySpec)

/-- ITS FALSE NEIGHBOUR: 'it returns false'. Refute it at one input. -/
def ranksStayWrong : ChangeSpec := { name := "ranksStay", fn := fun _ => fun
  | [d1, d2] => { results := [.lit (.bool false)], args := [d1, d2] }
  | _ => none }
def RanksStayWrongFalsely : Prop := ranksStayRow.holds Tryz.pinned (OpenSpec.ofChange ranksStayWrong)

/-- 'sennitlaw24.RanksHeir': WHATEVER THE INPUT: true; the input reads as it did. -/
def ranksHeirSpec : ChangeSpec := { name := "ranksHeir", fn := fun _ => fun
  | [d1, d2] => { results := [.lit (.bool true)], args := [d1, d2] }
  | _ => none }
def ranksHeirRow : OpenClaim := { program := "ythekiiagacnhkaagreatdoor", sum := "daf735baf7b8d6b10672c0803a237169ab1b1e1cac5f05ee7e365b7bc51f25cd", func := "sennit/sennitlaw24.RanksHeir", spec := "ranksHeir", unfollowed := true, recurses := true, named := ["sennit/rings.signs"], plainKeys := false, apart := false, laid := [("sennit/rings.signs", laid_sennit_rings_signs)] }
def RanksHeirSaid : Prop := ranksHeirRow.holds Tryz.pinned (OpenSpec.ofChange ranksHeirSpec)

/-- ITS FALSE NEIGHBOUR: 'it returns false'. Refute it at one input. -/
def ranksHeirWrong : ChangeSpec := { name := "ranksHeir", fn := fun _ => fun
  | [d1, d2] => { results := [.lit (.bool false)], args := [d1, d2] }
  | _ => none }
def RanksHeirWrongFalsely : Prop := ranksHeirRow.holds Tryz.pinned (OpenSpec.ofChange ranksHeirWrong)

/- THE SECOND FORM. 'bulk': how many values and letters a reading holds, each counted each time it is reached (what is shared counts as often as it is met; a slice's spare places count too). A statement '..UptoSaid' is the law's where the arguments, and the package variables that the reading takes, are together of bulk at most 1048576: NARROWER than '..Said'. Prove '..Said' where nothing that the law and all that it calls make is longer than what came in: it says more and counts as full. Else prove '..UptoSaid'. A law counts once. -/
mutual
def uptoBulk {H : Type} : DataW H → Nat
  | .lit (.string bytes) => bytes.length + 1
  | .lit _ => 1
  | .nil => 1
  | .ptr d => uptoBulk d + 1
  | .slice elems spare => uptoBulkAll elems + uptoBulkAll spare + 1
  | .agg parts => uptoBulkAll parts + 1
  | .iface _ d => uptoBulk d + 1
  | .map entries => uptoBulkEntries entries + 1
  | .held _ => 1
def uptoBulkAll {H : Type} : List (DataW H) → Nat
  | [] => 0
  | d :: r => uptoBulk d + uptoBulkAll r
def uptoBulkEntries {H : Type} : List (Lit × DataW H) → Nat
  | [] => 0
  | x :: r => uptoBulkEntry x + uptoBulkEntries r
def uptoBulkEntry {H : Type} : Lit × DataW H → Nat
  | (.string bytes, d) => bytes.length + uptoBulk d + 1
  | (_, d) => uptoBulk d + 1
 end
def uptoSmall : (H : Type) → List (DataW H) → Bool := fun _ ds => decide (uptoBulkAll ds ≤ 1048576)
def OpenSpec.upto (s : _root_.Go.ChangeSpec) : _root_.Go.OpenSpec := { _root_.Go.OpenSpec.ofChange s with cond := some uptoSmall }

/-- 'sennitlaw22.MembersView', WHERE WHAT IT READS IS OF BULK AT MOST 1048576: true; the input reads as it did. -/
def membersViewUptoRow : OpenClaim := { program := "ythekiiagacnhkaagreatdoor", sum := "daf735baf7b8d6b10672c0803a237169ab1b1e1cac5f05ee7e365b7bc51f25cd", func := "sennit/sennitlaw22.MembersView", spec := "membersView", unfollowed := true, recurses := true, named := ["sennit/rings.signs"], plainKeys := false, apart := false, laid := [("sennit/rings.signs", laid_sennit_rings_signs)], narrowed := true }
def MembersViewUptoSaid : Prop := membersViewUptoRow.holds Tryz.pinned (OpenSpec.upto membersViewSpec)

/-- 'sennitlaw24.RanksStay', WHERE WHAT IT READS IS OF BULK AT MOST 1048576: true; the input reads as it did. -/
def ranksStayUptoRow : OpenClaim := { program := "ythekiiagacnhkaagreatdoor", sum := "daf735baf7b8d6b10672c0803a237169ab1b1e1cac5f05ee7e365b7bc51f25cd", func := "sennit/sennitlaw24.RanksStay", spec := "ranksStay", unfollowed := true, recurses := true, named := ["sennit/rings.signs"], plainKeys := false, apart := false, laid := [("sennit/rings.signs", laid_sennit_rings_signs)], narrowed := true }
def RanksStayUptoSaid : Prop := ranksStayUptoRow.holds Tryz.pinned (OpenSpec.upto ranksStaySpec)

/-- 'sennitlaw24.RanksHeir', WHERE WHAT IT READS IS OF BULK AT MOST 1048576: true; the input reads as it did. -/
def ranksHeirUptoRow : OpenClaim := { program := "ythekiiagacnhkaagreatdoor", sum := "daf735baf7b8d6b10672c0803a237169ab1b1e1cac5f05ee7e365b7bc51f25cd", func := "sennit/sennitlaw24.RanksHeir", spec := "ranksHeir", unfollowed := true, recurses := true, named := ["sennit/rings.signs"], plainKeys := false, apart := false, laid := [("sennit/rings.signs", laid_sennit_rings_signs)], narrowed := true }
def RanksHeirUptoSaid : Prop := ranksHeirUptoRow.holds Tryz.pinned (OpenSpec.upto ranksHeirSpec)

end Rows
end Go.Proofs.YthekiiagacnhkaaGreatDoor
