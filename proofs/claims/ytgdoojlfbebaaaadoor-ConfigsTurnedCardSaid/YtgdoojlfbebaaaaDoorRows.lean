/-
  NARROWER THAN 'FOR EVERY INPUT', by the rows' own cells (each row's printed sentence says how): ConfigsTurned: laid · HostsBox: laid · MembersBase: laid · MembersAgree: laid.
  DERIVED. THE GIVEN ROWS OF THIS SEAT. 4 by the template 'for every input the law returns true; each argument reads behind the call as it read before'; 0 by the template 'total and deterministic' (their statements: YtgdoojlfbebaaaaDoorTotals.lean).
  GIVEN WITH THE SEED: the statements are not yours to turn. If you find one false, say at which input.
  Laid BY PROGRAM, IN A SANDBOX (cutbox-rows.mjs): the forced cells as the released guide's own fill.sh prints them over the translation fc86117c57f97f29… (all of the seat's roots in one cut). By AI agents, Wed Nov 11 2026. No macro, syntax, notation, axiom, sorry.
-/
import Derived.Test.YtgdoojlfbebaaaaDoorChecked
import GoSem.Claim
import GoSem.ClaimJoined
import GoSem.ClaimMapViews
import Derived.JoinedTies
import Derived.KernelRfl
namespace Go.Proofs.YtgdoojlfbebaaaaDoor
/- THE CELL 'sum', in the pinned program and in every row, IS THE sha256 OF THE DUMP (.gsa) THAT YtgdoojlfbebaaaaDoorProg.lean LOADS. Nothing in Lean hashes anything: it is a label: what it is worth is what the hold of that sum in a sandbox is worth. -/
noncomputable def Tryd.pinned : Pinned := { name := "ytgdoojlfbebaaaadoor", sum := "fc86117c57f97f29b79e7cc54b0651048a6e5bf4b0a86568793c14e290877532", checked := Tryd.checked }
namespace Rows
def none {H : Type} : Left H := { results := [], args := [] }

/- WHAT THE LISTED PACKAGE-LEVEL VARIABLES READ AS WHEN THE CALL BEGINS. Each datum BY PROGRAM (the guide's laid-datum.mjs) off the statement by which the dump's own 'gosem.cut.vars' lays the variable. In a bare row this is a premise. The card (YtgdoojlfbebaaaaDoorCards.lean) ties it to the program's text. -/
def laid_sennit_rings_signs {H : Type} : DataW H := .agg [.lit (.int .i64 1), .lit (.int .i64 (-1))]

/-- 'sennitlaw04.ConfigsTurned': WHATEVER THE INPUT: true; the input reads as it did. -/
def configsTurnedSpec : ChangeSpec := { name := "configsTurned", fn := fun _ => fun
  | [d1, d2] => { results := [.lit (.bool true)], args := [d1, d2] }
  | _ => none }
def configsTurnedRow : OpenClaim := { program := "ytgdoojlfbebaaaadoor", sum := "fc86117c57f97f29b79e7cc54b0651048a6e5bf4b0a86568793c14e290877532", func := "sennit/sennitlaw04.ConfigsTurned", spec := "configsTurned", unfollowed := true, recurses := true, named := ["sennit/rings.signs"], plainKeys := false, apart := false, laid := [("sennit/rings.signs", laid_sennit_rings_signs)] }
def ConfigsTurnedSaid : Prop := configsTurnedRow.holds Tryd.pinned (OpenSpec.ofChange configsTurnedSpec)

/-- ITS FALSE NEIGHBOUR: 'it returns false'. Refute it at one input. -/
def configsTurnedWrong : ChangeSpec := { name := "configsTurned", fn := fun _ => fun
  | [d1, d2] => { results := [.lit (.bool false)], args := [d1, d2] }
  | _ => none }
def ConfigsTurnedWrongFalsely : Prop := configsTurnedRow.holds Tryd.pinned (OpenSpec.ofChange configsTurnedWrong)

/-- 'sennitlaw19.HostsBox': WHATEVER THE INPUT: true; the input reads as it did. -/
def hostsBoxSpec : ChangeSpec := { name := "hostsBox", fn := fun _ => fun
  | [d1, d2] => { results := [.lit (.bool true)], args := [d1, d2] }
  | _ => none }
def hostsBoxRow : OpenClaim := { program := "ytgdoojlfbebaaaadoor", sum := "fc86117c57f97f29b79e7cc54b0651048a6e5bf4b0a86568793c14e290877532", func := "sennit/sennitlaw19.HostsBox", spec := "hostsBox", unfollowed := true, recurses := true, named := ["sennit/rings.signs"], plainKeys := false, apart := false, laid := [("sennit/rings.signs", laid_sennit_rings_signs)] }
def HostsBoxSaid : Prop := hostsBoxRow.holds Tryd.pinned (OpenSpec.ofChange hostsBoxSpec)

/-- ITS FALSE NEIGHBOUR: 'it returns false'. Refute it at one input. -/
def hostsBoxWrong : ChangeSpec := { name := "hostsBox", fn := fun _ => fun
  | [d1, d2] => { results := [.lit (.bool false)], args := [d1, d2] }
  | _ => none }
def HostsBoxWrongFalsely : Prop := hostsBoxRow.holds Tryd.pinned (OpenSpec.ofChange hostsBoxWrong)

/-- 'sennitlaw22.MembersBase': WHATEVER THE INPUT: true; the input reads as it did. -/
def membersBaseSpec : ChangeSpec := { name := "membersBase", fn := fun _ => fun
  | [d1, d2] => { results := [.lit (.bool true)], args := [d1, d2] }
  | _ => none }
def membersBaseRow : OpenClaim := { program := "ytgdoojlfbebaaaadoor", sum := "fc86117c57f97f29b79e7cc54b0651048a6e5bf4b0a86568793c14e290877532", func := "sennit/sennitlaw22.MembersBase", spec := "membersBase", unfollowed := true, recurses := true, named := ["sennit/rings.signs"], plainKeys := false, apart := false, laid := [("sennit/rings.signs", laid_sennit_rings_signs)] }
def MembersBaseSaid : Prop := membersBaseRow.holds Tryd.pinned (OpenSpec.ofChange membersBaseSpec)

/-- ITS FALSE NEIGHBOUR: 'it returns false'. Refute it at one input. -/
def membersBaseWrong : ChangeSpec := { name := "membersBase", fn := fun _ => fun
  | [d1, d2] => { results := [.lit (.bool false)], args := [d1, d2] }
  | _ => none }
def MembersBaseWrongFalsely : Prop := membersBaseRow.holds Tryd.pinned (OpenSpec.ofChange membersBaseWrong)

/-- 'sennitlaw22.MembersAgree': WHATEVER THE INPUT: true; the input reads as it did. -/
def membersAgreeSpec : ChangeSpec := { name := "membersAgree", fn := fun _ => fun
  | [d1, d2, d3] => { results := [.lit (.bool true)], args := [d1, d2, d3] }
  | _ => none }
def membersAgreeRow : OpenClaim := { program := "ytgdoojlfbebaaaadoor", sum := "fc86117c57f97f29b79e7cc54b0651048a6e5bf4b0a86568793c14e290877532", func := "sennit/sennitlaw22.MembersAgree", spec := "membersAgree", unfollowed := true, recurses := true, named := ["sennit/rings.signs"], plainKeys := false, apart := false, laid := [("sennit/rings.signs", laid_sennit_rings_signs)] }
def MembersAgreeSaid : Prop := membersAgreeRow.holds Tryd.pinned (OpenSpec.ofChange membersAgreeSpec)

/-- ITS FALSE NEIGHBOUR: 'it returns false'. Refute it at one input. -/
def membersAgreeWrong : ChangeSpec := { name := "membersAgree", fn := fun _ => fun
  | [d1, d2, d3] => { results := [.lit (.bool false)], args := [d1, d2, d3] }
  | _ => none }
def MembersAgreeWrongFalsely : Prop := membersAgreeRow.holds Tryd.pinned (OpenSpec.ofChange membersAgreeWrong)

/- THE SECOND FORM. 'bulk': how many values and letters a reading holds, each counted each time it is reached (what is shared counts as often as it is met; a slice's spare places count too). A statement '..UptoSaid' is the law's where the arguments, and the package variables that the reading takes, are together of bulk at most 1048576: NARROWER than '..Said'. Prove '..Said' where nothing that the law and all that it calls make is longer than what came in: it says more and counts as full. Else prove '..UptoSaid'. A law counts once. -/
mutual
def uptoBulk {H : Type} : DataW H → Nat
  | .lit (.string bytes) => bytes.length + 1
  | .lit _ => 1
  | .nil => 1
  | .ptr d => uptoBulk d + 1
  | .slice elems spare => uptoBulkAll elems + uptoBulkAll spare + 1
  | .agg parts => uptoBulkAll parts + 1
  | .iface _ d => uptoBulk d + 1
  | .map entries => uptoBulkEntries entries + 1
  | .held _ => 1
def uptoBulkAll {H : Type} : List (DataW H) → Nat
  | [] => 0
  | d :: r => uptoBulk d + uptoBulkAll r
def uptoBulkEntries {H : Type} : List (Lit × DataW H) → Nat
  | [] => 0
  | x :: r => uptoBulkEntry x + uptoBulkEntries r
def uptoBulkEntry {H : Type} : Lit × DataW H → Nat
  | (.string bytes, d) => bytes.length + uptoBulk d + 1
  | (_, d) => uptoBulk d + 1
 end
def uptoSmall : (H : Type) → List (DataW H) → Bool := fun _ ds => decide (uptoBulkAll ds ≤ 1048576)
def OpenSpec.upto (s : _root_.Go.ChangeSpec) : _root_.Go.OpenSpec := { _root_.Go.OpenSpec.ofChange s with cond := some uptoSmall }

/-- 'sennitlaw04.ConfigsTurned', WHERE WHAT IT READS IS OF BULK AT MOST 1048576: true; the input reads as it did. -/
def configsTurnedUptoRow : OpenClaim := { program := "ytgdoojlfbebaaaadoor", sum := "fc86117c57f97f29b79e7cc54b0651048a6e5bf4b0a86568793c14e290877532", func := "sennit/sennitlaw04.ConfigsTurned", spec := "configsTurned", unfollowed := true, recurses := true, named := ["sennit/rings.signs"], plainKeys := false, apart := false, laid := [("sennit/rings.signs", laid_sennit_rings_signs)], narrowed := true }
def ConfigsTurnedUptoSaid : Prop := configsTurnedUptoRow.holds Tryd.pinned (OpenSpec.upto configsTurnedSpec)

/-- 'sennitlaw19.HostsBox', WHERE WHAT IT READS IS OF BULK AT MOST 1048576: true; the input reads as it did. -/
def hostsBoxUptoRow : OpenClaim := { program := "ytgdoojlfbebaaaadoor", sum := "fc86117c57f97f29b79e7cc54b0651048a6e5bf4b0a86568793c14e290877532", func := "sennit/sennitlaw19.HostsBox", spec := "hostsBox", unfollowed := true, recurses := true, named := ["sennit/rings.signs"], plainKeys := false, apart := false, laid := [("sennit/rings.signs", laid_sennit_rings_signs)], narrowed := true }
def HostsBoxUptoSaid : Prop := hostsBoxUptoRow.holds Tryd.pinned (OpenSpec.upto hostsBoxSpec)

/-- 'sennitlaw22.MembersBase', WHERE WHAT IT READS IS OF BULK AT MOST 1048576: true; the input reads as it did. -/
def membersBaseUptoRow : OpenClaim := { program := "ytgdoojlfbebaaaadoor", sum := "fc86117c57f97f29b79e7cc54b0651048a6e5bf4b0a86568793c14e290877532", func := "sennit/sennitlaw22.MembersBase", spec := "membersBase", unfollowed := true, recurses := true, named := ["sennit/rings.signs"], plainKeys := false, apart := false, laid := [("sennit/rings.signs", laid_sennit_rings_signs)], narrowed := true }
def MembersBaseUptoSaid : Prop := membersBaseUptoRow.holds Tryd.pinned (OpenSpec.upto membersBaseSpec)

/-- 'sennitlaw22.MembersAgree', WHERE WHAT IT READS IS OF BULK AT MOST 1048576: true; the input reads as it did. -/
def membersAgreeUptoRow : OpenClaim := { program := "ytgdoojlfbebaaaadoor", sum := "fc86117c57f97f29b79e7cc54b0651048a6e5bf4b0a86568793c14e290877532", func := "sennit/sennitlaw22.MembersAgree", spec := "membersAgree", unfollowed := true, recurses := true, named := ["sennit/rings.signs"], plainKeys := false, apart := false, laid := [("sennit/rings.signs", laid_sennit_rings_signs)], narrowed := true }
def MembersAgreeUptoSaid : Prop := membersAgreeUptoRow.holds Tryd.pinned (OpenSpec.upto membersAgreeSpec)

end Rows
end Go.Proofs.YtgdoojlfbebaaaaDoor
