/-
  NARROWER THAN 'FOR EVERY INPUT', by the rows' own cells (each row's printed sentence says how): WindowsVoid: laid · HostsOffer: laid · HostsBox: laid · HostsVoid: laid · HostsLast: laid · HostsAges: laid · ClocksVoid: laid · MembersOrder: laid.
  DERIVED. THE GIVEN ROWS OF THIS SEAT. 8 by the template 'for every input the law returns true; each argument reads behind the call as it read before'; 0 by the template 'total and deterministic' (their statements: YtpfkhlfkcmgdlaaDoorTotals.lean).
  GIVEN WITH THE SEED: the statements are not yours to turn. If you find one false, say at which input.
  Laid BY PROGRAM, IN A SANDBOX (cutbox-rows.mjs): the forced cells as the released guide's own fill.sh prints them over the translation 0bc34e1438f4bd44… (all of the seat's roots in one cut). By AI agents, Wed Nov 11 2026. No macro, syntax, notation, axiom, sorry.
-/
import Derived.Test.YtpfkhlfkcmgdlaaDoorChecked
import GoSem.Claim
import GoSem.ClaimJoined
import GoSem.ClaimMapViews
import Derived.JoinedTies
import Derived.KernelRfl
namespace Go.Proofs.YtpfkhlfkcmgdlaaDoor
/- THE CELL 'sum', in the pinned program and in every row, IS THE sha256 OF THE DUMP (.gsa) THAT YtpfkhlfkcmgdlaaDoorProg.lean LOADS. Nothing in Lean hashes anything: it is a label: what it is worth is what the hold of that sum in a sandbox is worth. -/
noncomputable def Tryd.pinned : Pinned := { name := "ytpfkhlfkcmgdlaadoor", sum := "0bc34e1438f4bd44516f1d279c7e82fc7844abf7b1e410a3c1122b454e8760d1", checked := Tryd.checked }
namespace Rows
def none {H : Type} : Left H := { results := [], args := [] }

/- WHAT THE LISTED PACKAGE-LEVEL VARIABLES READ AS WHEN THE CALL BEGINS. Each datum BY PROGRAM (the guide's laid-datum.mjs) off the statement by which the dump's own 'gosem.cut.vars' lays the variable. In a bare row this is a premise. The card (YtpfkhlfkcmgdlaaDoorCards.lean) ties it to the program's text. -/
def laid_sennit_rings_signs {H : Type} : DataW H := .agg [.lit (.int .i64 1), .lit (.int .i64 (-1))]
def laid_sennit_windows_roles {H : Type} : DataW H := .agg [.lit (.int .u8 1), .lit (.int .u8 1), .lit (.int .u8 2)]

/-- 'sennitlaw10.WindowsVoid': WHATEVER THE INPUT: true; the input reads as it did. -/
def windowsVoidSpec : ChangeSpec := { name := "windowsVoid", fn := fun _ => fun
  | [d] => { results := [.lit (.bool true)], args := [d] }
  | _ => none }
def windowsVoidRow : OpenClaim := { program := "ytpfkhlfkcmgdlaadoor", sum := "0bc34e1438f4bd44516f1d279c7e82fc7844abf7b1e410a3c1122b454e8760d1", func := "sennit/sennitlaw10.WindowsVoid", spec := "windowsVoid", unfollowed := true, recurses := true, named := ["sennit/windows.roles", "sennit/rings.signs"], apart := false, laid := [("sennit/rings.signs", laid_sennit_rings_signs), ("sennit/windows.roles", laid_sennit_windows_roles)] }
def WindowsVoidSaid : Prop := windowsVoidRow.holds Tryd.pinned (OpenSpec.ofChange windowsVoidSpec)

/-- ITS FALSE NEIGHBOUR: 'it returns false'. Refute it at one input. -/
def windowsVoidWrong : ChangeSpec := { name := "windowsVoid", fn := fun _ => fun
  | [d] => { results := [.lit (.bool false)], args := [d] }
  | _ => none }
def WindowsVoidWrongFalsely : Prop := windowsVoidRow.holds Tryd.pinned (OpenSpec.ofChange windowsVoidWrong)

/-- 'sennitlaw19.HostsOffer': WHATEVER THE INPUT: true; the input reads as it did. -/
def hostsOfferSpec : ChangeSpec := { name := "hostsOffer", fn := fun _ => fun
  | [d1, d2] => { results := [.lit (.bool true)], args := [d1, d2] }
  | _ => none }
def hostsOfferRow : OpenClaim := { program := "ytpfkhlfkcmgdlaadoor", sum := "0bc34e1438f4bd44516f1d279c7e82fc7844abf7b1e410a3c1122b454e8760d1", func := "sennit/sennitlaw19.HostsOffer", spec := "hostsOffer", unfollowed := true, recurses := true, named := ["sennit/rings.signs"], apart := false, laid := [("sennit/rings.signs", laid_sennit_rings_signs)] }
def HostsOfferSaid : Prop := hostsOfferRow.holds Tryd.pinned (OpenSpec.ofChange hostsOfferSpec)

/-- ITS FALSE NEIGHBOUR: 'it returns false'. Refute it at one input. -/
def hostsOfferWrong : ChangeSpec := { name := "hostsOffer", fn := fun _ => fun
  | [d1, d2] => { results := [.lit (.bool false)], args := [d1, d2] }
  | _ => none }
def HostsOfferWrongFalsely : Prop := hostsOfferRow.holds Tryd.pinned (OpenSpec.ofChange hostsOfferWrong)

/-- 'sennitlaw19.HostsBox': WHATEVER THE INPUT: true; the input reads as it did. -/
def hostsBoxSpec : ChangeSpec := { name := "hostsBox", fn := fun _ => fun
  | [d1, d2] => { results := [.lit (.bool true)], args := [d1, d2] }
  | _ => none }
def hostsBoxRow : OpenClaim := { program := "ytpfkhlfkcmgdlaadoor", sum := "0bc34e1438f4bd44516f1d279c7e82fc7844abf7b1e410a3c1122b454e8760d1", func := "sennit/sennitlaw19.HostsBox", spec := "hostsBox", unfollowed := true, recurses := true, named := ["sennit/rings.signs"], apart := false, laid := [("sennit/rings.signs", laid_sennit_rings_signs)] }
def HostsBoxSaid : Prop := hostsBoxRow.holds Tryd.pinned (OpenSpec.ofChange hostsBoxSpec)

/-- ITS FALSE NEIGHBOUR: 'it returns false'. Refute it at one input. -/
def hostsBoxWrong : ChangeSpec := { name := "hostsBox", fn := fun _ => fun
  | [d1, d2] => { results := [.lit (.bool false)], args := [d1, d2] }
  | _ => none }
def HostsBoxWrongFalsely : Prop := hostsBoxRow.holds Tryd.pinned (OpenSpec.ofChange hostsBoxWrong)

/-- 'sennitlaw19.HostsVoid': WHATEVER THE INPUT: true; the input reads as it did. -/
def hostsVoidSpec : ChangeSpec := { name := "hostsVoid", fn := fun _ => fun
  | [d] => { results := [.lit (.bool true)], args := [d] }
  | _ => none }
def hostsVoidRow : OpenClaim := { program := "ytpfkhlfkcmgdlaadoor", sum := "0bc34e1438f4bd44516f1d279c7e82fc7844abf7b1e410a3c1122b454e8760d1", func := "sennit/sennitlaw19.HostsVoid", spec := "hostsVoid", unfollowed := true, recurses := true, named := ["sennit/rings.signs"], apart := false, laid := [("sennit/rings.signs", laid_sennit_rings_signs)] }
def HostsVoidSaid : Prop := hostsVoidRow.holds Tryd.pinned (OpenSpec.ofChange hostsVoidSpec)

/-- ITS FALSE NEIGHBOUR: 'it returns false'. Refute it at one input. -/
def hostsVoidWrong : ChangeSpec := { name := "hostsVoid", fn := fun _ => fun
  | [d] => { results := [.lit (.bool false)], args := [d] }
  | _ => none }
def HostsVoidWrongFalsely : Prop := hostsVoidRow.holds Tryd.pinned (OpenSpec.ofChange hostsVoidWrong)

/-- 'sennitlaw19.HostsLast': WHATEVER THE INPUT: true; the input reads as it did. -/
def hostsLastSpec : ChangeSpec := { name := "hostsLast", fn := fun _ => fun
  | [d1, d2, d3] => { results := [.lit (.bool true)], args := [d1, d2, d3] }
  | _ => none }
def hostsLastRow : OpenClaim := { program := "ytpfkhlfkcmgdlaadoor", sum := "0bc34e1438f4bd44516f1d279c7e82fc7844abf7b1e410a3c1122b454e8760d1", func := "sennit/sennitlaw19.HostsLast", spec := "hostsLast", unfollowed := true, recurses := true, named := ["sennit/rings.signs"], apart := false, laid := [("sennit/rings.signs", laid_sennit_rings_signs)] }
def HostsLastSaid : Prop := hostsLastRow.holds Tryd.pinned (OpenSpec.ofChange hostsLastSpec)

/-- ITS FALSE NEIGHBOUR: 'it returns false'. Refute it at one input. -/
def hostsLastWrong : ChangeSpec := { name := "hostsLast", fn := fun _ => fun
  | [d1, d2, d3] => { results := [.lit (.bool false)], args := [d1, d2, d3] }
  | _ => none }
def HostsLastWrongFalsely : Prop := hostsLastRow.holds Tryd.pinned (OpenSpec.ofChange hostsLastWrong)

/-- 'sennitlaw19.HostsAges': WHATEVER THE INPUT: true; the input reads as it did. -/
def hostsAgesSpec : ChangeSpec := { name := "hostsAges", fn := fun _ => fun
  | [d1, d2, d3] => { results := [.lit (.bool true)], args := [d1, d2, d3] }
  | _ => none }
def hostsAgesRow : OpenClaim := { program := "ytpfkhlfkcmgdlaadoor", sum := "0bc34e1438f4bd44516f1d279c7e82fc7844abf7b1e410a3c1122b454e8760d1", func := "sennit/sennitlaw19.HostsAges", spec := "hostsAges", unfollowed := true, recurses := true, named := ["sennit/rings.signs"], apart := false, laid := [("sennit/rings.signs", laid_sennit_rings_signs)] }
def HostsAgesSaid : Prop := hostsAgesRow.holds Tryd.pinned (OpenSpec.ofChange hostsAgesSpec)

/-- ITS FALSE NEIGHBOUR: 'it returns false'. Refute it at one input. -/
def hostsAgesWrong : ChangeSpec := { name := "hostsAges", fn := fun _ => fun
  | [d1, d2, d3] => { results := [.lit (.bool false)], args := [d1, d2, d3] }
  | _ => none }
def HostsAgesWrongFalsely : Prop := hostsAgesRow.holds Tryd.pinned (OpenSpec.ofChange hostsAgesWrong)

/-- 'sennitlaw06.ClocksVoid': WHATEVER THE INPUT: true; the input reads as it did. -/
def clocksVoidSpec : ChangeSpec := { name := "clocksVoid", fn := fun _ => fun
  | [d1, d2] => { results := [.lit (.bool true)], args := [d1, d2] }
  | _ => none }
def clocksVoidRow : OpenClaim := { program := "ytpfkhlfkcmgdlaadoor", sum := "0bc34e1438f4bd44516f1d279c7e82fc7844abf7b1e410a3c1122b454e8760d1", func := "sennit/sennitlaw06.ClocksVoid", spec := "clocksVoid", unfollowed := true, recurses := true, named := ["sennit/rings.signs"], apart := false, laid := [("sennit/rings.signs", laid_sennit_rings_signs)] }
def ClocksVoidSaid : Prop := clocksVoidRow.holds Tryd.pinned (OpenSpec.ofChange clocksVoidSpec)

/-- ITS FALSE NEIGHBOUR: 'it returns false'. Refute it at one input. -/
def clocksVoidWrong : ChangeSpec := { name := "clocksVoid", fn := fun _ => fun
  | [d1, d2] => { results := [.lit (.bool false)], args := [d1, d2] }
  | _ => none }
def ClocksVoidWrongFalsely : Prop := clocksVoidRow.holds Tryd.pinned (OpenSpec.ofChange clocksVoidWrong)

/-- 'sennitlaw22.MembersOrder': WHATEVER THE INPUT: true; the input reads as it did. -/
def membersOrderSpec : ChangeSpec := { name := "membersOrder", fn := fun _ => fun
  | [d1, d2, d3] => { results := [.lit (.bool true)], args := [d1, d2, d3] }
  | _ => none }
def membersOrderRow : OpenClaim := { program := "ytpfkhlfkcmgdlaadoor", sum := "0bc34e1438f4bd44516f1d279c7e82fc7844abf7b1e410a3c1122b454e8760d1", func := "sennit/sennitlaw22.MembersOrder", spec := "membersOrder", unfollowed := true, recurses := true, named := ["sennit/rings.signs"], apart := false, laid := [("sennit/rings.signs", laid_sennit_rings_signs)] }
def MembersOrderSaid : Prop := membersOrderRow.holds Tryd.pinned (OpenSpec.ofChange membersOrderSpec)

/-- ITS FALSE NEIGHBOUR: 'it returns false'. Refute it at one input. -/
def membersOrderWrong : ChangeSpec := { name := "membersOrder", fn := fun _ => fun
  | [d1, d2, d3] => { results := [.lit (.bool false)], args := [d1, d2, d3] }
  | _ => none }
def MembersOrderWrongFalsely : Prop := membersOrderRow.holds Tryd.pinned (OpenSpec.ofChange membersOrderWrong)

/- THE SECOND FORM. 'bulk': how many values and letters a reading holds, each counted each time it is reached (what is shared counts as often as it is met; a slice's spare places count too). A statement '..UptoSaid' is the law's where the arguments, and the package variables that the reading takes, are together of bulk at most 1048576: NARROWER than '..Said'. Prove '..Said' where nothing that the law and all that it calls make is longer than what came in: it says more and counts as full. Else prove '..UptoSaid'. A law counts once. -/
mutual
def uptoBulk {H : Type} : DataW H → Nat
  | .lit (.string bytes) => bytes.length + 1
  | .lit _ => 1
  | .nil => 1
  | .ptr d => uptoBulk d + 1
  | .slice elems spare => uptoBulkAll elems + uptoBulkAll spare + 1
  | .agg parts => uptoBulkAll parts + 1
  | .iface _ d => uptoBulk d + 1
  | .map entries => uptoBulkEntries entries + 1
  | .held _ => 1
def uptoBulkAll {H : Type} : List (DataW H) → Nat
  | [] => 0
  | d :: r => uptoBulk d + uptoBulkAll r
def uptoBulkEntries {H : Type} : List (Lit × DataW H) → Nat
  | [] => 0
  | x :: r => uptoBulkEntry x + uptoBulkEntries r
def uptoBulkEntry {H : Type} : Lit × DataW H → Nat
  | (.string bytes, d) => bytes.length + uptoBulk d + 1
  | (_, d) => uptoBulk d + 1
 end
def uptoSmall : (H : Type) → List (DataW H) → Bool := fun _ ds => decide (uptoBulkAll ds ≤ 1048576)
def OpenSpec.upto (s : _root_.Go.ChangeSpec) : _root_.Go.OpenSpec := { _root_.Go.OpenSpec.ofChange s with cond := some uptoSmall }

/-- 'sennitlaw10.WindowsVoid', WHERE WHAT IT READS IS OF BULK AT MOST 1048576: true; the input reads as it did. -/
def windowsVoidUptoRow : OpenClaim := { program := "ytpfkhlfkcmgdlaadoor", sum := "0bc34e1438f4bd44516f1d279c7e82fc7844abf7b1e410a3c1122b454e8760d1", func := "sennit/sennitlaw10.WindowsVoid", spec := "windowsVoid", unfollowed := true, recurses := true, named := ["sennit/windows.roles", "sennit/rings.signs"], apart := false, laid := [("sennit/rings.signs", laid_sennit_rings_signs), ("sennit/windows.roles", laid_sennit_windows_roles)], narrowed := true }
def WindowsVoidUptoSaid : Prop := windowsVoidUptoRow.holds Tryd.pinned (OpenSpec.upto windowsVoidSpec)

/-- 'sennitlaw19.HostsOffer', WHERE WHAT IT READS IS OF BULK AT MOST 1048576: true; the input reads as it did. -/
def hostsOfferUptoRow : OpenClaim := { program := "ytpfkhlfkcmgdlaadoor", sum := "0bc34e1438f4bd44516f1d279c7e82fc7844abf7b1e410a3c1122b454e8760d1", func := "sennit/sennitlaw19.HostsOffer", spec := "hostsOffer", unfollowed := true, recurses := true, named := ["sennit/rings.signs"], apart := false, laid := [("sennit/rings.signs", laid_sennit_rings_signs)], narrowed := true }
def HostsOfferUptoSaid : Prop := hostsOfferUptoRow.holds Tryd.pinned (OpenSpec.upto hostsOfferSpec)

/-- 'sennitlaw19.HostsBox', WHERE WHAT IT READS IS OF BULK AT MOST 1048576: true; the input reads as it did. -/
def hostsBoxUptoRow : OpenClaim := { program := "ytpfkhlfkcmgdlaadoor", sum := "0bc34e1438f4bd44516f1d279c7e82fc7844abf7b1e410a3c1122b454e8760d1", func := "sennit/sennitlaw19.HostsBox", spec := "hostsBox", unfollowed := true, recurses := true, named := ["sennit/rings.signs"], apart := false, laid := [("sennit/rings.signs", laid_sennit_rings_signs)], narrowed := true }
def HostsBoxUptoSaid : Prop := hostsBoxUptoRow.holds Tryd.pinned (OpenSpec.upto hostsBoxSpec)

/-- 'sennitlaw19.HostsVoid', WHERE WHAT IT READS IS OF BULK AT MOST 1048576: true; the input reads as it did. -/
def hostsVoidUptoRow : OpenClaim := { program := "ytpfkhlfkcmgdlaadoor", sum := "0bc34e1438f4bd44516f1d279c7e82fc7844abf7b1e410a3c1122b454e8760d1", func := "sennit/sennitlaw19.HostsVoid", spec := "hostsVoid", unfollowed := true, recurses := true, named := ["sennit/rings.signs"], apart := false, laid := [("sennit/rings.signs", laid_sennit_rings_signs)], narrowed := true }
def HostsVoidUptoSaid : Prop := hostsVoidUptoRow.holds Tryd.pinned (OpenSpec.upto hostsVoidSpec)

/-- 'sennitlaw19.HostsLast', WHERE WHAT IT READS IS OF BULK AT MOST 1048576: true; the input reads as it did. -/
def hostsLastUptoRow : OpenClaim := { program := "ytpfkhlfkcmgdlaadoor", sum := "0bc34e1438f4bd44516f1d279c7e82fc7844abf7b1e410a3c1122b454e8760d1", func := "sennit/sennitlaw19.HostsLast", spec := "hostsLast", unfollowed := true, recurses := true, named := ["sennit/rings.signs"], apart := false, laid := [("sennit/rings.signs", laid_sennit_rings_signs)], narrowed := true }
def HostsLastUptoSaid : Prop := hostsLastUptoRow.holds Tryd.pinned (OpenSpec.upto hostsLastSpec)

/-- 'sennitlaw19.HostsAges', WHERE WHAT IT READS IS OF BULK AT MOST 1048576: true; the input reads as it did. -/
def hostsAgesUptoRow : OpenClaim := { program := "ytpfkhlfkcmgdlaadoor", sum := "0bc34e1438f4bd44516f1d279c7e82fc7844abf7b1e410a3c1122b454e8760d1", func := "sennit/sennitlaw19.HostsAges", spec := "hostsAges", unfollowed := true, recurses := true, named := ["sennit/rings.signs"], apart := false, laid := [("sennit/rings.signs", laid_sennit_rings_signs)], narrowed := true }
def HostsAgesUptoSaid : Prop := hostsAgesUptoRow.holds Tryd.pinned (OpenSpec.upto hostsAgesSpec)

/-- 'sennitlaw06.ClocksVoid', WHERE WHAT IT READS IS OF BULK AT MOST 1048576: true; the input reads as it did. -/
def clocksVoidUptoRow : OpenClaim := { program := "ytpfkhlfkcmgdlaadoor", sum := "0bc34e1438f4bd44516f1d279c7e82fc7844abf7b1e410a3c1122b454e8760d1", func := "sennit/sennitlaw06.ClocksVoid", spec := "clocksVoid", unfollowed := true, recurses := true, named := ["sennit/rings.signs"], apart := false, laid := [("sennit/rings.signs", laid_sennit_rings_signs)], narrowed := true }
def ClocksVoidUptoSaid : Prop := clocksVoidUptoRow.holds Tryd.pinned (OpenSpec.upto clocksVoidSpec)

/-- 'sennitlaw22.MembersOrder', WHERE WHAT IT READS IS OF BULK AT MOST 1048576: true; the input reads as it did. -/
def membersOrderUptoRow : OpenClaim := { program := "ytpfkhlfkcmgdlaadoor", sum := "0bc34e1438f4bd44516f1d279c7e82fc7844abf7b1e410a3c1122b454e8760d1", func := "sennit/sennitlaw22.MembersOrder", spec := "membersOrder", unfollowed := true, recurses := true, named := ["sennit/rings.signs"], apart := false, laid := [("sennit/rings.signs", laid_sennit_rings_signs)], narrowed := true }
def MembersOrderUptoSaid : Prop := membersOrderUptoRow.holds Tryd.pinned (OpenSpec.upto membersOrderSpec)

end Rows
end Go.Proofs.YtpfkhlfkcmgdlaaDoor
