/-
  NARROWER THAN 'FOR EVERY INPUT', by the rows' own cells (each row's printed sentence says how): ModesAny: laid · ModesTotal: laid · ModesWorse: laid · ConfigsNew: laid · ConfigsTurned: laid · ConfigsEdges: laid · ActuatorsAny: laid · ActuatorsRun: laid · ConfigsHalves: laid · WindowsOver: laid · WindowsOf: laid.
  DERIVED. THE GIVEN ROWS OF THIS SEAT. 11 by the template 'for every input the law returns true; each argument reads behind the call as it read before'; 0 by the template 'total and deterministic' (their statements: YtiflbhmccenemaaDoorTotals.lean).
  GIVEN WITH THE SEED: the statements are not yours to turn. If you find one false, say at which input.
  Laid BY PROGRAM, IN A SANDBOX (cutbox-rows.mjs): the forced cells as the released guide's own fill.sh prints them over the translation 701bd02f2ab29e6a… (all of the seat's roots in one cut). By AI agents, Wed Nov 11 2026. No macro, syntax, notation, axiom, sorry.
-/
import Derived.Test.YtiflbhmccenemaaDoorChecked
import GoSem.Claim
import GoSem.ClaimJoined
import GoSem.ClaimMapViews
import Derived.JoinedTies
import Derived.KernelRfl
namespace Go.Proofs.YtiflbhmccenemaaDoor
/- THE CELL 'sum', in the pinned program and in every row, IS THE sha256 OF THE DUMP (.gsa) THAT YtiflbhmccenemaaDoorProg.lean LOADS. Nothing in Lean hashes anything: it is a label: what it is worth is what the hold of that sum in a sandbox is worth. -/
noncomputable def Tryd.pinned : Pinned := { name := "ytiflbhmccenemaadoor", sum := "701bd02f2ab29e6acf3396dc5bdb7da259cc6cc31a31972208cb703acb30cb7a", checked := Tryd.checked }
namespace Rows
def none {H : Type} : Left H := { results := [], args := [] }

/- WHAT THE LISTED PACKAGE-LEVEL VARIABLES READ AS WHEN THE CALL BEGINS. Each datum BY PROGRAM (the guide's laid-datum.mjs) off the statement by which the dump's own 'gosem.cut.vars' lays the variable. In a bare row this is a premise. The card (YtiflbhmccenemaaDoorCards.lean) ties it to the program's text. -/
def laid_sennit_rings_signs {H : Type} : DataW H := .agg [.lit (.int .i64 1), .lit (.int .i64 (-1))]
def laid_sennit_modes_edges {H : Type} : DataW H := .agg [.agg [.lit (.bool true), .lit (.bool true), .lit (.bool true), .lit (.bool true), .lit (.bool true)], .agg [.lit (.bool false), .lit (.bool true), .lit (.bool true), .lit (.bool true), .lit (.bool true)], .agg [.lit (.bool false), .lit (.bool true), .lit (.bool true), .lit (.bool true), .lit (.bool true)], .agg [.lit (.bool false), .lit (.bool false), .lit (.bool true), .lit (.bool true), .lit (.bool true)], .agg [.lit (.bool false), .lit (.bool false), .lit (.bool false), .lit (.bool true), .lit (.bool true)]]
def laid_sennit_windows_roles {H : Type} : DataW H := .agg [.lit (.int .u8 1), .lit (.int .u8 1), .lit (.int .u8 2)]

/-- 'sennitlaw25.ModesAny': WHATEVER THE INPUT: true; the input reads as it did. -/
def modesAnySpec : ChangeSpec := { name := "modesAny", fn := fun _ => fun
  | [d1, d2, d3] => { results := [.lit (.bool true)], args := [d1, d2, d3] }
  | _ => none }
def modesAnyRow : OpenClaim := { program := "ytiflbhmccenemaadoor", sum := "701bd02f2ab29e6acf3396dc5bdb7da259cc6cc31a31972208cb703acb30cb7a", func := "sennit/sennitlaw25.ModesAny", spec := "modesAny", unfollowed := true, recurses := true, named := ["sennit/rings.signs", "sennit/modes.edges"], apart := false, laid := [("sennit/rings.signs", laid_sennit_rings_signs), ("sennit/modes.edges", laid_sennit_modes_edges)] }
def ModesAnySaid : Prop := modesAnyRow.holds Tryd.pinned (OpenSpec.ofChange modesAnySpec)

/-- ITS FALSE NEIGHBOUR: 'it returns false'. Refute it at one input. -/
def modesAnyWrong : ChangeSpec := { name := "modesAny", fn := fun _ => fun
  | [d1, d2, d3] => { results := [.lit (.bool false)], args := [d1, d2, d3] }
  | _ => none }
def ModesAnyWrongFalsely : Prop := modesAnyRow.holds Tryd.pinned (OpenSpec.ofChange modesAnyWrong)

/-- 'sennitlaw25.ModesTotal': WHATEVER THE INPUT: true; the input reads as it did. -/
def modesTotalSpec : ChangeSpec := { name := "modesTotal", fn := fun _ => fun
  | [d1, d2] => { results := [.lit (.bool true)], args := [d1, d2] }
  | _ => none }
def modesTotalRow : OpenClaim := { program := "ytiflbhmccenemaadoor", sum := "701bd02f2ab29e6acf3396dc5bdb7da259cc6cc31a31972208cb703acb30cb7a", func := "sennit/sennitlaw25.ModesTotal", spec := "modesTotal", unfollowed := true, recurses := true, named := ["sennit/rings.signs", "sennit/modes.edges"], apart := false, laid := [("sennit/rings.signs", laid_sennit_rings_signs), ("sennit/modes.edges", laid_sennit_modes_edges)] }
def ModesTotalSaid : Prop := modesTotalRow.holds Tryd.pinned (OpenSpec.ofChange modesTotalSpec)

/-- ITS FALSE NEIGHBOUR: 'it returns false'. Refute it at one input. -/
def modesTotalWrong : ChangeSpec := { name := "modesTotal", fn := fun _ => fun
  | [d1, d2] => { results := [.lit (.bool false)], args := [d1, d2] }
  | _ => none }
def ModesTotalWrongFalsely : Prop := modesTotalRow.holds Tryd.pinned (OpenSpec.ofChange modesTotalWrong)

/-- 'sennitlaw25.ModesWorse': WHATEVER THE INPUT: true; the input reads as it did. -/
def modesWorseSpec : ChangeSpec := { name := "modesWorse", fn := fun _ => fun
  | [d1, d2, d3] => { results := [.lit (.bool true)], args := [d1, d2, d3] }
  | _ => none }
def modesWorseRow : OpenClaim := { program := "ytiflbhmccenemaadoor", sum := "701bd02f2ab29e6acf3396dc5bdb7da259cc6cc31a31972208cb703acb30cb7a", func := "sennit/sennitlaw25.ModesWorse", spec := "modesWorse", unfollowed := true, recurses := true, named := ["sennit/rings.signs", "sennit/modes.edges"], apart := false, laid := [("sennit/rings.signs", laid_sennit_rings_signs), ("sennit/modes.edges", laid_sennit_modes_edges)] }
def ModesWorseSaid : Prop := modesWorseRow.holds Tryd.pinned (OpenSpec.ofChange modesWorseSpec)

/-- ITS FALSE NEIGHBOUR: 'it returns false'. Refute it at one input. -/
def modesWorseWrong : ChangeSpec := { name := "modesWorse", fn := fun _ => fun
  | [d1, d2, d3] => { results := [.lit (.bool false)], args := [d1, d2, d3] }
  | _ => none }
def ModesWorseWrongFalsely : Prop := modesWorseRow.holds Tryd.pinned (OpenSpec.ofChange modesWorseWrong)

/-- 'sennitlaw04.ConfigsNew': WHATEVER THE INPUT: true; the input reads as it did. -/
def configsNewSpec : ChangeSpec := { name := "configsNew", fn := fun _ => fun
  | [d] => { results := [.lit (.bool true)], args := [d] }
  | _ => none }
def configsNewRow : OpenClaim := { program := "ytiflbhmccenemaadoor", sum := "701bd02f2ab29e6acf3396dc5bdb7da259cc6cc31a31972208cb703acb30cb7a", func := "sennit/sennitlaw04.ConfigsNew", spec := "configsNew", unfollowed := true, recurses := true, named := ["sennit/rings.signs"], apart := false, laid := [("sennit/rings.signs", laid_sennit_rings_signs)] }
def ConfigsNewSaid : Prop := configsNewRow.holds Tryd.pinned (OpenSpec.ofChange configsNewSpec)

/-- ITS FALSE NEIGHBOUR: 'it returns false'. Refute it at one input. -/
def configsNewWrong : ChangeSpec := { name := "configsNew", fn := fun _ => fun
  | [d] => { results := [.lit (.bool false)], args := [d] }
  | _ => none }
def ConfigsNewWrongFalsely : Prop := configsNewRow.holds Tryd.pinned (OpenSpec.ofChange configsNewWrong)

/-- 'sennitlaw04.ConfigsTurned': WHATEVER THE INPUT: true; the input reads as it did. -/
def configsTurnedSpec : ChangeSpec := { name := "configsTurned", fn := fun _ => fun
  | [d1, d2] => { results := [.lit (.bool true)], args := [d1, d2] }
  | _ => none }
def configsTurnedRow : OpenClaim := { program := "ytiflbhmccenemaadoor", sum := "701bd02f2ab29e6acf3396dc5bdb7da259cc6cc31a31972208cb703acb30cb7a", func := "sennit/sennitlaw04.ConfigsTurned", spec := "configsTurned", unfollowed := true, recurses := true, named := ["sennit/rings.signs"], apart := false, laid := [("sennit/rings.signs", laid_sennit_rings_signs)] }
def ConfigsTurnedSaid : Prop := configsTurnedRow.holds Tryd.pinned (OpenSpec.ofChange configsTurnedSpec)

/-- ITS FALSE NEIGHBOUR: 'it returns false'. Refute it at one input. -/
def configsTurnedWrong : ChangeSpec := { name := "configsTurned", fn := fun _ => fun
  | [d1, d2] => { results := [.lit (.bool false)], args := [d1, d2] }
  | _ => none }
def ConfigsTurnedWrongFalsely : Prop := configsTurnedRow.holds Tryd.pinned (OpenSpec.ofChange configsTurnedWrong)

/-- 'sennitlaw04.ConfigsEdges': WHATEVER THE INPUT: true; the input reads as it did. -/
def configsEdgesSpec : ChangeSpec := { name := "configsEdges", fn := fun _ => fun
  | [d1, d2] => { results := [.lit (.bool true)], args := [d1, d2] }
  | _ => none }
def configsEdgesRow : OpenClaim := { program := "ytiflbhmccenemaadoor", sum := "701bd02f2ab29e6acf3396dc5bdb7da259cc6cc31a31972208cb703acb30cb7a", func := "sennit/sennitlaw04.ConfigsEdges", spec := "configsEdges", unfollowed := true, recurses := true, named := ["sennit/rings.signs"], apart := false, laid := [("sennit/rings.signs", laid_sennit_rings_signs)] }
def ConfigsEdgesSaid : Prop := configsEdgesRow.holds Tryd.pinned (OpenSpec.ofChange configsEdgesSpec)

/-- ITS FALSE NEIGHBOUR: 'it returns false'. Refute it at one input. -/
def configsEdgesWrong : ChangeSpec := { name := "configsEdges", fn := fun _ => fun
  | [d1, d2] => { results := [.lit (.bool false)], args := [d1, d2] }
  | _ => none }
def ConfigsEdgesWrongFalsely : Prop := configsEdgesRow.holds Tryd.pinned (OpenSpec.ofChange configsEdgesWrong)

/-- 'sennitlaw26.ActuatorsAny': WHATEVER THE INPUT: true; the input reads as it did. -/
def actuatorsAnySpec : ChangeSpec := { name := "actuatorsAny", fn := fun _ => fun
  | [d1, d2] => { results := [.lit (.bool true)], args := [d1, d2] }
  | _ => none }
def actuatorsAnyRow : OpenClaim := { program := "ytiflbhmccenemaadoor", sum := "701bd02f2ab29e6acf3396dc5bdb7da259cc6cc31a31972208cb703acb30cb7a", func := "sennit/sennitlaw26.ActuatorsAny", spec := "actuatorsAny", unfollowed := true, recurses := true, named := ["sennit/rings.signs"], apart := false, laid := [("sennit/rings.signs", laid_sennit_rings_signs)] }
def ActuatorsAnySaid : Prop := actuatorsAnyRow.holds Tryd.pinned (OpenSpec.ofChange actuatorsAnySpec)

/-- ITS FALSE NEIGHBOUR: 'it returns false'. Refute it at one input. -/
def actuatorsAnyWrong : ChangeSpec := { name := "actuatorsAny", fn := fun _ => fun
  | [d1, d2] => { results := [.lit (.bool false)], args := [d1, d2] }
  | _ => none }
def ActuatorsAnyWrongFalsely : Prop := actuatorsAnyRow.holds Tryd.pinned (OpenSpec.ofChange actuatorsAnyWrong)

/-- 'sennitlaw26.ActuatorsRun': WHATEVER THE INPUT: true; the input reads as it did. -/
def actuatorsRunSpec : ChangeSpec := { name := "actuatorsRun", fn := fun _ => fun
  | [d1, d2, d3] => { results := [.lit (.bool true)], args := [d1, d2, d3] }
  | _ => none }
def actuatorsRunRow : OpenClaim := { program := "ytiflbhmccenemaadoor", sum := "701bd02f2ab29e6acf3396dc5bdb7da259cc6cc31a31972208cb703acb30cb7a", func := "sennit/sennitlaw26.ActuatorsRun", spec := "actuatorsRun", unfollowed := true, recurses := true, named := ["sennit/rings.signs"], apart := false, laid := [("sennit/rings.signs", laid_sennit_rings_signs)] }
def ActuatorsRunSaid : Prop := actuatorsRunRow.holds Tryd.pinned (OpenSpec.ofChange actuatorsRunSpec)

/-- ITS FALSE NEIGHBOUR: 'it returns false'. Refute it at one input. -/
def actuatorsRunWrong : ChangeSpec := { name := "actuatorsRun", fn := fun _ => fun
  | [d1, d2, d3] => { results := [.lit (.bool false)], args := [d1, d2, d3] }
  | _ => none }
def ActuatorsRunWrongFalsely : Prop := actuatorsRunRow.holds Tryd.pinned (OpenSpec.ofChange actuatorsRunWrong)

/-- 'sennitlaw04.ConfigsHalves': WHATEVER THE INPUT: true; the input reads as it did. -/
def configsHalvesSpec : ChangeSpec := { name := "configsHalves", fn := fun _ => fun
  | [d1, d2] => { results := [.lit (.bool true)], args := [d1, d2] }
  | _ => none }
def configsHalvesRow : OpenClaim := { program := "ytiflbhmccenemaadoor", sum := "701bd02f2ab29e6acf3396dc5bdb7da259cc6cc31a31972208cb703acb30cb7a", func := "sennit/sennitlaw04.ConfigsHalves", spec := "configsHalves", unfollowed := true, recurses := true, named := ["sennit/rings.signs"], apart := false, laid := [("sennit/rings.signs", laid_sennit_rings_signs)] }
def ConfigsHalvesSaid : Prop := configsHalvesRow.holds Tryd.pinned (OpenSpec.ofChange configsHalvesSpec)

/-- ITS FALSE NEIGHBOUR: 'it returns false'. Refute it at one input. -/
def configsHalvesWrong : ChangeSpec := { name := "configsHalves", fn := fun _ => fun
  | [d1, d2] => { results := [.lit (.bool false)], args := [d1, d2] }
  | _ => none }
def ConfigsHalvesWrongFalsely : Prop := configsHalvesRow.holds Tryd.pinned (OpenSpec.ofChange configsHalvesWrong)

/-- 'sennitlaw10.WindowsOver': WHATEVER THE INPUT: true; the input reads as it did. -/
def windowsOverSpec : ChangeSpec := { name := "windowsOver", fn := fun _ => fun
  | [d1, d2] => { results := [.lit (.bool true)], args := [d1, d2] }
  | _ => none }
def windowsOverRow : OpenClaim := { program := "ytiflbhmccenemaadoor", sum := "701bd02f2ab29e6acf3396dc5bdb7da259cc6cc31a31972208cb703acb30cb7a", func := "sennit/sennitlaw10.WindowsOver", spec := "windowsOver", unfollowed := true, recurses := true, named := ["sennit/rings.signs", "sennit/windows.roles"], apart := false, laid := [("sennit/rings.signs", laid_sennit_rings_signs), ("sennit/windows.roles", laid_sennit_windows_roles)] }
def WindowsOverSaid : Prop := windowsOverRow.holds Tryd.pinned (OpenSpec.ofChange windowsOverSpec)

/-- ITS FALSE NEIGHBOUR: 'it returns false'. Refute it at one input. -/
def windowsOverWrong : ChangeSpec := { name := "windowsOver", fn := fun _ => fun
  | [d1, d2] => { results := [.lit (.bool false)], args := [d1, d2] }
  | _ => none }
def WindowsOverWrongFalsely : Prop := windowsOverRow.holds Tryd.pinned (OpenSpec.ofChange windowsOverWrong)

/-- 'sennitlaw10.WindowsOf': WHATEVER THE INPUT: true; the input reads as it did. -/
def windowsOfSpec : ChangeSpec := { name := "windowsOf", fn := fun _ => fun
  | [d1, d2, d3] => { results := [.lit (.bool true)], args := [d1, d2, d3] }
  | _ => none }
def windowsOfRow : OpenClaim := { program := "ytiflbhmccenemaadoor", sum := "701bd02f2ab29e6acf3396dc5bdb7da259cc6cc31a31972208cb703acb30cb7a", func := "sennit/sennitlaw10.WindowsOf", spec := "windowsOf", unfollowed := true, recurses := true, named := ["sennit/rings.signs", "sennit/windows.roles"], apart := false, laid := [("sennit/rings.signs", laid_sennit_rings_signs), ("sennit/windows.roles", laid_sennit_windows_roles)] }
def WindowsOfSaid : Prop := windowsOfRow.holds Tryd.pinned (OpenSpec.ofChange windowsOfSpec)

/-- ITS FALSE NEIGHBOUR: 'it returns false'. Refute it at one input. -/
def windowsOfWrong : ChangeSpec := { name := "windowsOf", fn := fun _ => fun
  | [d1, d2, d3] => { results := [.lit (.bool false)], args := [d1, d2, d3] }
  | _ => none }
def WindowsOfWrongFalsely : Prop := windowsOfRow.holds Tryd.pinned (OpenSpec.ofChange windowsOfWrong)

/- THE SECOND FORM. 'bulk': how many values and letters a reading holds, each counted each time it is reached (what is shared counts as often as it is met; a slice's spare places count too). A statement '..UptoSaid' is the law's where the arguments, and the package variables that the reading takes, are together of bulk at most 1048576: NARROWER than '..Said'. Prove '..Said' where nothing that the law and all that it calls make is longer than what came in: it says more and counts as full. Else prove '..UptoSaid'. A law counts once. -/
mutual
def uptoBulk {H : Type} : DataW H → Nat
  | .lit (.string bytes) => bytes.length + 1
  | .lit _ => 1
  | .nil => 1
  | .ptr d => uptoBulk d + 1
  | .slice elems spare => uptoBulkAll elems + uptoBulkAll spare + 1
  | .agg parts => uptoBulkAll parts + 1
  | .iface _ d => uptoBulk d + 1
  | .map entries => uptoBulkEntries entries + 1
  | .held _ => 1
def uptoBulkAll {H : Type} : List (DataW H) → Nat
  | [] => 0
  | d :: r => uptoBulk d + uptoBulkAll r
def uptoBulkEntries {H : Type} : List (Lit × DataW H) → Nat
  | [] => 0
  | x :: r => uptoBulkEntry x + uptoBulkEntries r
def uptoBulkEntry {H : Type} : Lit × DataW H → Nat
  | (.string bytes, d) => bytes.length + uptoBulk d + 1
  | (_, d) => uptoBulk d + 1
 end
def uptoSmall : (H : Type) → List (DataW H) → Bool := fun _ ds => decide (uptoBulkAll ds ≤ 1048576)
def OpenSpec.upto (s : _root_.Go.ChangeSpec) : _root_.Go.OpenSpec := { _root_.Go.OpenSpec.ofChange s with cond := some uptoSmall }

/-- 'sennitlaw25.ModesAny', WHERE WHAT IT READS IS OF BULK AT MOST 1048576: true; the input reads as it did. -/
def modesAnyUptoRow : OpenClaim := { program := "ytiflbhmccenemaadoor", sum := "701bd02f2ab29e6acf3396dc5bdb7da259cc6cc31a31972208cb703acb30cb7a", func := "sennit/sennitlaw25.ModesAny", spec := "modesAny", unfollowed := true, recurses := true, named := ["sennit/rings.signs", "sennit/modes.edges"], apart := false, laid := [("sennit/rings.signs", laid_sennit_rings_signs), ("sennit/modes.edges", laid_sennit_modes_edges)], narrowed := true }
def ModesAnyUptoSaid : Prop := modesAnyUptoRow.holds Tryd.pinned (OpenSpec.upto modesAnySpec)

/-- 'sennitlaw25.ModesTotal', WHERE WHAT IT READS IS OF BULK AT MOST 1048576: true; the input reads as it did. -/
def modesTotalUptoRow : OpenClaim := { program := "ytiflbhmccenemaadoor", sum := "701bd02f2ab29e6acf3396dc5bdb7da259cc6cc31a31972208cb703acb30cb7a", func := "sennit/sennitlaw25.ModesTotal", spec := "modesTotal", unfollowed := true, recurses := true, named := ["sennit/rings.signs", "sennit/modes.edges"], apart := false, laid := [("sennit/rings.signs", laid_sennit_rings_signs), ("sennit/modes.edges", laid_sennit_modes_edges)], narrowed := true }
def ModesTotalUptoSaid : Prop := modesTotalUptoRow.holds Tryd.pinned (OpenSpec.upto modesTotalSpec)

/-- 'sennitlaw25.ModesWorse', WHERE WHAT IT READS IS OF BULK AT MOST 1048576: true; the input reads as it did. -/
def modesWorseUptoRow : OpenClaim := { program := "ytiflbhmccenemaadoor", sum := "701bd02f2ab29e6acf3396dc5bdb7da259cc6cc31a31972208cb703acb30cb7a", func := "sennit/sennitlaw25.ModesWorse", spec := "modesWorse", unfollowed := true, recurses := true, named := ["sennit/rings.signs", "sennit/modes.edges"], apart := false, laid := [("sennit/rings.signs", laid_sennit_rings_signs), ("sennit/modes.edges", laid_sennit_modes_edges)], narrowed := true }
def ModesWorseUptoSaid : Prop := modesWorseUptoRow.holds Tryd.pinned (OpenSpec.upto modesWorseSpec)

/-- 'sennitlaw04.ConfigsNew', WHERE WHAT IT READS IS OF BULK AT MOST 1048576: true; the input reads as it did. -/
def configsNewUptoRow : OpenClaim := { program := "ytiflbhmccenemaadoor", sum := "701bd02f2ab29e6acf3396dc5bdb7da259cc6cc31a31972208cb703acb30cb7a", func := "sennit/sennitlaw04.ConfigsNew", spec := "configsNew", unfollowed := true, recurses := true, named := ["sennit/rings.signs"], apart := false, laid := [("sennit/rings.signs", laid_sennit_rings_signs)], narrowed := true }
def ConfigsNewUptoSaid : Prop := configsNewUptoRow.holds Tryd.pinned (OpenSpec.upto configsNewSpec)

/-- 'sennitlaw04.ConfigsTurned', WHERE WHAT IT READS IS OF BULK AT MOST 1048576: true; the input reads as it did. -/
def configsTurnedUptoRow : OpenClaim := { program := "ytiflbhmccenemaadoor", sum := "701bd02f2ab29e6acf3396dc5bdb7da259cc6cc31a31972208cb703acb30cb7a", func := "sennit/sennitlaw04.ConfigsTurned", spec := "configsTurned", unfollowed := true, recurses := true, named := ["sennit/rings.signs"], apart := false, laid := [("sennit/rings.signs", laid_sennit_rings_signs)], narrowed := true }
def ConfigsTurnedUptoSaid : Prop := configsTurnedUptoRow.holds Tryd.pinned (OpenSpec.upto configsTurnedSpec)

/-- 'sennitlaw04.ConfigsEdges', WHERE WHAT IT READS IS OF BULK AT MOST 1048576: true; the input reads as it did. -/
def configsEdgesUptoRow : OpenClaim := { program := "ytiflbhmccenemaadoor", sum := "701bd02f2ab29e6acf3396dc5bdb7da259cc6cc31a31972208cb703acb30cb7a", func := "sennit/sennitlaw04.ConfigsEdges", spec := "configsEdges", unfollowed := true, recurses := true, named := ["sennit/rings.signs"], apart := false, laid := [("sennit/rings.signs", laid_sennit_rings_signs)], narrowed := true }
def ConfigsEdgesUptoSaid : Prop := configsEdgesUptoRow.holds Tryd.pinned (OpenSpec.upto configsEdgesSpec)

/-- 'sennitlaw26.ActuatorsAny', WHERE WHAT IT READS IS OF BULK AT MOST 1048576: true; the input reads as it did. -/
def actuatorsAnyUptoRow : OpenClaim := { program := "ytiflbhmccenemaadoor", sum := "701bd02f2ab29e6acf3396dc5bdb7da259cc6cc31a31972208cb703acb30cb7a", func := "sennit/sennitlaw26.ActuatorsAny", spec := "actuatorsAny", unfollowed := true, recurses := true, named := ["sennit/rings.signs"], apart := false, laid := [("sennit/rings.signs", laid_sennit_rings_signs)], narrowed := true }
def ActuatorsAnyUptoSaid : Prop := actuatorsAnyUptoRow.holds Tryd.pinned (OpenSpec.upto actuatorsAnySpec)

/-- 'sennitlaw26.ActuatorsRun', WHERE WHAT IT READS IS OF BULK AT MOST 1048576: true; the input reads as it did. -/
def actuatorsRunUptoRow : OpenClaim := { program := "ytiflbhmccenemaadoor", sum := "701bd02f2ab29e6acf3396dc5bdb7da259cc6cc31a31972208cb703acb30cb7a", func := "sennit/sennitlaw26.ActuatorsRun", spec := "actuatorsRun", unfollowed := true, recurses := true, named := ["sennit/rings.signs"], apart := false, laid := [("sennit/rings.signs", laid_sennit_rings_signs)], narrowed := true }
def ActuatorsRunUptoSaid : Prop := actuatorsRunUptoRow.holds Tryd.pinned (OpenSpec.upto actuatorsRunSpec)

/-- 'sennitlaw04.ConfigsHalves', WHERE WHAT IT READS IS OF BULK AT MOST 1048576: true; the input reads as it did. -/
def configsHalvesUptoRow : OpenClaim := { program := "ytiflbhmccenemaadoor", sum := "701bd02f2ab29e6acf3396dc5bdb7da259cc6cc31a31972208cb703acb30cb7a", func := "sennit/sennitlaw04.ConfigsHalves", spec := "configsHalves", unfollowed := true, recurses := true, named := ["sennit/rings.signs"], apart := false, laid := [("sennit/rings.signs", laid_sennit_rings_signs)], narrowed := true }
def ConfigsHalvesUptoSaid : Prop := configsHalvesUptoRow.holds Tryd.pinned (OpenSpec.upto configsHalvesSpec)

/-- 'sennitlaw10.WindowsOver', WHERE WHAT IT READS IS OF BULK AT MOST 1048576: true; the input reads as it did. -/
def windowsOverUptoRow : OpenClaim := { program := "ytiflbhmccenemaadoor", sum := "701bd02f2ab29e6acf3396dc5bdb7da259cc6cc31a31972208cb703acb30cb7a", func := "sennit/sennitlaw10.WindowsOver", spec := "windowsOver", unfollowed := true, recurses := true, named := ["sennit/rings.signs", "sennit/windows.roles"], apart := false, laid := [("sennit/rings.signs", laid_sennit_rings_signs), ("sennit/windows.roles", laid_sennit_windows_roles)], narrowed := true }
def WindowsOverUptoSaid : Prop := windowsOverUptoRow.holds Tryd.pinned (OpenSpec.upto windowsOverSpec)

/-- 'sennitlaw10.WindowsOf', WHERE WHAT IT READS IS OF BULK AT MOST 1048576: true; the input reads as it did. -/
def windowsOfUptoRow : OpenClaim := { program := "ytiflbhmccenemaadoor", sum := "701bd02f2ab29e6acf3396dc5bdb7da259cc6cc31a31972208cb703acb30cb7a", func := "sennit/sennitlaw10.WindowsOf", spec := "windowsOf", unfollowed := true, recurses := true, named := ["sennit/rings.signs", "sennit/windows.roles"], apart := false, laid := [("sennit/rings.signs", laid_sennit_rings_signs), ("sennit/windows.roles", laid_sennit_windows_roles)], narrowed := true }
def WindowsOfUptoSaid : Prop := windowsOfUptoRow.holds Tryd.pinned (OpenSpec.upto windowsOfSpec)

end Rows
end Go.Proofs.YtiflbhmccenemaaDoor
