/-
  NARROWER THAN 'FOR EVERY INPUT', by the rows' own cells (each row's printed sentence says how): ModesWorse: laid · ConfigsNew: laid · ConfigsEdges: laid · ActuatorsAny: laid · ActuatorsRun: laid · ConfigsHalves: laid · WindowsOver: laid · WindowsOf: laid · WindowsGuards: laid · WindowsMeet: laid · ClocksOf: laid · ClocksBack: laid.
  DERIVED. THE GIVEN ROWS OF THIS SEAT. 12 by the template 'for every input the law returns true; each argument reads behind the call as it read before'; 0 by the template 'total and deterministic' (their statements: YtgfmjbfjodidpaaDoorTotals.lean).
  GIVEN WITH THE SEED: the statements are not yours to turn. If you find one false, say at which input.
  Laid BY PROGRAM, IN A SANDBOX (cutbox-rows.mjs): the forced cells as the released guide's own fill.sh prints them over the translation ceeacbb63ddab00a… (all of the seat's roots in one cut). By AI agents, Wed Nov 11 2026. No macro, syntax, notation, axiom, sorry.
-/
import Derived.Test.YtgfmjbfjodidpaaDoorChecked
import GoSem.Claim
import GoSem.ClaimJoined
import GoSem.ClaimMapViews
import Derived.JoinedTies
import Derived.KernelRfl
namespace Go.Proofs.YtgfmjbfjodidpaaDoor
/- THE CELL 'sum', in the pinned program and in every row, IS THE sha256 OF THE DUMP (.gsa) THAT YtgfmjbfjodidpaaDoorProg.lean LOADS. Nothing in Lean hashes anything: it is a label: what it is worth is what the hold of that sum in a sandbox is worth. -/
noncomputable def Tryd.pinned : Pinned := { name := "ytgfmjbfjodidpaadoor", sum := "ceeacbb63ddab00ab8bdf8b2b386f63dc55c60b267c11796612daf2fa3cc85dc", checked := Tryd.checked }
namespace Rows
def none {H : Type} : Left H := { results := [], args := [] }

/- WHAT THE LISTED PACKAGE-LEVEL VARIABLES READ AS WHEN THE CALL BEGINS. Each datum BY PROGRAM (the guide's laid-datum.mjs) off the statement by which the dump's own 'gosem.cut.vars' lays the variable. In a bare row this is a premise. The card (YtgfmjbfjodidpaaDoorCards.lean) ties it to the program's text. -/
def laid_sennit_rings_signs {H : Type} : DataW H := .agg [.lit (.int .i64 1), .lit (.int .i64 (-1))]
def laid_sennit_modes_edges {H : Type} : DataW H := .agg [.agg [.lit (.bool true), .lit (.bool true), .lit (.bool true), .lit (.bool true), .lit (.bool true)], .agg [.lit (.bool false), .lit (.bool true), .lit (.bool true), .lit (.bool true), .lit (.bool true)], .agg [.lit (.bool false), .lit (.bool true), .lit (.bool true), .lit (.bool true), .lit (.bool true)], .agg [.lit (.bool false), .lit (.bool false), .lit (.bool true), .lit (.bool true), .lit (.bool true)], .agg [.lit (.bool false), .lit (.bool false), .lit (.bool false), .lit (.bool true), .lit (.bool true)]]
def laid_sennit_windows_roles {H : Type} : DataW H := .agg [.lit (.int .u8 1), .lit (.int .u8 1), .lit (.int .u8 2)]

/-- 'sennitlaw25.ModesWorse': WHATEVER THE INPUT: true; the input reads as it did. -/
def modesWorseSpec : ChangeSpec := { name := "modesWorse", fn := fun _ => fun
  | [d1, d2, d3] => { results := [.lit (.bool true)], args := [d1, d2, d3] }
  | _ => none }
def modesWorseRow : OpenClaim := { program := "ytgfmjbfjodidpaadoor", sum := "ceeacbb63ddab00ab8bdf8b2b386f63dc55c60b267c11796612daf2fa3cc85dc", func := "sennit/sennitlaw25.ModesWorse", spec := "modesWorse", unfollowed := true, recurses := true, named := ["sennit/rings.signs", "sennit/modes.edges"], apart := false, laid := [("sennit/rings.signs", laid_sennit_rings_signs), ("sennit/modes.edges", laid_sennit_modes_edges)] }
def ModesWorseSaid : Prop := modesWorseRow.holds Tryd.pinned (OpenSpec.ofChange modesWorseSpec)

/-- ITS FALSE NEIGHBOUR: 'it returns false'. Refute it at one input. -/
def modesWorseWrong : ChangeSpec := { name := "modesWorse", fn := fun _ => fun
  | [d1, d2, d3] => { results := [.lit (.bool false)], args := [d1, d2, d3] }
  | _ => none }
def ModesWorseWrongFalsely : Prop := modesWorseRow.holds Tryd.pinned (OpenSpec.ofChange modesWorseWrong)

/-- 'sennitlaw04.ConfigsNew': WHATEVER THE INPUT: true; the input reads as it did. -/
def configsNewSpec : ChangeSpec := { name := "configsNew", fn := fun _ => fun
  | [d] => { results := [.lit (.bool true)], args := [d] }
  | _ => none }
def configsNewRow : OpenClaim := { program := "ytgfmjbfjodidpaadoor", sum := "ceeacbb63ddab00ab8bdf8b2b386f63dc55c60b267c11796612daf2fa3cc85dc", func := "sennit/sennitlaw04.ConfigsNew", spec := "configsNew", unfollowed := true, recurses := true, named := ["sennit/rings.signs"], apart := false, laid := [("sennit/rings.signs", laid_sennit_rings_signs)] }
def ConfigsNewSaid : Prop := configsNewRow.holds Tryd.pinned (OpenSpec.ofChange configsNewSpec)

/-- ITS FALSE NEIGHBOUR: 'it returns false'. Refute it at one input. -/
def configsNewWrong : ChangeSpec := { name := "configsNew", fn := fun _ => fun
  | [d] => { results := [.lit (.bool false)], args := [d] }
  | _ => none }
def ConfigsNewWrongFalsely : Prop := configsNewRow.holds Tryd.pinned (OpenSpec.ofChange configsNewWrong)

/-- 'sennitlaw04.ConfigsEdges': WHATEVER THE INPUT: true; the input reads as it did. -/
def configsEdgesSpec : ChangeSpec := { name := "configsEdges", fn := fun _ => fun
  | [d1, d2] => { results := [.lit (.bool true)], args := [d1, d2] }
  | _ => none }
def configsEdgesRow : OpenClaim := { program := "ytgfmjbfjodidpaadoor", sum := "ceeacbb63ddab00ab8bdf8b2b386f63dc55c60b267c11796612daf2fa3cc85dc", func := "sennit/sennitlaw04.ConfigsEdges", spec := "configsEdges", unfollowed := true, recurses := true, named := ["sennit/rings.signs"], apart := false, laid := [("sennit/rings.signs", laid_sennit_rings_signs)] }
def ConfigsEdgesSaid : Prop := configsEdgesRow.holds Tryd.pinned (OpenSpec.ofChange configsEdgesSpec)

/-- ITS FALSE NEIGHBOUR: 'it returns false'. Refute it at one input. -/
def configsEdgesWrong : ChangeSpec := { name := "configsEdges", fn := fun _ => fun
  | [d1, d2] => { results := [.lit (.bool false)], args := [d1, d2] }
  | _ => none }
def ConfigsEdgesWrongFalsely : Prop := configsEdgesRow.holds Tryd.pinned (OpenSpec.ofChange configsEdgesWrong)

/-- 'sennitlaw26.ActuatorsAny': WHATEVER THE INPUT: true; the input reads as it did. -/
def actuatorsAnySpec : ChangeSpec := { name := "actuatorsAny", fn := fun _ => fun
  | [d1, d2] => { results := [.lit (.bool true)], args := [d1, d2] }
  | _ => none }
def actuatorsAnyRow : OpenClaim := { program := "ytgfmjbfjodidpaadoor", sum := "ceeacbb63ddab00ab8bdf8b2b386f63dc55c60b267c11796612daf2fa3cc85dc", func := "sennit/sennitlaw26.ActuatorsAny", spec := "actuatorsAny", unfollowed := true, recurses := true, named := ["sennit/rings.signs"], apart := false, laid := [("sennit/rings.signs", laid_sennit_rings_signs)] }
def ActuatorsAnySaid : Prop := actuatorsAnyRow.holds Tryd.pinned (OpenSpec.ofChange actuatorsAnySpec)

/-- ITS FALSE NEIGHBOUR: 'it returns false'. Refute it at one input. -/
def actuatorsAnyWrong : ChangeSpec := { name := "actuatorsAny", fn := fun _ => fun
  | [d1, d2] => { results := [.lit (.bool false)], args := [d1, d2] }
  | _ => none }
def ActuatorsAnyWrongFalsely : Prop := actuatorsAnyRow.holds Tryd.pinned (OpenSpec.ofChange actuatorsAnyWrong)

/-- 'sennitlaw26.ActuatorsRun': WHATEVER THE INPUT: true; the input reads as it did. -/
def actuatorsRunSpec : ChangeSpec := { name := "actuatorsRun", fn := fun _ => fun
  | [d1, d2, d3] => { results := [.lit (.bool true)], args := [d1, d2, d3] }
  | _ => none }
def actuatorsRunRow : OpenClaim := { program := "ytgfmjbfjodidpaadoor", sum := "ceeacbb63ddab00ab8bdf8b2b386f63dc55c60b267c11796612daf2fa3cc85dc", func := "sennit/sennitlaw26.ActuatorsRun", spec := "actuatorsRun", unfollowed := true, recurses := true, named := ["sennit/rings.signs"], apart := false, laid := [("sennit/rings.signs", laid_sennit_rings_signs)] }
def ActuatorsRunSaid : Prop := actuatorsRunRow.holds Tryd.pinned (OpenSpec.ofChange actuatorsRunSpec)

/-- ITS FALSE NEIGHBOUR: 'it returns false'. Refute it at one input. -/
def actuatorsRunWrong : ChangeSpec := { name := "actuatorsRun", fn := fun _ => fun
  | [d1, d2, d3] => { results := [.lit (.bool false)], args := [d1, d2, d3] }
  | _ => none }
def ActuatorsRunWrongFalsely : Prop := actuatorsRunRow.holds Tryd.pinned (OpenSpec.ofChange actuatorsRunWrong)

/-- 'sennitlaw04.ConfigsHalves': WHATEVER THE INPUT: true; the input reads as it did. -/
def configsHalvesSpec : ChangeSpec := { name := "configsHalves", fn := fun _ => fun
  | [d1, d2] => { results := [.lit (.bool true)], args := [d1, d2] }
  | _ => none }
def configsHalvesRow : OpenClaim := { program := "ytgfmjbfjodidpaadoor", sum := "ceeacbb63ddab00ab8bdf8b2b386f63dc55c60b267c11796612daf2fa3cc85dc", func := "sennit/sennitlaw04.ConfigsHalves", spec := "configsHalves", unfollowed := true, recurses := true, named := ["sennit/rings.signs"], apart := false, laid := [("sennit/rings.signs", laid_sennit_rings_signs)] }
def ConfigsHalvesSaid : Prop := configsHalvesRow.holds Tryd.pinned (OpenSpec.ofChange configsHalvesSpec)

/-- ITS FALSE NEIGHBOUR: 'it returns false'. Refute it at one input. -/
def configsHalvesWrong : ChangeSpec := { name := "configsHalves", fn := fun _ => fun
  | [d1, d2] => { results := [.lit (.bool false)], args := [d1, d2] }
  | _ => none }
def ConfigsHalvesWrongFalsely : Prop := configsHalvesRow.holds Tryd.pinned (OpenSpec.ofChange configsHalvesWrong)

/-- 'sennitlaw10.WindowsOver': WHATEVER THE INPUT: true; the input reads as it did. -/
def windowsOverSpec : ChangeSpec := { name := "windowsOver", fn := fun _ => fun
  | [d1, d2] => { results := [.lit (.bool true)], args := [d1, d2] }
  | _ => none }
def windowsOverRow : OpenClaim := { program := "ytgfmjbfjodidpaadoor", sum := "ceeacbb63ddab00ab8bdf8b2b386f63dc55c60b267c11796612daf2fa3cc85dc", func := "sennit/sennitlaw10.WindowsOver", spec := "windowsOver", unfollowed := true, recurses := true, named := ["sennit/rings.signs", "sennit/windows.roles"], apart := false, laid := [("sennit/rings.signs", laid_sennit_rings_signs), ("sennit/windows.roles", laid_sennit_windows_roles)] }
def WindowsOverSaid : Prop := windowsOverRow.holds Tryd.pinned (OpenSpec.ofChange windowsOverSpec)

/-- ITS FALSE NEIGHBOUR: 'it returns false'. Refute it at one input. -/
def windowsOverWrong : ChangeSpec := { name := "windowsOver", fn := fun _ => fun
  | [d1, d2] => { results := [.lit (.bool false)], args := [d1, d2] }
  | _ => none }
def WindowsOverWrongFalsely : Prop := windowsOverRow.holds Tryd.pinned (OpenSpec.ofChange windowsOverWrong)

/-- 'sennitlaw10.WindowsOf': WHATEVER THE INPUT: true; the input reads as it did. -/
def windowsOfSpec : ChangeSpec := { name := "windowsOf", fn := fun _ => fun
  | [d1, d2, d3] => { results := [.lit (.bool true)], args := [d1, d2, d3] }
  | _ => none }
def windowsOfRow : OpenClaim := { program := "ytgfmjbfjodidpaadoor", sum := "ceeacbb63ddab00ab8bdf8b2b386f63dc55c60b267c11796612daf2fa3cc85dc", func := "sennit/sennitlaw10.WindowsOf", spec := "windowsOf", unfollowed := true, recurses := true, named := ["sennit/rings.signs", "sennit/windows.roles"], apart := false, laid := [("sennit/rings.signs", laid_sennit_rings_signs), ("sennit/windows.roles", laid_sennit_windows_roles)] }
def WindowsOfSaid : Prop := windowsOfRow.holds Tryd.pinned (OpenSpec.ofChange windowsOfSpec)

/-- ITS FALSE NEIGHBOUR: 'it returns false'. Refute it at one input. -/
def windowsOfWrong : ChangeSpec := { name := "windowsOf", fn := fun _ => fun
  | [d1, d2, d3] => { results := [.lit (.bool false)], args := [d1, d2, d3] }
  | _ => none }
def WindowsOfWrongFalsely : Prop := windowsOfRow.holds Tryd.pinned (OpenSpec.ofChange windowsOfWrong)

/-- 'sennitlaw10.WindowsGuards': WHATEVER THE INPUT: true; the input reads as it did. -/
def windowsGuardsSpec : ChangeSpec := { name := "windowsGuards", fn := fun _ => fun
  | [d1, d2] => { results := [.lit (.bool true)], args := [d1, d2] }
  | _ => none }
def windowsGuardsRow : OpenClaim := { program := "ytgfmjbfjodidpaadoor", sum := "ceeacbb63ddab00ab8bdf8b2b386f63dc55c60b267c11796612daf2fa3cc85dc", func := "sennit/sennitlaw10.WindowsGuards", spec := "windowsGuards", unfollowed := true, recurses := true, named := ["sennit/rings.signs", "sennit/windows.roles"], apart := false, laid := [("sennit/rings.signs", laid_sennit_rings_signs), ("sennit/windows.roles", laid_sennit_windows_roles)] }
def WindowsGuardsSaid : Prop := windowsGuardsRow.holds Tryd.pinned (OpenSpec.ofChange windowsGuardsSpec)

/-- ITS FALSE NEIGHBOUR: 'it returns false'. Refute it at one input. -/
def windowsGuardsWrong : ChangeSpec := { name := "windowsGuards", fn := fun _ => fun
  | [d1, d2] => { results := [.lit (.bool false)], args := [d1, d2] }
  | _ => none }
def WindowsGuardsWrongFalsely : Prop := windowsGuardsRow.holds Tryd.pinned (OpenSpec.ofChange windowsGuardsWrong)

/-- 'sennitlaw10.WindowsMeet': WHATEVER THE INPUT: true; the input reads as it did. -/
def windowsMeetSpec : ChangeSpec := { name := "windowsMeet", fn := fun _ => fun
  | [d1, d2, d3] => { results := [.lit (.bool true)], args := [d1, d2, d3] }
  | _ => none }
def windowsMeetRow : OpenClaim := { program := "ytgfmjbfjodidpaadoor", sum := "ceeacbb63ddab00ab8bdf8b2b386f63dc55c60b267c11796612daf2fa3cc85dc", func := "sennit/sennitlaw10.WindowsMeet", spec := "windowsMeet", unfollowed := true, recurses := true, named := ["sennit/rings.signs", "sennit/windows.roles"], apart := false, laid := [("sennit/rings.signs", laid_sennit_rings_signs), ("sennit/windows.roles", laid_sennit_windows_roles)] }
def WindowsMeetSaid : Prop := windowsMeetRow.holds Tryd.pinned (OpenSpec.ofChange windowsMeetSpec)

/-- ITS FALSE NEIGHBOUR: 'it returns false'. Refute it at one input. -/
def windowsMeetWrong : ChangeSpec := { name := "windowsMeet", fn := fun _ => fun
  | [d1, d2, d3] => { results := [.lit (.bool false)], args := [d1, d2, d3] }
  | _ => none }
def WindowsMeetWrongFalsely : Prop := windowsMeetRow.holds Tryd.pinned (OpenSpec.ofChange windowsMeetWrong)

/-- 'sennitlaw06.ClocksOf': WHATEVER THE INPUT: true; the input reads as it did. -/
def clocksOfSpec : ChangeSpec := { name := "clocksOf", fn := fun _ => fun
  | [d1, d2, d3] => { results := [.lit (.bool true)], args := [d1, d2, d3] }
  | _ => none }
def clocksOfRow : OpenClaim := { program := "ytgfmjbfjodidpaadoor", sum := "ceeacbb63ddab00ab8bdf8b2b386f63dc55c60b267c11796612daf2fa3cc85dc", func := "sennit/sennitlaw06.ClocksOf", spec := "clocksOf", unfollowed := true, recurses := true, named := ["sennit/rings.signs"], apart := false, laid := [("sennit/rings.signs", laid_sennit_rings_signs)] }
def ClocksOfSaid : Prop := clocksOfRow.holds Tryd.pinned (OpenSpec.ofChange clocksOfSpec)

/-- ITS FALSE NEIGHBOUR: 'it returns false'. Refute it at one input. -/
def clocksOfWrong : ChangeSpec := { name := "clocksOf", fn := fun _ => fun
  | [d1, d2, d3] => { results := [.lit (.bool false)], args := [d1, d2, d3] }
  | _ => none }
def ClocksOfWrongFalsely : Prop := clocksOfRow.holds Tryd.pinned (OpenSpec.ofChange clocksOfWrong)

/-- 'sennitlaw06.ClocksBack': WHATEVER THE INPUT: true; the input reads as it did. -/
def clocksBackSpec : ChangeSpec := { name := "clocksBack", fn := fun _ => fun
  | [d1, d2] => { results := [.lit (.bool true)], args := [d1, d2] }
  | _ => none }
def clocksBackRow : OpenClaim := { program := "ytgfmjbfjodidpaadoor", sum := "ceeacbb63ddab00ab8bdf8b2b386f63dc55c60b267c11796612daf2fa3cc85dc", func := "sennit/sennitlaw06.ClocksBack", spec := "clocksBack", unfollowed := true, recurses := true, named := ["sennit/rings.signs"], apart := false, laid := [("sennit/rings.signs", laid_sennit_rings_signs)] }
def ClocksBackSaid : Prop := clocksBackRow.holds Tryd.pinned (OpenSpec.ofChange clocksBackSpec)

/-- ITS FALSE NEIGHBOUR: 'it returns false'. Refute it at one input. -/
def clocksBackWrong : ChangeSpec := { name := "clocksBack", fn := fun _ => fun
  | [d1, d2] => { results := [.lit (.bool false)], args := [d1, d2] }
  | _ => none }
def ClocksBackWrongFalsely : Prop := clocksBackRow.holds Tryd.pinned (OpenSpec.ofChange clocksBackWrong)

/- THE SECOND FORM. 'bulk': how many values and letters a reading holds, each counted each time it is reached (what is shared counts as often as it is met; a slice's spare places count too). A statement '..UptoSaid' is the law's where the arguments, and the package variables that the reading takes, are together of bulk at most 1048576: NARROWER than '..Said'. Prove '..Said' where nothing that the law and all that it calls make is longer than what came in: it says more and counts as full. Else prove '..UptoSaid'. A law counts once. -/
mutual
def uptoBulk {H : Type} : DataW H → Nat
  | .lit (.string bytes) => bytes.length + 1
  | .lit _ => 1
  | .nil => 1
  | .ptr d => uptoBulk d + 1
  | .slice elems spare => uptoBulkAll elems + uptoBulkAll spare + 1
  | .agg parts => uptoBulkAll parts + 1
  | .iface _ d => uptoBulk d + 1
  | .map entries => uptoBulkEntries entries + 1
  | .held _ => 1
def uptoBulkAll {H : Type} : List (DataW H) → Nat
  | [] => 0
  | d :: r => uptoBulk d + uptoBulkAll r
def uptoBulkEntries {H : Type} : List (Lit × DataW H) → Nat
  | [] => 0
  | x :: r => uptoBulkEntry x + uptoBulkEntries r
def uptoBulkEntry {H : Type} : Lit × DataW H → Nat
  | (.string bytes, d) => bytes.length + uptoBulk d + 1
  | (_, d) => uptoBulk d + 1
 end
def uptoSmall : (H : Type) → List (DataW H) → Bool := fun _ ds => decide (uptoBulkAll ds ≤ 1048576)
def OpenSpec.upto (s : _root_.Go.ChangeSpec) : _root_.Go.OpenSpec := { _root_.Go.OpenSpec.ofChange s with cond := some uptoSmall }

/-- 'sennitlaw25.ModesWorse', WHERE WHAT IT READS IS OF BULK AT MOST 1048576: true; the input reads as it did. -/
def modesWorseUptoRow : OpenClaim := { program := "ytgfmjbfjodidpaadoor", sum := "ceeacbb63ddab00ab8bdf8b2b386f63dc55c60b267c11796612daf2fa3cc85dc", func := "sennit/sennitlaw25.ModesWorse", spec := "modesWorse", unfollowed := true, recurses := true, named := ["sennit/rings.signs", "sennit/modes.edges"], apart := false, laid := [("sennit/rings.signs", laid_sennit_rings_signs), ("sennit/modes.edges", laid_sennit_modes_edges)], narrowed := true }
def ModesWorseUptoSaid : Prop := modesWorseUptoRow.holds Tryd.pinned (OpenSpec.upto modesWorseSpec)

/-- 'sennitlaw04.ConfigsNew', WHERE WHAT IT READS IS OF BULK AT MOST 1048576: true; the input reads as it did. -/
def configsNewUptoRow : OpenClaim := { program := "ytgfmjbfjodidpaadoor", sum := "ceeacbb63ddab00ab8bdf8b2b386f63dc55c60b267c11796612daf2fa3cc85dc", func := "sennit/sennitlaw04.ConfigsNew", spec := "configsNew", unfollowed := true, recurses := true, named := ["sennit/rings.signs"], apart := false, laid := [("sennit/rings.signs", laid_sennit_rings_signs)], narrowed := true }
def ConfigsNewUptoSaid : Prop := configsNewUptoRow.holds Tryd.pinned (OpenSpec.upto configsNewSpec)

/-- 'sennitlaw04.ConfigsEdges', WHERE WHAT IT READS IS OF BULK AT MOST 1048576: true; the input reads as it did. -/
def configsEdgesUptoRow : OpenClaim := { program := "ytgfmjbfjodidpaadoor", sum := "ceeacbb63ddab00ab8bdf8b2b386f63dc55c60b267c11796612daf2fa3cc85dc", func := "sennit/sennitlaw04.ConfigsEdges", spec := "configsEdges", unfollowed := true, recurses := true, named := ["sennit/rings.signs"], apart := false, laid := [("sennit/rings.signs", laid_sennit_rings_signs)], narrowed := true }
def ConfigsEdgesUptoSaid : Prop := configsEdgesUptoRow.holds Tryd.pinned (OpenSpec.upto configsEdgesSpec)

/-- 'sennitlaw26.ActuatorsAny', WHERE WHAT IT READS IS OF BULK AT MOST 1048576: true; the input reads as it did. -/
def actuatorsAnyUptoRow : OpenClaim := { program := "ytgfmjbfjodidpaadoor", sum := "ceeacbb63ddab00ab8bdf8b2b386f63dc55c60b267c11796612daf2fa3cc85dc", func := "sennit/sennitlaw26.ActuatorsAny", spec := "actuatorsAny", unfollowed := true, recurses := true, named := ["sennit/rings.signs"], apart := false, laid := [("sennit/rings.signs", laid_sennit_rings_signs)], narrowed := true }
def ActuatorsAnyUptoSaid : Prop := actuatorsAnyUptoRow.holds Tryd.pinned (OpenSpec.upto actuatorsAnySpec)

/-- 'sennitlaw26.ActuatorsRun', WHERE WHAT IT READS IS OF BULK AT MOST 1048576: true; the input reads as it did. -/
def actuatorsRunUptoRow : OpenClaim := { program := "ytgfmjbfjodidpaadoor", sum := "ceeacbb63ddab00ab8bdf8b2b386f63dc55c60b267c11796612daf2fa3cc85dc", func := "sennit/sennitlaw26.ActuatorsRun", spec := "actuatorsRun", unfollowed := true, recurses := true, named := ["sennit/rings.signs"], apart := false, laid := [("sennit/rings.signs", laid_sennit_rings_signs)], narrowed := true }
def ActuatorsRunUptoSaid : Prop := actuatorsRunUptoRow.holds Tryd.pinned (OpenSpec.upto actuatorsRunSpec)

/-- 'sennitlaw04.ConfigsHalves', WHERE WHAT IT READS IS OF BULK AT MOST 1048576: true; the input reads as it did. -/
def configsHalvesUptoRow : OpenClaim := { program := "ytgfmjbfjodidpaadoor", sum := "ceeacbb63ddab00ab8bdf8b2b386f63dc55c60b267c11796612daf2fa3cc85dc", func := "sennit/sennitlaw04.ConfigsHalves", spec := "configsHalves", unfollowed := true, recurses := true, named := ["sennit/rings.signs"], apart := false, laid := [("sennit/rings.signs", laid_sennit_rings_signs)], narrowed := true }
def ConfigsHalvesUptoSaid : Prop := configsHalvesUptoRow.holds Tryd.pinned (OpenSpec.upto configsHalvesSpec)

/-- 'sennitlaw10.WindowsOver', WHERE WHAT IT READS IS OF BULK AT MOST 1048576: true; the input reads as it did. -/
def windowsOverUptoRow : OpenClaim := { program := "ytgfmjbfjodidpaadoor", sum := "ceeacbb63ddab00ab8bdf8b2b386f63dc55c60b267c11796612daf2fa3cc85dc", func := "sennit/sennitlaw10.WindowsOver", spec := "windowsOver", unfollowed := true, recurses := true, named := ["sennit/rings.signs", "sennit/windows.roles"], apart := false, laid := [("sennit/rings.signs", laid_sennit_rings_signs), ("sennit/windows.roles", laid_sennit_windows_roles)], narrowed := true }
def WindowsOverUptoSaid : Prop := windowsOverUptoRow.holds Tryd.pinned (OpenSpec.upto windowsOverSpec)

/-- 'sennitlaw10.WindowsOf', WHERE WHAT IT READS IS OF BULK AT MOST 1048576: true; the input reads as it did. -/
def windowsOfUptoRow : OpenClaim := { program := "ytgfmjbfjodidpaadoor", sum := "ceeacbb63ddab00ab8bdf8b2b386f63dc55c60b267c11796612daf2fa3cc85dc", func := "sennit/sennitlaw10.WindowsOf", spec := "windowsOf", unfollowed := true, recurses := true, named := ["sennit/rings.signs", "sennit/windows.roles"], apart := false, laid := [("sennit/rings.signs", laid_sennit_rings_signs), ("sennit/windows.roles", laid_sennit_windows_roles)], narrowed := true }
def WindowsOfUptoSaid : Prop := windowsOfUptoRow.holds Tryd.pinned (OpenSpec.upto windowsOfSpec)

/-- 'sennitlaw10.WindowsGuards', WHERE WHAT IT READS IS OF BULK AT MOST 1048576: true; the input reads as it did. -/
def windowsGuardsUptoRow : OpenClaim := { program := "ytgfmjbfjodidpaadoor", sum := "ceeacbb63ddab00ab8bdf8b2b386f63dc55c60b267c11796612daf2fa3cc85dc", func := "sennit/sennitlaw10.WindowsGuards", spec := "windowsGuards", unfollowed := true, recurses := true, named := ["sennit/rings.signs", "sennit/windows.roles"], apart := false, laid := [("sennit/rings.signs", laid_sennit_rings_signs), ("sennit/windows.roles", laid_sennit_windows_roles)], narrowed := true }
def WindowsGuardsUptoSaid : Prop := windowsGuardsUptoRow.holds Tryd.pinned (OpenSpec.upto windowsGuardsSpec)

/-- 'sennitlaw10.WindowsMeet', WHERE WHAT IT READS IS OF BULK AT MOST 1048576: true; the input reads as it did. -/
def windowsMeetUptoRow : OpenClaim := { program := "ytgfmjbfjodidpaadoor", sum := "ceeacbb63ddab00ab8bdf8b2b386f63dc55c60b267c11796612daf2fa3cc85dc", func := "sennit/sennitlaw10.WindowsMeet", spec := "windowsMeet", unfollowed := true, recurses := true, named := ["sennit/rings.signs", "sennit/windows.roles"], apart := false, laid := [("sennit/rings.signs", laid_sennit_rings_signs), ("sennit/windows.roles", laid_sennit_windows_roles)], narrowed := true }
def WindowsMeetUptoSaid : Prop := windowsMeetUptoRow.holds Tryd.pinned (OpenSpec.upto windowsMeetSpec)

/-- 'sennitlaw06.ClocksOf', WHERE WHAT IT READS IS OF BULK AT MOST 1048576: true; the input reads as it did. -/
def clocksOfUptoRow : OpenClaim := { program := "ytgfmjbfjodidpaadoor", sum := "ceeacbb63ddab00ab8bdf8b2b386f63dc55c60b267c11796612daf2fa3cc85dc", func := "sennit/sennitlaw06.ClocksOf", spec := "clocksOf", unfollowed := true, recurses := true, named := ["sennit/rings.signs"], apart := false, laid := [("sennit/rings.signs", laid_sennit_rings_signs)], narrowed := true }
def ClocksOfUptoSaid : Prop := clocksOfUptoRow.holds Tryd.pinned (OpenSpec.upto clocksOfSpec)

/-- 'sennitlaw06.ClocksBack', WHERE WHAT IT READS IS OF BULK AT MOST 1048576: true; the input reads as it did. -/
def clocksBackUptoRow : OpenClaim := { program := "ytgfmjbfjodidpaadoor", sum := "ceeacbb63ddab00ab8bdf8b2b386f63dc55c60b267c11796612daf2fa3cc85dc", func := "sennit/sennitlaw06.ClocksBack", spec := "clocksBack", unfollowed := true, recurses := true, named := ["sennit/rings.signs"], apart := false, laid := [("sennit/rings.signs", laid_sennit_rings_signs)], narrowed := true }
def ClocksBackUptoSaid : Prop := clocksBackUptoRow.holds Tryd.pinned (OpenSpec.upto clocksBackSpec)

end Rows
end Go.Proofs.YtgfmjbfjodidpaaDoor
