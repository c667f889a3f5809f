/-
  NARROWER THAN 'FOR EVERY INPUT', by the rows' own cells (each row's printed sentence says how): MembersView: laid · SendersOut: laid · SendersVoid: laid · SendersUnlike: laid · HealthsBlame: laid · FlowsVoid: laid · ModelsKeep: laid · CrewsBound: laid · CrewsEdges: laid · CrewsVoid: laid.
  DERIVED. THE GIVEN ROWS OF THIS SEAT. 10 by the template 'for every input the law returns true; each argument reads behind the call as it read before'; 0 by the template 'total and deterministic' (their statements: YtpgaplcdbbnblaaGreatDoorTotals.lean).
  GIVEN WITH THE SEED: the statements are not yours to turn. If you find one false, say at which input.
  Laid BY PROGRAM, IN A SANDBOX (cutbox-rows.mjs): the forced cells as the released guide's own fill.sh prints them over the translation cd874a00172e1cc4… (all of the seat's roots in one cut). By AI agents, Wed Nov 11 2026. No macro, syntax, notation, axiom, sorry.
-/
import Derived.Test.YtpgaplcdbbnblaaGreatDoorChecked
import GoSem.Claim
import GoSem.ClaimJoined
import GoSem.ClaimMapViews
import Derived.JoinedTies
import Derived.KernelRfl
namespace Go.Proofs.YtpgaplcdbbnblaaGreatDoor
/- THE CELL 'sum', in the pinned program and in every row, IS THE sha256 OF THE DUMP (.gsa) THAT YtpgaplcdbbnblaaGreatDoorProg.lean LOADS. Nothing in Lean hashes anything: it is a label: what it is worth is what the hold of that sum in a sandbox is worth. -/
noncomputable def Tryz.pinned : Pinned := { name := "ytpgaplcdbbnblaagreatdoor", sum := "cd874a00172e1cc4819075e0639e812579d6ba66d5ca3d3782ea51cf56b128bd", checked := Tryz.checked }
namespace Rows
def none {H : Type} : Left H := { results := [], args := [] }

/- WHAT THE LISTED PACKAGE-LEVEL VARIABLES READ AS WHEN THE CALL BEGINS. Each datum BY PROGRAM (the guide's laid-datum.mjs) off the statement by which the dump's own 'gosem.cut.vars' lays the variable. In a bare row this is a premise. The card (YtpgaplcdbbnblaaGreatDoorCards.lean) ties it to the program's text. -/
def laid_sennit_rings_signs {H : Type} : DataW H := .agg [.lit (.int .i64 1), .lit (.int .i64 (-1))]
def laid_sennit_windows_roles {H : Type} : DataW H := .agg [.lit (.int .u8 1), .lit (.int .u8 1), .lit (.int .u8 2)]
def laid_sennit_modes_edges {H : Type} : DataW H := .agg [.agg [.lit (.bool true), .lit (.bool true), .lit (.bool true), .lit (.bool true), .lit (.bool true)], .agg [.lit (.bool false), .lit (.bool true), .lit (.bool true), .lit (.bool true), .lit (.bool true)], .agg [.lit (.bool false), .lit (.bool true), .lit (.bool true), .lit (.bool true), .lit (.bool true)], .agg [.lit (.bool false), .lit (.bool false), .lit (.bool true), .lit (.bool true), .lit (.bool true)], .agg [.lit (.bool false), .lit (.bool false), .lit (.bool false), .lit (.bool true), .lit (.bool true)]]

/-- 'sennitlaw22.MembersView': WHATEVER THE INPUT: true; the input reads as it did. -/
def membersViewSpec : ChangeSpec := { name := "membersView", fn := fun _ => fun
  | [d1, d2, d3] => { results := [.lit (.bool true)], args := [d1, d2, d3] }
  | _ => none }
def membersViewRow : OpenClaim := { program := "ytpgaplcdbbnblaagreatdoor", sum := "cd874a00172e1cc4819075e0639e812579d6ba66d5ca3d3782ea51cf56b128bd", func := "sennit/sennitlaw22.MembersView", spec := "membersView", unfollowed := true, recurses := true, named := ["sennit/rings.signs"], plainKeys := false, apart := false, laid := [("sennit/rings.signs", laid_sennit_rings_signs)] }
def MembersViewSaid : Prop := membersViewRow.holds Tryz.pinned (OpenSpec.ofChange membersViewSpec)

/-- ITS FALSE NEIGHBOUR: 'it returns false'. Refute it at one input. -/
def membersViewWrong : ChangeSpec := { name := "membersView", fn := fun _ => fun
  | [d1, d2, d3] => { results := [.lit (.bool false)], args := [d1, d2, d3] }
  | _ => none }
def MembersViewWrongFalsely : Prop := membersViewRow.holds Tryz.pinned (OpenSpec.ofChange membersViewWrong)

/-- 'sennitlaw11.SendersOut': WHATEVER THE INPUT: true; the input reads as it did. -/
def sendersOutSpec : ChangeSpec := { name := "sendersOut", fn := fun _ => fun
  | [d1, d2, d3] => { results := [.lit (.bool true)], args := [d1, d2, d3] }
  | _ => none }
def sendersOutRow : OpenClaim := { program := "ytpgaplcdbbnblaagreatdoor", sum := "cd874a00172e1cc4819075e0639e812579d6ba66d5ca3d3782ea51cf56b128bd", func := "sennit/sennitlaw11.SendersOut", spec := "sendersOut", unfollowed := true, recurses := true, named := ["sennit/rings.signs", "sennit/windows.roles"], plainKeys := false, apart := false, laid := [("sennit/rings.signs", laid_sennit_rings_signs), ("sennit/windows.roles", laid_sennit_windows_roles)] }
def SendersOutSaid : Prop := sendersOutRow.holds Tryz.pinned (OpenSpec.ofChange sendersOutSpec)

/-- ITS FALSE NEIGHBOUR: 'it returns false'. Refute it at one input. -/
def sendersOutWrong : ChangeSpec := { name := "sendersOut", fn := fun _ => fun
  | [d1, d2, d3] => { results := [.lit (.bool false)], args := [d1, d2, d3] }
  | _ => none }
def SendersOutWrongFalsely : Prop := sendersOutRow.holds Tryz.pinned (OpenSpec.ofChange sendersOutWrong)

/-- 'sennitlaw11.SendersVoid': WHATEVER THE INPUT: true; the input reads as it did. -/
def sendersVoidSpec : ChangeSpec := { name := "sendersVoid", fn := fun _ => fun
  | [d1, d2] => { results := [.lit (.bool true)], args := [d1, d2] }
  | _ => none }
def sendersVoidRow : OpenClaim := { program := "ytpgaplcdbbnblaagreatdoor", sum := "cd874a00172e1cc4819075e0639e812579d6ba66d5ca3d3782ea51cf56b128bd", func := "sennit/sennitlaw11.SendersVoid", spec := "sendersVoid", unfollowed := true, recurses := true, named := ["sennit/windows.roles", "sennit/rings.signs"], plainKeys := false, apart := false, laid := [("sennit/rings.signs", laid_sennit_rings_signs), ("sennit/windows.roles", laid_sennit_windows_roles)] }
def SendersVoidSaid : Prop := sendersVoidRow.holds Tryz.pinned (OpenSpec.ofChange sendersVoidSpec)

/-- ITS FALSE NEIGHBOUR: 'it returns false'. Refute it at one input. -/
def sendersVoidWrong : ChangeSpec := { name := "sendersVoid", fn := fun _ => fun
  | [d1, d2] => { results := [.lit (.bool false)], args := [d1, d2] }
  | _ => none }
def SendersVoidWrongFalsely : Prop := sendersVoidRow.holds Tryz.pinned (OpenSpec.ofChange sendersVoidWrong)

/-- 'sennitlaw11.SendersUnlike': WHATEVER THE INPUT: true; the input reads as it did. -/
def sendersUnlikeSpec : ChangeSpec := { name := "sendersUnlike", fn := fun _ => fun
  | [d1, d2, d3] => { results := [.lit (.bool true)], args := [d1, d2, d3] }
  | _ => none }
def sendersUnlikeRow : OpenClaim := { program := "ytpgaplcdbbnblaagreatdoor", sum := "cd874a00172e1cc4819075e0639e812579d6ba66d5ca3d3782ea51cf56b128bd", func := "sennit/sennitlaw11.SendersUnlike", spec := "sendersUnlike", unfollowed := true, recurses := true, named := ["sennit/rings.signs", "sennit/windows.roles"], plainKeys := false, apart := false, laid := [("sennit/rings.signs", laid_sennit_rings_signs), ("sennit/windows.roles", laid_sennit_windows_roles)] }
def SendersUnlikeSaid : Prop := sendersUnlikeRow.holds Tryz.pinned (OpenSpec.ofChange sendersUnlikeSpec)

/-- ITS FALSE NEIGHBOUR: 'it returns false'. Refute it at one input. -/
def sendersUnlikeWrong : ChangeSpec := { name := "sendersUnlike", fn := fun _ => fun
  | [d1, d2, d3] => { results := [.lit (.bool false)], args := [d1, d2, d3] }
  | _ => none }
def SendersUnlikeWrongFalsely : Prop := sendersUnlikeRow.holds Tryz.pinned (OpenSpec.ofChange sendersUnlikeWrong)

/-- 'sennitlaw23.HealthsBlame': WHATEVER THE INPUT: true; the input reads as it did. -/
def healthsBlameSpec : ChangeSpec := { name := "healthsBlame", fn := fun _ => fun
  | [d1, d2, d3] => { results := [.lit (.bool true)], args := [d1, d2, d3] }
  | _ => none }
def healthsBlameRow : OpenClaim := { program := "ytpgaplcdbbnblaagreatdoor", sum := "cd874a00172e1cc4819075e0639e812579d6ba66d5ca3d3782ea51cf56b128bd", func := "sennit/sennitlaw23.HealthsBlame", spec := "healthsBlame", unfollowed := true, recurses := true, named := ["sennit/rings.signs"], plainKeys := false, apart := false, laid := [("sennit/rings.signs", laid_sennit_rings_signs)] }
def HealthsBlameSaid : Prop := healthsBlameRow.holds Tryz.pinned (OpenSpec.ofChange healthsBlameSpec)

/-- ITS FALSE NEIGHBOUR: 'it returns false'. Refute it at one input. -/
def healthsBlameWrong : ChangeSpec := { name := "healthsBlame", fn := fun _ => fun
  | [d1, d2, d3] => { results := [.lit (.bool false)], args := [d1, d2, d3] }
  | _ => none }
def HealthsBlameWrongFalsely : Prop := healthsBlameRow.holds Tryz.pinned (OpenSpec.ofChange healthsBlameWrong)

/-- 'sennitlaw12.FlowsVoid': WHATEVER THE INPUT: true; the input reads as it did. -/
def flowsVoidSpec : ChangeSpec := { name := "flowsVoid", fn := fun _ => fun
  | [d1, d2, d3] => { results := [.lit (.bool true)], args := [d1, d2, d3] }
  | _ => none }
def flowsVoidRow : OpenClaim := { program := "ytpgaplcdbbnblaagreatdoor", sum := "cd874a00172e1cc4819075e0639e812579d6ba66d5ca3d3782ea51cf56b128bd", func := "sennit/sennitlaw12.FlowsVoid", spec := "flowsVoid", unfollowed := true, recurses := true, named := ["sennit/rings.signs", "sennit/windows.roles"], plainKeys := false, apart := false, laid := [("sennit/rings.signs", laid_sennit_rings_signs), ("sennit/windows.roles", laid_sennit_windows_roles)] }
def FlowsVoidSaid : Prop := flowsVoidRow.holds Tryz.pinned (OpenSpec.ofChange flowsVoidSpec)

/-- ITS FALSE NEIGHBOUR: 'it returns false'. Refute it at one input. -/
def flowsVoidWrong : ChangeSpec := { name := "flowsVoid", fn := fun _ => fun
  | [d1, d2, d3] => { results := [.lit (.bool false)], args := [d1, d2, d3] }
  | _ => none }
def FlowsVoidWrongFalsely : Prop := flowsVoidRow.holds Tryz.pinned (OpenSpec.ofChange flowsVoidWrong)

/-- 'sennitlaw28.ModelsKeep': WHATEVER THE INPUT: true; the input reads as it did. -/
def modelsKeepSpec : ChangeSpec := { name := "modelsKeep", fn := fun _ => fun
  | [d1, d2, d3] => { results := [.lit (.bool true)], args := [d1, d2, d3] }
  | _ => none }
def modelsKeepRow : OpenClaim := { program := "ytpgaplcdbbnblaagreatdoor", sum := "cd874a00172e1cc4819075e0639e812579d6ba66d5ca3d3782ea51cf56b128bd", func := "sennit/sennitlaw28.ModelsKeep", spec := "modelsKeep", unfollowed := true, recurses := true, named := ["sennit/rings.signs", "sennit/modes.edges"], plainKeys := false, apart := false, laid := [("sennit/rings.signs", laid_sennit_rings_signs), ("sennit/modes.edges", laid_sennit_modes_edges)] }
def ModelsKeepSaid : Prop := modelsKeepRow.holds Tryz.pinned (OpenSpec.ofChange modelsKeepSpec)

/-- ITS FALSE NEIGHBOUR: 'it returns false'. Refute it at one input. -/
def modelsKeepWrong : ChangeSpec := { name := "modelsKeep", fn := fun _ => fun
  | [d1, d2, d3] => { results := [.lit (.bool false)], args := [d1, d2, d3] }
  | _ => none }
def ModelsKeepWrongFalsely : Prop := modelsKeepRow.holds Tryz.pinned (OpenSpec.ofChange modelsKeepWrong)

/-- 'sennitlaw27.CrewsBound': WHATEVER THE INPUT: true; the input reads as it did. -/
def crewsBoundSpec : ChangeSpec := { name := "crewsBound", fn := fun _ => fun
  | [d1, d2] => { results := [.lit (.bool true)], args := [d1, d2] }
  | _ => none }
def crewsBoundRow : OpenClaim := { program := "ytpgaplcdbbnblaagreatdoor", sum := "cd874a00172e1cc4819075e0639e812579d6ba66d5ca3d3782ea51cf56b128bd", func := "sennit/sennitlaw27.CrewsBound", spec := "crewsBound", unfollowed := true, recurses := true, named := ["sennit/rings.signs", "sennit/modes.edges"], plainKeys := false, apart := false, laid := [("sennit/rings.signs", laid_sennit_rings_signs), ("sennit/modes.edges", laid_sennit_modes_edges)] }
def CrewsBoundSaid : Prop := crewsBoundRow.holds Tryz.pinned (OpenSpec.ofChange crewsBoundSpec)

/-- ITS FALSE NEIGHBOUR: 'it returns false'. Refute it at one input. -/
def crewsBoundWrong : ChangeSpec := { name := "crewsBound", fn := fun _ => fun
  | [d1, d2] => { results := [.lit (.bool false)], args := [d1, d2] }
  | _ => none }
def CrewsBoundWrongFalsely : Prop := crewsBoundRow.holds Tryz.pinned (OpenSpec.ofChange crewsBoundWrong)

/-- 'sennitlaw27.CrewsEdges': WHATEVER THE INPUT: true; the input reads as it did. -/
def crewsEdgesSpec : ChangeSpec := { name := "crewsEdges", fn := fun _ => fun
  | [d1, d2] => { results := [.lit (.bool true)], args := [d1, d2] }
  | _ => none }
def crewsEdgesRow : OpenClaim := { program := "ytpgaplcdbbnblaagreatdoor", sum := "cd874a00172e1cc4819075e0639e812579d6ba66d5ca3d3782ea51cf56b128bd", func := "sennit/sennitlaw27.CrewsEdges", spec := "crewsEdges", unfollowed := true, recurses := true, named := ["sennit/rings.signs", "sennit/modes.edges"], plainKeys := false, apart := false, laid := [("sennit/rings.signs", laid_sennit_rings_signs), ("sennit/modes.edges", laid_sennit_modes_edges)] }
def CrewsEdgesSaid : Prop := crewsEdgesRow.holds Tryz.pinned (OpenSpec.ofChange crewsEdgesSpec)

/-- ITS FALSE NEIGHBOUR: 'it returns false'. Refute it at one input. -/
def crewsEdgesWrong : ChangeSpec := { name := "crewsEdges", fn := fun _ => fun
  | [d1, d2] => { results := [.lit (.bool false)], args := [d1, d2] }
  | _ => none }
def CrewsEdgesWrongFalsely : Prop := crewsEdgesRow.holds Tryz.pinned (OpenSpec.ofChange crewsEdgesWrong)

/-- 'sennitlaw27.CrewsVoid': WHATEVER THE INPUT: true; the input reads as it did. -/
def crewsVoidSpec : ChangeSpec := { name := "crewsVoid", fn := fun _ => fun
  | [d1, d2] => { results := [.lit (.bool true)], args := [d1, d2] }
  | _ => none }
def crewsVoidRow : OpenClaim := { program := "ytpgaplcdbbnblaagreatdoor", sum := "cd874a00172e1cc4819075e0639e812579d6ba66d5ca3d3782ea51cf56b128bd", func := "sennit/sennitlaw27.CrewsVoid", spec := "crewsVoid", unfollowed := true, recurses := true, named := ["sennit/modes.edges", "sennit/rings.signs"], plainKeys := false, apart := false, laid := [("sennit/rings.signs", laid_sennit_rings_signs), ("sennit/modes.edges", laid_sennit_modes_edges)] }
def CrewsVoidSaid : Prop := crewsVoidRow.holds Tryz.pinned (OpenSpec.ofChange crewsVoidSpec)

/-- ITS FALSE NEIGHBOUR: 'it returns false'. Refute it at one input. -/
def crewsVoidWrong : ChangeSpec := { name := "crewsVoid", fn := fun _ => fun
  | [d1, d2] => { results := [.lit (.bool false)], args := [d1, d2] }
  | _ => none }
def CrewsVoidWrongFalsely : Prop := crewsVoidRow.holds Tryz.pinned (OpenSpec.ofChange crewsVoidWrong)

/- THE SECOND FORM. 'bulk': how many values and letters a reading holds, each counted each time it is reached (what is shared counts as often as it is met; a slice's spare places count too). A statement '..UptoSaid' is the law's where the arguments, and the package variables that the reading takes, are together of bulk at most 1048576: NARROWER than '..Said'. Prove '..Said' where nothing that the law and all that it calls make is longer than what came in: it says more and counts as full. Else prove '..UptoSaid'. A law counts once. -/
mutual
def uptoBulk {H : Type} : DataW H → Nat
  | .lit (.string bytes) => bytes.length + 1
  | .lit _ => 1
  | .nil => 1
  | .ptr d => uptoBulk d + 1
  | .slice elems spare => uptoBulkAll elems + uptoBulkAll spare + 1
  | .agg parts => uptoBulkAll parts + 1
  | .iface _ d => uptoBulk d + 1
  | .map entries => uptoBulkEntries entries + 1
  | .held _ => 1
def uptoBulkAll {H : Type} : List (DataW H) → Nat
  | [] => 0
  | d :: r => uptoBulk d + uptoBulkAll r
def uptoBulkEntries {H : Type} : List (Lit × DataW H) → Nat
  | [] => 0
  | x :: r => uptoBulkEntry x + uptoBulkEntries r
def uptoBulkEntry {H : Type} : Lit × DataW H → Nat
  | (.string bytes, d) => bytes.length + uptoBulk d + 1
  | (_, d) => uptoBulk d + 1
 end
def uptoSmall : (H : Type) → List (DataW H) → Bool := fun _ ds => decide (uptoBulkAll ds ≤ 1048576)
def OpenSpec.upto (s : _root_.Go.ChangeSpec) : _root_.Go.OpenSpec := { _root_.Go.OpenSpec.ofChange s with cond := some uptoSmall }

/-- 'sennitlaw22.MembersView', WHERE WHAT IT READS IS OF BULK AT MOST 1048576: true; the input reads as it did. -/
def membersViewUptoRow : OpenClaim := { program := "ytpgaplcdbbnblaagreatdoor", sum := "cd874a00172e1cc4819075e0639e812579d6ba66d5ca3d3782ea51cf56b128bd", func := "sennit/sennitlaw22.MembersView", spec := "membersView", unfollowed := true, recurses := true, named := ["sennit/rings.signs"], plainKeys := false, apart := false, laid := [("sennit/rings.signs", laid_sennit_rings_signs)], narrowed := true }
def MembersViewUptoSaid : Prop := membersViewUptoRow.holds Tryz.pinned (OpenSpec.upto membersViewSpec)

/-- 'sennitlaw11.SendersOut', WHERE WHAT IT READS IS OF BULK AT MOST 1048576: true; the input reads as it did. -/
def sendersOutUptoRow : OpenClaim := { program := "ytpgaplcdbbnblaagreatdoor", sum := "cd874a00172e1cc4819075e0639e812579d6ba66d5ca3d3782ea51cf56b128bd", func := "sennit/sennitlaw11.SendersOut", spec := "sendersOut", unfollowed := true, recurses := true, named := ["sennit/rings.signs", "sennit/windows.roles"], plainKeys := false, apart := false, laid := [("sennit/rings.signs", laid_sennit_rings_signs), ("sennit/windows.roles", laid_sennit_windows_roles)], narrowed := true }
def SendersOutUptoSaid : Prop := sendersOutUptoRow.holds Tryz.pinned (OpenSpec.upto sendersOutSpec)

/-- 'sennitlaw11.SendersVoid', WHERE WHAT IT READS IS OF BULK AT MOST 1048576: true; the input reads as it did. -/
def sendersVoidUptoRow : OpenClaim := { program := "ytpgaplcdbbnblaagreatdoor", sum := "cd874a00172e1cc4819075e0639e812579d6ba66d5ca3d3782ea51cf56b128bd", func := "sennit/sennitlaw11.SendersVoid", spec := "sendersVoid", unfollowed := true, recurses := true, named := ["sennit/windows.roles", "sennit/rings.signs"], plainKeys := false, apart := false, laid := [("sennit/rings.signs", laid_sennit_rings_signs), ("sennit/windows.roles", laid_sennit_windows_roles)], narrowed := true }
def SendersVoidUptoSaid : Prop := sendersVoidUptoRow.holds Tryz.pinned (OpenSpec.upto sendersVoidSpec)

/-- 'sennitlaw11.SendersUnlike', WHERE WHAT IT READS IS OF BULK AT MOST 1048576: true; the input reads as it did. -/
def sendersUnlikeUptoRow : OpenClaim := { program := "ytpgaplcdbbnblaagreatdoor", sum := "cd874a00172e1cc4819075e0639e812579d6ba66d5ca3d3782ea51cf56b128bd", func := "sennit/sennitlaw11.SendersUnlike", spec := "sendersUnlike", unfollowed := true, recurses := true, named := ["sennit/rings.signs", "sennit/windows.roles"], plainKeys := false, apart := false, laid := [("sennit/rings.signs", laid_sennit_rings_signs), ("sennit/windows.roles", laid_sennit_windows_roles)], narrowed := true }
def SendersUnlikeUptoSaid : Prop := sendersUnlikeUptoRow.holds Tryz.pinned (OpenSpec.upto sendersUnlikeSpec)

/-- 'sennitlaw23.HealthsBlame', WHERE WHAT IT READS IS OF BULK AT MOST 1048576: true; the input reads as it did. -/
def healthsBlameUptoRow : OpenClaim := { program := "ytpgaplcdbbnblaagreatdoor", sum := "cd874a00172e1cc4819075e0639e812579d6ba66d5ca3d3782ea51cf56b128bd", func := "sennit/sennitlaw23.HealthsBlame", spec := "healthsBlame", unfollowed := true, recurses := true, named := ["sennit/rings.signs"], plainKeys := false, apart := false, laid := [("sennit/rings.signs", laid_sennit_rings_signs)], narrowed := true }
def HealthsBlameUptoSaid : Prop := healthsBlameUptoRow.holds Tryz.pinned (OpenSpec.upto healthsBlameSpec)

/-- 'sennitlaw12.FlowsVoid', WHERE WHAT IT READS IS OF BULK AT MOST 1048576: true; the input reads as it did. -/
def flowsVoidUptoRow : OpenClaim := { program := "ytpgaplcdbbnblaagreatdoor", sum := "cd874a00172e1cc4819075e0639e812579d6ba66d5ca3d3782ea51cf56b128bd", func := "sennit/sennitlaw12.FlowsVoid", spec := "flowsVoid", unfollowed := true, recurses := true, named := ["sennit/rings.signs", "sennit/windows.roles"], plainKeys := false, apart := false, laid := [("sennit/rings.signs", laid_sennit_rings_signs), ("sennit/windows.roles", laid_sennit_windows_roles)], narrowed := true }
def FlowsVoidUptoSaid : Prop := flowsVoidUptoRow.holds Tryz.pinned (OpenSpec.upto flowsVoidSpec)

/-- 'sennitlaw28.ModelsKeep', WHERE WHAT IT READS IS OF BULK AT MOST 1048576: true; the input reads as it did. -/
def modelsKeepUptoRow : OpenClaim := { program := "ytpgaplcdbbnblaagreatdoor", sum := "cd874a00172e1cc4819075e0639e812579d6ba66d5ca3d3782ea51cf56b128bd", func := "sennit/sennitlaw28.ModelsKeep", spec := "modelsKeep", unfollowed := true, recurses := true, named := ["sennit/rings.signs", "sennit/modes.edges"], plainKeys := false, apart := false, laid := [("sennit/rings.signs", laid_sennit_rings_signs), ("sennit/modes.edges", laid_sennit_modes_edges)], narrowed := true }
def ModelsKeepUptoSaid : Prop := modelsKeepUptoRow.holds Tryz.pinned (OpenSpec.upto modelsKeepSpec)

/-- 'sennitlaw27.CrewsBound', WHERE WHAT IT READS IS OF BULK AT MOST 1048576: true; the input reads as it did. -/
def crewsBoundUptoRow : OpenClaim := { program := "ytpgaplcdbbnblaagreatdoor", sum := "cd874a00172e1cc4819075e0639e812579d6ba66d5ca3d3782ea51cf56b128bd", func := "sennit/sennitlaw27.CrewsBound", spec := "crewsBound", unfollowed := true, recurses := true, named := ["sennit/rings.signs", "sennit/modes.edges"], plainKeys := false, apart := false, laid := [("sennit/rings.signs", laid_sennit_rings_signs), ("sennit/modes.edges", laid_sennit_modes_edges)], narrowed := true }
def CrewsBoundUptoSaid : Prop := crewsBoundUptoRow.holds Tryz.pinned (OpenSpec.upto crewsBoundSpec)

/-- 'sennitlaw27.CrewsEdges', WHERE WHAT IT READS IS OF BULK AT MOST 1048576: true; the input reads as it did. -/
def crewsEdgesUptoRow : OpenClaim := { program := "ytpgaplcdbbnblaagreatdoor", sum := "cd874a00172e1cc4819075e0639e812579d6ba66d5ca3d3782ea51cf56b128bd", func := "sennit/sennitlaw27.CrewsEdges", spec := "crewsEdges", unfollowed := true, recurses := true, named := ["sennit/rings.signs", "sennit/modes.edges"], plainKeys := false, apart := false, laid := [("sennit/rings.signs", laid_sennit_rings_signs), ("sennit/modes.edges", laid_sennit_modes_edges)], narrowed := true }
def CrewsEdgesUptoSaid : Prop := crewsEdgesUptoRow.holds Tryz.pinned (OpenSpec.upto crewsEdgesSpec)

/-- 'sennitlaw27.CrewsVoid', WHERE WHAT IT READS IS OF BULK AT MOST 1048576: true; the input reads as it did. -/
def crewsVoidUptoRow : OpenClaim := { program := "ytpgaplcdbbnblaagreatdoor", sum := "cd874a00172e1cc4819075e0639e812579d6ba66d5ca3d3782ea51cf56b128bd", func := "sennit/sennitlaw27.CrewsVoid", spec := "crewsVoid", unfollowed := true, recurses := true, named := ["sennit/modes.edges", "sennit/rings.signs"], plainKeys := false, apart := false, laid := [("sennit/rings.signs", laid_sennit_rings_signs), ("sennit/modes.edges", laid_sennit_modes_edges)], narrowed := true }
def CrewsVoidUptoSaid : Prop := crewsVoidUptoRow.holds Tryz.pinned (OpenSpec.upto crewsVoidSpec)

end Rows
end Go.Proofs.YtpgaplcdbbnblaaGreatDoor
