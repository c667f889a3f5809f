/-
  NARROWER THAN 'FOR EVERY INPUT', by the rows' own cells (each row's printed sentence says how): ClocksWhole: laid · ClocksGo: laid.
  DERIVED. THE GIVEN ROWS OF THIS SEAT. 2 by the template 'for every input the law returns true; each argument reads behind the call as it read before'; 0 by the template 'total and deterministic' (their statements: YtjefjmkeigfplaaDoorTotals.lean).
  GIVEN WITH THE SEED: the statements are not yours to turn. If you find one false, say at which input.
  Laid BY PROGRAM, IN A SANDBOX (cutbox-rows.mjs): the forced cells as the released guide's own fill.sh prints them over the translation 8f0fd77386376991… (all of the seat's roots in one cut). By AI agents, Wed Nov 11 2026. No macro, syntax, notation, axiom, sorry.
-/
import Derived.Test.YtjefjmkeigfplaaDoorChecked
import GoSem.Claim
import GoSem.ClaimJoined
import GoSem.ClaimMapViews
import Derived.JoinedTies
import Derived.KernelRfl
namespace Go.Proofs.YtjefjmkeigfplaaDoor
/- THE CELL 'sum', in the pinned program and in every row, IS THE sha256 OF THE DUMP (.gsa) THAT YtjefjmkeigfplaaDoorProg.lean LOADS. Nothing in Lean hashes anything: it is a label: what it is worth is what the hold of that sum in a sandbox is worth. -/
noncomputable def Tryd.pinned : Pinned := { name := "ytjefjmkeigfplaadoor", sum := "8f0fd77386376991575fe1179b8fa8b6316c7639f88d3409afcba98e0fbbf22c", checked := Tryd.checked }
namespace Rows
def none {H : Type} : Left H := { results := [], args := [] }

/- WHAT THE LISTED PACKAGE-LEVEL VARIABLES READ AS WHEN THE CALL BEGINS. Each datum BY PROGRAM (the guide's laid-datum.mjs) off the statement by which the dump's own 'gosem.cut.vars' lays the variable. In a bare row this is a premise. The card (YtjefjmkeigfplaaDoorCards.lean) ties it to the program's text. -/
def laid_sennit_rings_signs {H : Type} : DataW H := .agg [.lit (.int .i64 1), .lit (.int .i64 (-1))]

/-- 'sennitlaw06.ClocksWhole': WHATEVER THE INPUT: true; the input reads as it did. -/
def clocksWholeSpec : ChangeSpec := { name := "clocksWhole", fn := fun _ => fun
  | [d1, d2] => { results := [.lit (.bool true)], args := [d1, d2] }
  | _ => none }
def clocksWholeRow : OpenClaim := { program := "ytjefjmkeigfplaadoor", sum := "8f0fd77386376991575fe1179b8fa8b6316c7639f88d3409afcba98e0fbbf22c", func := "sennit/sennitlaw06.ClocksWhole", spec := "clocksWhole", unfollowed := true, recurses := true, named := ["sennit/rings.signs"], apart := false, laid := [("sennit/rings.signs", laid_sennit_rings_signs)] }
def ClocksWholeSaid : Prop := clocksWholeRow.holds Tryd.pinned (OpenSpec.ofChange clocksWholeSpec)

/-- ITS FALSE NEIGHBOUR: 'it returns false'. Refute it at one input. -/
def clocksWholeWrong : ChangeSpec := { name := "clocksWhole", fn := fun _ => fun
  | [d1, d2] => { results := [.lit (.bool false)], args := [d1, d2] }
  | _ => none }
def ClocksWholeWrongFalsely : Prop := clocksWholeRow.holds Tryd.pinned (OpenSpec.ofChange clocksWholeWrong)

/-- 'sennitlaw06.ClocksGo': WHATEVER THE INPUT: true; the input reads as it did. -/
def clocksGoSpec : ChangeSpec := { name := "clocksGo", fn := fun _ => fun
  | [d1, d2] => { results := [.lit (.bool true)], args := [d1, d2] }
  | _ => none }
def clocksGoRow : OpenClaim := { program := "ytjefjmkeigfplaadoor", sum := "8f0fd77386376991575fe1179b8fa8b6316c7639f88d3409afcba98e0fbbf22c", func := "sennit/sennitlaw06.ClocksGo", spec := "clocksGo", unfollowed := true, recurses := true, named := ["sennit/rings.signs"], apart := false, laid := [("sennit/rings.signs", laid_sennit_rings_signs)] }
def ClocksGoSaid : Prop := clocksGoRow.holds Tryd.pinned (OpenSpec.ofChange clocksGoSpec)

/-- ITS FALSE NEIGHBOUR: 'it returns false'. Refute it at one input. -/
def clocksGoWrong : ChangeSpec := { name := "clocksGo", fn := fun _ => fun
  | [d1, d2] => { results := [.lit (.bool false)], args := [d1, d2] }
  | _ => none }
def ClocksGoWrongFalsely : Prop := clocksGoRow.holds Tryd.pinned (OpenSpec.ofChange clocksGoWrong)

/- THE SECOND FORM. 'bulk': how many values and letters a reading holds, each counted each time it is reached (what is shared counts as often as it is met; a slice's spare places count too). A statement '..UptoSaid' is the law's where the arguments, and the package variables that the reading takes, are together of bulk at most 1048576: NARROWER than '..Said'. Prove '..Said' where nothing that the law and all that it calls make is longer than what came in: it says more and counts as full. Else prove '..UptoSaid'. A law counts once. -/
mutual
def uptoBulk {H : Type} : DataW H → Nat
  | .lit (.string bytes) => bytes.length + 1
  | .lit _ => 1
  | .nil => 1
  | .ptr d => uptoBulk d + 1
  | .slice elems spare => uptoBulkAll elems + uptoBulkAll spare + 1
  | .agg parts => uptoBulkAll parts + 1
  | .iface _ d => uptoBulk d + 1
  | .map entries => uptoBulkEntries entries + 1
  | .held _ => 1
def uptoBulkAll {H : Type} : List (DataW H) → Nat
  | [] => 0
  | d :: r => uptoBulk d + uptoBulkAll r
def uptoBulkEntries {H : Type} : List (Lit × DataW H) → Nat
  | [] => 0
  | x :: r => uptoBulkEntry x + uptoBulkEntries r
def uptoBulkEntry {H : Type} : Lit × DataW H → Nat
  | (.string bytes, d) => bytes.length + uptoBulk d + 1
  | (_, d) => uptoBulk d + 1
 end
def uptoSmall : (H : Type) → List (DataW H) → Bool := fun _ ds => decide (uptoBulkAll ds ≤ 1048576)
def OpenSpec.upto (s : _root_.Go.ChangeSpec) : _root_.Go.OpenSpec := { _root_.Go.OpenSpec.ofChange s with cond := some uptoSmall }

/-- 'sennitlaw06.ClocksWhole', WHERE WHAT IT READS IS OF BULK AT MOST 1048576: true; the input reads as it did. -/
def clocksWholeUptoRow : OpenClaim := { program := "ytjefjmkeigfplaadoor", sum := "8f0fd77386376991575fe1179b8fa8b6316c7639f88d3409afcba98e0fbbf22c", func := "sennit/sennitlaw06.ClocksWhole", spec := "clocksWhole", unfollowed := true, recurses := true, named := ["sennit/rings.signs"], apart := false, laid := [("sennit/rings.signs", laid_sennit_rings_signs)], narrowed := true }
def ClocksWholeUptoSaid : Prop := clocksWholeUptoRow.holds Tryd.pinned (OpenSpec.upto clocksWholeSpec)

/-- 'sennitlaw06.ClocksGo', WHERE WHAT IT READS IS OF BULK AT MOST 1048576: true; the input reads as it did. -/
def clocksGoUptoRow : OpenClaim := { program := "ytjefjmkeigfplaadoor", sum := "8f0fd77386376991575fe1179b8fa8b6316c7639f88d3409afcba98e0fbbf22c", func := "sennit/sennitlaw06.ClocksGo", spec := "clocksGo", unfollowed := true, recurses := true, named := ["sennit/rings.signs"], apart := false, laid := [("sennit/rings.signs", laid_sennit_rings_signs)], narrowed := true }
def ClocksGoUptoSaid : Prop := clocksGoUptoRow.holds Tryd.pinned (OpenSpec.upto clocksGoSpec)

end Rows
end Go.Proofs.YtjefjmkeigfplaaDoor
