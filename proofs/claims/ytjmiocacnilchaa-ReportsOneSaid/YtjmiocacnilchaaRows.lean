/-
  No cell of these rows narrows 'for every input' (looked for: loops, veiled, ifaces, maps, wideKeys, modest, calm, conditions, laid).
  DERIVED. THE GIVEN ROWS OF THIS SEAT. 6 by the template 'for every input the law returns true; each argument reads behind the call as it read before'; 0 by the template 'total and deterministic' (their statements: YtjmiocacnilchaaTotals.lean).
  GIVEN WITH THE SEED: the statements are not yours to turn. If you find one false, say at which input.
  Laid BY PROGRAM, IN A SANDBOX (cutbox-rows.mjs): the forced cells as the released guide's own fill.sh prints them over the translation 2338f91553e0cfb1… (all of the seat's roots in one cut). By AI agents, Wed Nov 11 2026. No macro, syntax, notation, axiom, sorry.
-/
import Derived.Test.YtjmiocacnilchaaChecked
import GoSem.Claim
import GoSem.ClaimJoined
import GoSem.ClaimMapViews
import Derived.JoinedTies
import Derived.KernelRfl
namespace Go.Proofs.Ytjmiocacnilchaa
/- THE CELL 'sum', in the pinned program and in every row, IS THE sha256 OF THE DUMP (.gsa) THAT YtjmiocacnilchaaProg.lean LOADS. Nothing in Lean hashes anything: it is a label: what it is worth is what the hold of that sum in a sandbox is worth. -/
noncomputable def Try.pinned : Pinned := { name := "ytjmiocacnilchaa", sum := "2338f91553e0cfb1120af4d7350ea5165d4fc3e4ad075d3222b0fbaf0470e38f", checked := Try.checked }
namespace Rows
def none {H : Type} : Left H := { results := [], args := [] }

/-- 'sennitlaw21.ScoresAny': WHATEVER THE INPUT: true; the input reads as it did. -/
def scoresAnySpec : ChangeSpec := { name := "scoresAny", fn := fun _ => fun
  | [d1, d2, d3] => { results := [.lit (.bool true)], args := [d1, d2, d3] }
  | _ => none }
def scoresAnyRow : OpenClaim := { program := "ytjmiocacnilchaa", sum := "2338f91553e0cfb1120af4d7350ea5165d4fc3e4ad075d3222b0fbaf0470e38f", func := "sennit/sennitlaw21.ScoresAny", spec := "scoresAny", plainKeys := false, apart := false }
def ScoresAnySaid : Prop := scoresAnyRow.holds Try.pinned (OpenSpec.ofChange scoresAnySpec)

/-- ITS FALSE NEIGHBOUR: 'it returns false'. Refute it at one input. -/
def scoresAnyWrong : ChangeSpec := { name := "scoresAny", fn := fun _ => fun
  | [d1, d2, d3] => { results := [.lit (.bool false)], args := [d1, d2, d3] }
  | _ => none }
def ScoresAnyWrongFalsely : Prop := scoresAnyRow.holds Try.pinned (OpenSpec.ofChange scoresAnyWrong)

/-- 'sennitlaw21.ScoresBound': WHATEVER THE INPUT: true; the input reads as it did. -/
def scoresBoundSpec : ChangeSpec := { name := "scoresBound", fn := fun _ => fun
  | [d1, d2] => { results := [.lit (.bool true)], args := [d1, d2] }
  | _ => none }
def scoresBoundRow : OpenClaim := { program := "ytjmiocacnilchaa", sum := "2338f91553e0cfb1120af4d7350ea5165d4fc3e4ad075d3222b0fbaf0470e38f", func := "sennit/sennitlaw21.ScoresBound", spec := "scoresBound", plainKeys := false, apart := false }
def ScoresBoundSaid : Prop := scoresBoundRow.holds Try.pinned (OpenSpec.ofChange scoresBoundSpec)

/-- ITS FALSE NEIGHBOUR: 'it returns false'. Refute it at one input. -/
def scoresBoundWrong : ChangeSpec := { name := "scoresBound", fn := fun _ => fun
  | [d1, d2] => { results := [.lit (.bool false)], args := [d1, d2] }
  | _ => none }
def ScoresBoundWrongFalsely : Prop := scoresBoundRow.holds Try.pinned (OpenSpec.ofChange scoresBoundWrong)

/-- 'sennitlaw21.ScoresOrder': WHATEVER THE INPUT: true; the input reads as it did. -/
def scoresOrderSpec : ChangeSpec := { name := "scoresOrder", fn := fun _ => fun
  | [d1, d2, d3] => { results := [.lit (.bool true)], args := [d1, d2, d3] }
  | _ => none }
def scoresOrderRow : OpenClaim := { program := "ytjmiocacnilchaa", sum := "2338f91553e0cfb1120af4d7350ea5165d4fc3e4ad075d3222b0fbaf0470e38f", func := "sennit/sennitlaw21.ScoresOrder", spec := "scoresOrder", plainKeys := false, apart := false }
def ScoresOrderSaid : Prop := scoresOrderRow.holds Try.pinned (OpenSpec.ofChange scoresOrderSpec)

/-- ITS FALSE NEIGHBOUR: 'it returns false'. Refute it at one input. -/
def scoresOrderWrong : ChangeSpec := { name := "scoresOrder", fn := fun _ => fun
  | [d1, d2, d3] => { results := [.lit (.bool false)], args := [d1, d2, d3] }
  | _ => none }
def ScoresOrderWrongFalsely : Prop := scoresOrderRow.holds Try.pinned (OpenSpec.ofChange scoresOrderWrong)

/-- 'sennitlaw20.ReportsAny': WHATEVER THE INPUT: true; the input reads as it did. -/
def reportsAnySpec : ChangeSpec := { name := "reportsAny", fn := fun _ => fun
  | [d1, d2, d3] => { results := [.lit (.bool true)], args := [d1, d2, d3] }
  | _ => none }
def reportsAnyRow : OpenClaim := { program := "ytjmiocacnilchaa", sum := "2338f91553e0cfb1120af4d7350ea5165d4fc3e4ad075d3222b0fbaf0470e38f", func := "sennit/sennitlaw20.ReportsAny", spec := "reportsAny", plainKeys := false, apart := false }
def ReportsAnySaid : Prop := reportsAnyRow.holds Try.pinned (OpenSpec.ofChange reportsAnySpec)

/-- ITS FALSE NEIGHBOUR: 'it returns false'. Refute it at one input. -/
def reportsAnyWrong : ChangeSpec := { name := "reportsAny", fn := fun _ => fun
  | [d1, d2, d3] => { results := [.lit (.bool false)], args := [d1, d2, d3] }
  | _ => none }
def ReportsAnyWrongFalsely : Prop := reportsAnyRow.holds Try.pinned (OpenSpec.ofChange reportsAnyWrong)

/-- 'sennitlaw20.ReportsOne': WHATEVER THE INPUT: true; the input reads as it did. -/
def reportsOneSpec : ChangeSpec := { name := "reportsOne", fn := fun _ => fun
  | [d1, d2, d3] => { results := [.lit (.bool true)], args := [d1, d2, d3] }
  | _ => none }
def reportsOneRow : OpenClaim := { program := "ytjmiocacnilchaa", sum := "2338f91553e0cfb1120af4d7350ea5165d4fc3e4ad075d3222b0fbaf0470e38f", func := "sennit/sennitlaw20.ReportsOne", spec := "reportsOne", plainKeys := false, apart := false }
def ReportsOneSaid : Prop := reportsOneRow.holds Try.pinned (OpenSpec.ofChange reportsOneSpec)

/-- ITS FALSE NEIGHBOUR: 'it returns false'. Refute it at one input. -/
def reportsOneWrong : ChangeSpec := { name := "reportsOne", fn := fun _ => fun
  | [d1, d2, d3] => { results := [.lit (.bool false)], args := [d1, d2, d3] }
  | _ => none }
def ReportsOneWrongFalsely : Prop := reportsOneRow.holds Try.pinned (OpenSpec.ofChange reportsOneWrong)

/-- 'sennitlaw20.ReportsEach': WHATEVER THE INPUT: true; the input reads as it did. -/
def reportsEachSpec : ChangeSpec := { name := "reportsEach", fn := fun _ => fun
  | [d1, d2, d3] => { results := [.lit (.bool true)], args := [d1, d2, d3] }
  | _ => none }
def reportsEachRow : OpenClaim := { program := "ytjmiocacnilchaa", sum := "2338f91553e0cfb1120af4d7350ea5165d4fc3e4ad075d3222b0fbaf0470e38f", func := "sennit/sennitlaw20.ReportsEach", spec := "reportsEach", plainKeys := false, apart := false }
def ReportsEachSaid : Prop := reportsEachRow.holds Try.pinned (OpenSpec.ofChange reportsEachSpec)

/-- ITS FALSE NEIGHBOUR: 'it returns false'. Refute it at one input. -/
def reportsEachWrong : ChangeSpec := { name := "reportsEach", fn := fun _ => fun
  | [d1, d2, d3] => { results := [.lit (.bool false)], args := [d1, d2, d3] }
  | _ => none }
def ReportsEachWrongFalsely : Prop := reportsEachRow.holds Try.pinned (OpenSpec.ofChange reportsEachWrong)

/- THE SECOND FORM. 'bulk': how many values and letters a reading holds, each counted each time it is reached (what is shared counts as often as it is met; a slice's spare places count too). A statement '..UptoSaid' is the law's where the arguments, and the package variables that the reading takes, are together of bulk at most 1048576: NARROWER than '..Said'. Prove '..Said' where nothing that the law and all that it calls make is longer than what came in: it says more and counts as full. Else prove '..UptoSaid'. A law counts once. -/
mutual
def uptoBulk {H : Type} : DataW H → Nat
  | .lit (.string bytes) => bytes.length + 1
  | .lit _ => 1
  | .nil => 1
  | .ptr d => uptoBulk d + 1
  | .slice elems spare => uptoBulkAll elems + uptoBulkAll spare + 1
  | .agg parts => uptoBulkAll parts + 1
  | .iface _ d => uptoBulk d + 1
  | .map entries => uptoBulkEntries entries + 1
  | .held _ => 1
def uptoBulkAll {H : Type} : List (DataW H) → Nat
  | [] => 0
  | d :: r => uptoBulk d + uptoBulkAll r
def uptoBulkEntries {H : Type} : List (Lit × DataW H) → Nat
  | [] => 0
  | x :: r => uptoBulkEntry x + uptoBulkEntries r
def uptoBulkEntry {H : Type} : Lit × DataW H → Nat
  | (.string bytes, d) => bytes.length + uptoBulk d + 1
  | (_, d) => uptoBulk d + 1
 end
def uptoSmall : (H : Type) → List (DataW H) → Bool := fun _ ds => decide (uptoBulkAll ds ≤ 1048576)
def OpenSpec.upto (s : _root_.Go.ChangeSpec) : _root_.Go.OpenSpec := { _root_.Go.OpenSpec.ofChange s with cond := some uptoSmall }

/-- 'sennitlaw21.ScoresAny', WHERE WHAT IT READS IS OF BULK AT MOST 1048576: true; the input reads as it did. -/
def scoresAnyUptoRow : OpenClaim := { program := "ytjmiocacnilchaa", sum := "2338f91553e0cfb1120af4d7350ea5165d4fc3e4ad075d3222b0fbaf0470e38f", func := "sennit/sennitlaw21.ScoresAny", spec := "scoresAny", plainKeys := false, apart := false, narrowed := true }
def ScoresAnyUptoSaid : Prop := scoresAnyUptoRow.holds Try.pinned (OpenSpec.upto scoresAnySpec)

/-- 'sennitlaw21.ScoresBound', WHERE WHAT IT READS IS OF BULK AT MOST 1048576: true; the input reads as it did. -/
def scoresBoundUptoRow : OpenClaim := { program := "ytjmiocacnilchaa", sum := "2338f91553e0cfb1120af4d7350ea5165d4fc3e4ad075d3222b0fbaf0470e38f", func := "sennit/sennitlaw21.ScoresBound", spec := "scoresBound", plainKeys := false, apart := false, narrowed := true }
def ScoresBoundUptoSaid : Prop := scoresBoundUptoRow.holds Try.pinned (OpenSpec.upto scoresBoundSpec)

/-- 'sennitlaw21.ScoresOrder', WHERE WHAT IT READS IS OF BULK AT MOST 1048576: true; the input reads as it did. -/
def scoresOrderUptoRow : OpenClaim := { program := "ytjmiocacnilchaa", sum := "2338f91553e0cfb1120af4d7350ea5165d4fc3e4ad075d3222b0fbaf0470e38f", func := "sennit/sennitlaw21.ScoresOrder", spec := "scoresOrder", plainKeys := false, apart := false, narrowed := true }
def ScoresOrderUptoSaid : Prop := scoresOrderUptoRow.holds Try.pinned (OpenSpec.upto scoresOrderSpec)

/-- 'sennitlaw20.ReportsAny', WHERE WHAT IT READS IS OF BULK AT MOST 1048576: true; the input reads as it did. -/
def reportsAnyUptoRow : OpenClaim := { program := "ytjmiocacnilchaa", sum := "2338f91553e0cfb1120af4d7350ea5165d4fc3e4ad075d3222b0fbaf0470e38f", func := "sennit/sennitlaw20.ReportsAny", spec := "reportsAny", plainKeys := false, apart := false, narrowed := true }
def ReportsAnyUptoSaid : Prop := reportsAnyUptoRow.holds Try.pinned (OpenSpec.upto reportsAnySpec)

/-- 'sennitlaw20.ReportsOne', WHERE WHAT IT READS IS OF BULK AT MOST 1048576: true; the input reads as it did. -/
def reportsOneUptoRow : OpenClaim := { program := "ytjmiocacnilchaa", sum := "2338f91553e0cfb1120af4d7350ea5165d4fc3e4ad075d3222b0fbaf0470e38f", func := "sennit/sennitlaw20.ReportsOne", spec := "reportsOne", plainKeys := false, apart := false, narrowed := true }
def ReportsOneUptoSaid : Prop := reportsOneUptoRow.holds Try.pinned (OpenSpec.upto reportsOneSpec)

/-- 'sennitlaw20.ReportsEach', WHERE WHAT IT READS IS OF BULK AT MOST 1048576: true; the input reads as it did. -/
def reportsEachUptoRow : OpenClaim := { program := "ytjmiocacnilchaa", sum := "2338f91553e0cfb1120af4d7350ea5165d4fc3e4ad075d3222b0fbaf0470e38f", func := "sennit/sennitlaw20.ReportsEach", spec := "reportsEach", plainKeys := false, apart := false, narrowed := true }
def ReportsEachUptoSaid : Prop := reportsEachUptoRow.holds Try.pinned (OpenSpec.upto reportsEachSpec)

end Rows
end Go.Proofs.Ytjmiocacnilchaa
