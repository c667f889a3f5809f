/- Parts, one behind the other. healths.Fit as the evaluator runs it: putting in order, loop by loop. -/
import Derived.Test.YtpgaplcdbbnblaaGreatDoorJMembersView17
import Derived.Test.YtpgaplcdbbnblaaGreatDoorJMembersView13
import Derived.Test.YtpgaplcdbbnblaaGreatDoorJMembersView21
import Derived.Test.YtpgaplcdbbnblaaGreatDoorJMembersView10
set_option linter.unusedSimpArgs false
set_option linter.unusedVariables false
/- ranks.Command: its contract; ranks.Heir as the evaluator runs it. -/
section
namespace Go.Proofs.YtpgaplcdbbnblaaGreatDoor
open Go.RowKit
def stayP (hl lev : Int) : Prop := (hl = 1 ∨ hl = 2) ∧ lev ≠ 2
instance (hl lev : Int) : Decidable (stayP hl lev) := by unfold stayP; infer_instance
end Go.Proofs.YtpgaplcdbbnblaaGreatDoor
end
