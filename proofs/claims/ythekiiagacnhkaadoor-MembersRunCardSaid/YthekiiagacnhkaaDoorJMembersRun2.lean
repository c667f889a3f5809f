/- The examples of layer 22 as the evaluator runs them. -/
import Derived.Test.YthekiiagacnhkaaDoorJB0x10
set_option linter.unusedSimpArgs false
set_option linter.unusedVariables false
section
namespace Go.Proofs.YthekiiagacnhkaaDoor
open Go.RowKit
def lv22 (P : Program) : Option VF := viewF [] (fCallF (E1 P) (fC (E1 P) 300) 21 [] 10 10000000000000000000000000000000000000000 (stC mS))
theorem lv22_run  : lv22 Tryd.prog =
    some (.c (.v (.bool true)), [], 5730000000000000000000000000000000000003141, [], []) := by kernel_rfl
end Go.Proofs.YthekiiagacnhkaaDoor
end
