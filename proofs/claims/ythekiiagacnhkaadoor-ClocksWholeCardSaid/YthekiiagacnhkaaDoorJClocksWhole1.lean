/- The examples of layer 06 as the evaluator runs them. -/
import Derived.Test.YthekiiagacnhkaaDoorJB0x10
set_option linter.unusedSimpArgs false
set_option linter.unusedVariables false
section
namespace Go.Proofs.YthekiiagacnhkaaDoor
open Go.RowKit
def lv06 (P : Program) : Option VF := viewF [] (fCallF (E1 P) (fC (E1 P) 300) 33 [] 10 10000000000000000000000000000000000000000 (stC mS))
theorem lv06_run  : lv06 Tryd.prog =
    some (.c (.v (.bool true)), [], 3380000000000000000000000000000000000001444, [], []) := by kernel_rfl
end Go.Proofs.YthekiiagacnhkaaDoor
end
