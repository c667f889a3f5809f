/- Parts, one behind the other. rings.Step, rings.Distance, any direction: as the evaluator runs them. -/
import Derived.Test.YtgfmjbfjodidpaaDoorJB0x10
import Derived.Test.YtgfmjbfjodidpaaDoorJB0x9
set_option linter.unusedSimpArgs false
set_option linter.unusedVariables false
/- The examples of layer 06 as the evaluator runs them. -/
section
namespace Go.Proofs.YtgfmjbfjodidpaaDoor
open Go.RowKit
def lv06 (P : Program) : Option VF := viewF [] (fCallF (E1 P) (fC (E1 P) 300) 54 [] 10 10000000000000000000000000000000000000000 (stC mS))
theorem lv06_run  : lv06 Tryd.prog =
    some (.c (.v (.bool true)), [], 3380000000000000000000000000000000000001444, [], []) := by kernel_rfl
end Go.Proofs.YtgfmjbfjodidpaaDoor
end
