/- The examples of layer 06 as the evaluator runs them. -/
import Derived.Test.YtpfkhlfkcmgdlaaDoorGmS
set_option linter.unusedSimpArgs false
set_option linter.unusedVariables false
namespace Go.Proofs.YtpfkhlfkcmgdlaaDoor
open Go.RowKit
def lv06 (P : Program) : Option VF := viewF [] (fCallF (E1 P) (fC (E1 P) 300) 34 [] 10 10000000000000000000000000000000000000000 (stC mS))
theorem lv06_run  : lv06 Tryd.prog =
    some (AV.c (AC.v (Value.bool true)), [], 3380000000000000000000000000000000000001444, [], []) := by kernel_rfl
end Go.Proofs.YtpfkhlfkcmgdlaaDoor
