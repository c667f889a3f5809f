/- The examples of layer 19 as the evaluator runs them. -/
import Derived.Test.YtpfkhlfkcmgdlaaDoorGmS
set_option linter.unusedSimpArgs false
set_option linter.unusedVariables false
namespace Go.Proofs.YtpfkhlfkcmgdlaaDoor
open Go.RowKit
def lv19 (P : Program) : Option VF := viewF [] (fCallF (E1 P) (fC (E1 P) 300) 17 [] 10 10000000000000000000000000000000000000000 (stC mS))
theorem lv19_run  : lv19 Tryd.prog =
    some (AV.c (AC.v (Value.bool true)), [], 2320000000000000000000000000000000000001550, [], []) := by kernel_rfl
end Go.Proofs.YtpfkhlfkcmgdlaaDoor
