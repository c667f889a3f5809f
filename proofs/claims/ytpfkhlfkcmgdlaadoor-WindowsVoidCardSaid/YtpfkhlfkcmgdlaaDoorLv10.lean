/- The examples of layer 10 as the evaluator runs them. -/
import Derived.Test.YtpfkhlfkcmgdlaaDoorGmR
set_option linter.unusedSimpArgs false
set_option linter.unusedVariables false
namespace Go.Proofs.YtpfkhlfkcmgdlaaDoor
open Go.RowKit
def lv10 (P : Program) : Option VF := viewF [] (fCallF (E1 P) (fC (E1 P) 300) 16 [] 10 10000000000000000000000000000000000000000 (stC mSR))
theorem lv10_run  : lv10 Tryd.prog =
    some (AV.c (AC.v (Value.bool true)), [], 2340000000000000000000000000000000000001236, [], []) := by kernel_rfl
end Go.Proofs.YtpfkhlfkcmgdlaaDoor
