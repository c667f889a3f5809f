/- The examples of layer 26 as the evaluator runs them. -/
import Derived.Test.YthdjobnjehmjmaaDoorSxUse
import Derived.Test.YthdjobnjehmjmaaDoorChecked
import Derived.KernelRfl
set_option linter.unusedSimpArgs false
set_option linter.unusedVariables false
namespace Go.Proofs.YthdjobnjehmjmaaDoor
open Go.RowKit

def signB : ABlk := ⟨false, false, 84, 0, .lit [.v (.int .i64 1), .v (.int .i64 (-1))]⟩
def mS : AMem := [(gid 1, signB)]
def lv26 (P : Program) : Option VF := viewF [] (fCallF (E1 P) (fC (E1 P) 300) 27 [] 10 10000000000000000000000000000000000000000 (stC mS))
theorem lv26_run  : lv26 Tryd.prog =
    some (AV.c (AC.v (Value.bool true)), [], 1920000000000000000000000000000000000002313, [], []) := by kernel_rfl
end Go.Proofs.YthdjobnjehmjmaaDoor
