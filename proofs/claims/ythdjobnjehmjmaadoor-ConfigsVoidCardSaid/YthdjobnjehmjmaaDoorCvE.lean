/- The examples of layer 4 as the evaluator runs them. -/
import Derived.Test.YthdjobnjehmjmaaDoorSxUse
import Derived.Test.YthdjobnjehmjmaaDoorChecked
import Derived.KernelRfl
set_option linter.unusedSimpArgs false
set_option linter.unusedVariables false
namespace Go.Proofs.YthdjobnjehmjmaaDoor
open Go.RowKit

/-- the signs of the directions -/
def signB : ABlk := ⟨false, false, 84, 0, .lit [.v (.int .i64 1), .v (.int .i64 (-1))]⟩
def mS : AMem := [(gid 1, signB)]
def lv04 (P : Program) : Option VF := viewF [] (fCallF (E1 P) (fC (E1 P) 300) 34 [] 10 10000000000000000000000000000000000000000 (stC mS))
theorem lv04_run  : lv04 Tryd.prog =
    some (AV.c (AC.v (Value.bool true)), [], 5950000000000000000000000000000000000003138, [], []) := by kernel_rfl
end Go.Proofs.YthdjobnjehmjmaaDoor
