/- The variables that are laid, as the evaluator has them. -/
import Derived.Test.YthekiiagacnhkaaDoorJB0x9
import Derived.Test.YthekiiagacnhkaaDoorChecked
import Derived.KernelRfl
set_option linter.unusedSimpArgs false
set_option linter.unusedVariables false
section
namespace Go.Proofs.YthekiiagacnhkaaDoor
open Go.RowKit

def signB : ABlk := ⟨false, false, 163, 0, .lit [.v (.int .i64 1), .v (.int .i64 (-1))]⟩
def mS : AMem := [(gid 0, signB)]
end Go.Proofs.YthekiiagacnhkaaDoor
end
