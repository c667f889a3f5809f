/- The variables that are laid, as the evaluator has them. -/
import Derived.Test.YtpfkhlfkcmgdlaaDoorSxUse
import Derived.Test.YtpfkhlfkcmgdlaaDoorChecked
import Derived.KernelRfl
set_option linter.unusedSimpArgs false
set_option linter.unusedVariables false
namespace Go.Proofs.YtpfkhlfkcmgdlaaDoor
open Go.RowKit

def signB : ABlk := ⟨false, false, 152, 0, .lit [.v (.int .i64 1), .v (.int .i64 (-1))]⟩
def mS : AMem := [(gid 1, signB)]
end Go.Proofs.YtpfkhlfkcmgdlaaDoor
