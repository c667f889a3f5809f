/- The variables that are laid, as the evaluator has them. -/
import Derived.Test.YtpfkhlfkcmgdlaaDoorGmS
import Derived.Test.YtpfkhlfkcmgdlaaDoorChecked
import Derived.KernelRfl
set_option linter.unusedSimpArgs false
set_option linter.unusedVariables false
namespace Go.Proofs.YtpfkhlfkcmgdlaaDoor
open Go.RowKit

def rolesB : ABlk := ⟨false, false, 118, 0, .lit [.v (.int .u8 1), .v (.int .u8 1), .v (.int .u8 2)]⟩
def mSR : AMem := [(gid 1, signB), (gid 0, rolesB)]
end Go.Proofs.YtpfkhlfkcmgdlaaDoor
