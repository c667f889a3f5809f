/- reports.is. -/
import Derived.Test.YtjmiocacnilchaaJReportsOne3
import Derived.RegionTactic
set_option linter.unusedSimpArgs false
set_option linter.unusedVariables false
section
namespace Go.Proofs.Ytjmiocacnilchaa
open Go.RowKit
def inAge (a : Int) : Bool := decide (0 ≤ a) && decide (a ≤ 1099511627776)
theorem reports_is (a : Int) (w : World) :
 Calls Try.prog 27 #[.int .i64 a] w fun e w' => e = .returned (.bool (inAge a)) ∧ w = w' := by
 go_enter Try.func27, Try.ntmps27
 go_wp2
 all_goals (go_ret; exact ⟨ret_bool (by simp [inAge]; omega), rfl⟩)
end Go.Proofs.Ytjmiocacnilchaa
end
