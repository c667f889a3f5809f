/- Parts of a proof. -/
import Derived.Test.YtfohlkhfnogmdaaGreatDoorJCrewsBound20
import Derived.RegionTactic
set_option linter.unusedSimpArgs false
set_option linter.unusedVariables false
section
namespace Go.Proofs.YtfohlkhfnogmdaaGreatDoor
open Go.RowKit
def inAge (a : Int) : Bool := decide (0 ≤ a) && decide (a ≤ 1099511627776)
theorem jj3s (a : Int) (w : World) :
 Calls Tryz.prog 157 #[.int .i64 a] w fun e w' => e = .returned (.bool (inAge a)) ∧ w = w' := by
 go_enter Tryz.func157, Tryz.ntmps157
 go_wp2
 all_goals (go_ret; exact ⟨jjg1 (by simp [inAge]; omega), rfl⟩)
end Go.Proofs.YtfohlkhfnogmdaaGreatDoor
end
