/- Parts of a proof. -/
import Derived.Test.YtljeokninakliaaGreatDoorJModelsCrew20
import Derived.RegionTactic
set_option linter.unusedSimpArgs false
set_option linter.unusedVariables false
section
namespace Go.Proofs.YtljeokninakliaaGreatDoor
open Go.RowKit Tryz
def X5 (a:Int):Bool:=decide (0<=a)&&decide (a<=1099511627776)
theorem L6 (a:Int) (w:World):
 Calls prog 66 #[.int .i64 a] w fun e w'=>e= .returned (.bool (X5 a))/\w=w':=by
 go_enter Tryz.func66,Tryz.ntmps66
 go_wp2
 all_goals (go_ret;exact⟨jjjc (by simp[X5];omega),rfl⟩)
end Go.Proofs.YtljeokninakliaaGreatDoor
end
