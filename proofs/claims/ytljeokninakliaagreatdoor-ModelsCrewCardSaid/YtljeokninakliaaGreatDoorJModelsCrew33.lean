/- Parts of a proof. -/
import Derived.Test.YtljeokninakliaaGreatDoorJModelsCrew17
import Derived.Test.YtljeokninakliaaGreatDoorJModelsCrew10
import Derived.Test.YtljeokninakliaaGreatDoorRows
import Derived.LaidMore
set_option linter.unusedSimpArgs false
set_option linter.unusedVariables false
section
namespace Go.Proofs.YtljeokninakliaaGreatDoor
open Go.RowKit
theorem jja5 {w:World} {rest:List (String × DataW Unit)} (h:laidMet Tryz.prog (("sennit/rings.signs",Rows.laid_sennit_rings_signs)::rest) w):VS w (Z2 0,Zr):=by
 have h1:Lib.TabIs Tryz.prog w "sennit/rings.signs" .i64 [1,-1]:=Lib.tabIs_of_head (rest:=rest) (g:=0) (t:=172) (e:=3) (n:=2) (by kernel_rfl) (by kernel_rfl) (by kernel_rfl) (by kernel_rfl) (by kernel_rfl) (by kernel_rfl) h;exact jje8 (ty:=172) h1 (by kernel_rfl) (by decide)
end Go.Proofs.YtljeokninakliaaGreatDoor
end
