/- Parts of a proof. -/
import Derived.Test.YtodpbgbpifiniaaGreatDoorJModelsPlay18
import Derived.Test.YtodpbgbpifiniaaGreatDoorJModelsPlay10
import Derived.Test.YtodpbgbpifiniaaGreatDoorRows
import Derived.LaidMore
set_option linter.unusedSimpArgs false
set_option linter.unusedVariables false
section
namespace Go.Proofs.YtodpbgbpifiniaaGreatDoor
open Go.RowKit
theorem jj8f {w:World} {rest:List (String × DataW Unit)} (h:laidMet Tryz.prog (("sennit/rings.signs",Rows.laid_sennit_rings_signs)::rest) w):W2 w (YR 0,ZA):=by
 have h1:Lib.TabIs Tryz.prog w "sennit/rings.signs" .i64 [1,-1]:=Lib.tabIs_of_head (rest:=rest) (g:=0) (t:=159) (e:=3) (n:=2) (by kernel_rfl) (by kernel_rfl) (by kernel_rfl) (by kernel_rfl) (by kernel_rfl) (by kernel_rfl) h;exact jjbu (ty:=159) h1 (by kernel_rfl) (by decide)
end Go.Proofs.YtodpbgbpifiniaaGreatDoor
end
