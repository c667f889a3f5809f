/- The variable rings.signs as a row lays it. -/
import Derived.Test.YtgdoojlfbebaaaaDoorJConfigsTurned15
import Derived.Test.YtgdoojlfbebaaaaDoorJConfigsTurned10
import Derived.Test.YtgdoojlfbebaaaaDoorRows
import Derived.LaidMore
set_option linter.unusedSimpArgs false
set_option linter.unusedVariables false
section
namespace Go.Proofs.YtgdoojlfbebaaaaDoor
open Go.RowKit
theorem globAt_signs {w : World} {rest : List (String × DataW Unit)} (h : laidMet Tryd.prog (("sennit/rings.signs", Rows.laid_sennit_rings_signs) :: rest) w) : GlobAt w (gid 0, signB) := by
 have h1 : Lib.TabIs Tryd.prog w "sennit/rings.signs" .i64 [1, -1] := Lib.tabIs_of_head (rest := rest) (g := 0) (t := 139) (e := 3) (n := 2) (by kernel_rfl) (by kernel_rfl) (by kernel_rfl) (by kernel_rfl) (by kernel_rfl) (by kernel_rfl) h
 exact globAt_tab (ty := 139) h1 (by kernel_rfl) (by decide)
theorem glob_mS {w : World} {rest : List (String × DataW Unit)} (h : laidMet Tryd.prog (("sennit/rings.signs", Rows.laid_sennit_rings_signs) :: rest) w) : ∀ p ∈ mS, GlobAt w p := by
 intro p hp
 rw [List.mem_singleton.1 hp]
 exact globAt_signs h
end Go.Proofs.YtgdoojlfbebaaaaDoor
end
