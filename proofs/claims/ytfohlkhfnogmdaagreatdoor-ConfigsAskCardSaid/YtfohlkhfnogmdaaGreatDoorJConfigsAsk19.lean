/- The variable rings.signs as a row lays it. -/
import Derived.Test.YtfohlkhfnogmdaaGreatDoorJConfigsAsk15
import Derived.Test.YtfohlkhfnogmdaaGreatDoorJConfigsAsk10
import Derived.Test.YtfohlkhfnogmdaaGreatDoorRows
import Derived.LaidMore
set_option linter.unusedSimpArgs false
set_option linter.unusedVariables false
section
namespace Go.Proofs.YtfohlkhfnogmdaaGreatDoor
open Go.RowKit
theorem globAt_signs {w : World} {rest : List (String × DataW Unit)} (h : laidMet Tryz.prog (("sennit/rings.signs", Rows.laid_sennit_rings_signs) :: rest) w) : GlobAt w (gid 0, signB) := by
 have h1 : Lib.TabIs Tryz.prog w "sennit/rings.signs" .i64 [1, -1] := Lib.tabIs_of_head (rest := rest) (g := 0) (t := 26) (e := 3) (n := 2) (by kernel_rfl) (by kernel_rfl) (by kernel_rfl) (by kernel_rfl) (by kernel_rfl) (by kernel_rfl) h
 exact globAt_tab (ty := 26) h1 (by kernel_rfl) (by decide)
theorem glob_mS {w : World} {rest : List (String × DataW Unit)} (h : laidMet Tryz.prog (("sennit/rings.signs", Rows.laid_sennit_rings_signs) :: rest) w) : ∀ p ∈ mS, GlobAt w p := by
 intro p hp
 rw [List.mem_singleton.1 hp]
 exact globAt_signs h
end Go.Proofs.YtfohlkhfnogmdaaGreatDoor
end
