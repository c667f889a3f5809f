/- Parts, one behind the other. The variable rings.signs as a row lays it. -/
import Derived.Test.YtoelekmbmghicaaGreatDoorJSendersBoth18
import Derived.Test.YtoelekmbmghicaaGreatDoorJSendersBoth11
import Derived.Test.YtoelekmbmghicaaGreatDoorRows
import Derived.LaidMore
set_option linter.unusedSimpArgs false
set_option linter.unusedVariables false
/- The variable rings.signs as a row lays it. -/
section
namespace Go.Proofs.YtoelekmbmghicaaGreatDoor
open Go.RowKit
theorem globAt_signs {w : World} {rest : List (String × DataW Unit)} (h : laidMet Tryz.prog (("sennit/rings.signs", Rows.laid_sennit_rings_signs) :: rest) w) : GlobAt w (gid 1, signB) := by
 have h1 : Lib.TabIs Tryz.prog w "sennit/rings.signs" .i64 [1, -1] := Lib.tabIs_of_head (rest := rest) (g := 1) (t := 126) (e := 3) (n := 2) (by kernel_rfl) (by kernel_rfl) (by kernel_rfl) (by kernel_rfl) (by kernel_rfl) (by kernel_rfl) h
 exact globAt_tab (ty := 126) h1 (by kernel_rfl) (by decide)
end Go.Proofs.YtoelekmbmghicaaGreatDoor
end
/- The variables rings.signs and windows.roles as a row lays them. -/
section
namespace Go.Proofs.YtoelekmbmghicaaGreatDoor
open Go.RowKit
theorem globAt_roles {w : World} {rest : List (String × DataW Unit)} (h : laidMet Tryz.prog (("sennit/windows.roles", Rows.laid_sennit_windows_roles) :: rest) w) : GlobAt w (gid 0, rolesB) := by
 have h2 : Lib.TabIs Tryz.prog w "sennit/windows.roles" .u8 [1, 1, 2] := Lib.tabIs_of_head (rest := rest) (g := 0) (t := 115) (e := 71) (n := 3) (by kernel_rfl) (by kernel_rfl) (by kernel_rfl) (by kernel_rfl) (by kernel_rfl) (by kernel_rfl) h
 exact globAt_tab (ty := 115) h2 (by kernel_rfl) (by decide)
theorem glob_mSR {w : World} {rest : List (String × DataW Unit)} (h : laidMet Tryz.prog (("sennit/rings.signs", Rows.laid_sennit_rings_signs) :: ("sennit/windows.roles", Rows.laid_sennit_windows_roles) :: rest) w) : ∀ p ∈ mSR, GlobAt w p := by
 intro p hp
 rcases List.mem_cons.1 hp with rfl | hp
 · exact globAt_signs h
 · rw [List.mem_singleton.1 hp]
   exact globAt_roles (laidMet_tail h)
end Go.Proofs.YtoelekmbmghicaaGreatDoor
end
