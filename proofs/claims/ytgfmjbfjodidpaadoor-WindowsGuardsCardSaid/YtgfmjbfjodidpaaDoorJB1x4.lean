/- The variables rings.signs and windows.roles as a row lays them. -/
import Derived.Test.YtgfmjbfjodidpaaDoorJB0x19
import Derived.Test.YtgfmjbfjodidpaaDoorJB1x0
set_option linter.unusedSimpArgs false
set_option linter.unusedVariables false
section
namespace Go.Proofs.YtgfmjbfjodidpaaDoor
open Go.RowKit

theorem globAt_roles {w : World} {rest : List (String × DataW Unit)} (h : laidMet Tryd.prog (("sennit/windows.roles", Rows.laid_sennit_windows_roles) :: rest) w) : GlobAt w (gid 1, rolesB) := by
  have h2 : Lib.TabIs Tryd.prog w "sennit/windows.roles" .u8 [1, 1, 2] := Lib.tabIs_of_head (rest := rest) (g := 1) (t := 149) (e := 85) (n := 3) (by kernel_rfl) (by kernel_rfl) (by kernel_rfl) (by kernel_rfl) (by kernel_rfl) (by kernel_rfl) h
  exact globAt_tab (ty := 149) h2 (by kernel_rfl) (by decide)
theorem glob_mSR {w : World} {rest : List (String × DataW Unit)} (h : laidMet Tryd.prog (("sennit/rings.signs", Rows.laid_sennit_rings_signs) :: ("sennit/windows.roles", Rows.laid_sennit_windows_roles) :: rest) w) : ∀ p ∈ mSR, GlobAt w p := by
  intro p hp
  rcases List.mem_cons.1 hp with rfl | hp
  · exact globAt_signs h
  · rw [List.mem_singleton.1 hp]
    exact globAt_roles (laidMet_tail h)
end Go.Proofs.YtgfmjbfjodidpaaDoor
end
