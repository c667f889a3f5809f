/-
  DERIVED. GIVEN WITH THE SEED: THE PROGRAM's TIES (one call each: nine closed facts by the kernel) AND EACH ROW's TIE, after the 31st guide's Derived/Test/Toyas{Tie, Card}.lean. No idea stands in it: it is a product of the set-up. Laid BY PROGRAM, IN A SANDBOX (cutbox-door.mjs). By AI agents, Wed Nov 11 2026. No macro, syntax, notation, axiom, sorry.
-/
import Derived.Test.YtgfmjbfjodidpaaDoorRows
import Derived.LaidByTextLater
import Derived.SevenTiedAt
import Derived.LaidSub
import Derived.LaidOnce
namespace Go.Proofs.YtgfmjbfjodidpaaDoor
open Go
set_option maxRecDepth 100000
theorem seatTie1 : Tryd.prog.laidByTextLater [("sennit/rings.signs", Rows.laid_sennit_rings_signs), ("sennit/modes.edges", Rows.laid_sennit_modes_edges), ("sennit/windows.roles", Rows.laid_sennit_windows_roles)] [.data, .data, .data] true :=
  Program.laidByTextLater_by_one 29 8 26 (by kernel_rfl) (by kernel_rfl) (by kernel_rfl) (by kernel_rfl) (by kernel_rfl) (by kernel_rfl) (fun _ _ => by kernel_rfl)
theorem noOwnUnsafe : Tryd.pinned.checked.prog.headLifts.contains "ownunsafe" = false := by kernel_rfl
theorem tie : Tryd.prog.laidByTextLater [("sennit/rings.signs", Rows.laid_sennit_rings_signs), ("sennit/modes.edges", Rows.laid_sennit_modes_edges)] [.data, .data] true :=
  Program.laidByTextLater.sub seatTie1 ["sennit/rings.signs", "sennit/modes.edges"] (by kernel_rfl) (by kernel_rfl)
theorem modesWorse_row_tie : Rows.modesWorseRow.laidByTextAt .later Tryd.pinned [.data, .data] true :=
  OpenClaim.laidByTextAt_later rfl rfl tie noOwnUnsafe
theorem tie2 : Tryd.prog.laidByTextLater [("sennit/rings.signs", Rows.laid_sennit_rings_signs)] [.data] true :=
  Program.laidByTextLater.sub seatTie1 ["sennit/rings.signs"] (by kernel_rfl) (by kernel_rfl)
theorem configsNew_row_tie : Rows.configsNewRow.laidByTextAt .later Tryd.pinned [.data] true :=
  OpenClaim.laidByTextAt_later rfl rfl tie2 noOwnUnsafe
theorem configsEdges_row_tie : Rows.configsEdgesRow.laidByTextAt .later Tryd.pinned [.data] true :=
  OpenClaim.laidByTextAt_later rfl rfl tie2 noOwnUnsafe
theorem actuatorsAny_row_tie : Rows.actuatorsAnyRow.laidByTextAt .later Tryd.pinned [.data] true :=
  OpenClaim.laidByTextAt_later rfl rfl tie2 noOwnUnsafe
theorem actuatorsRun_row_tie : Rows.actuatorsRunRow.laidByTextAt .later Tryd.pinned [.data] true :=
  OpenClaim.laidByTextAt_later rfl rfl tie2 noOwnUnsafe
theorem configsHalves_row_tie : Rows.configsHalvesRow.laidByTextAt .later Tryd.pinned [.data] true :=
  OpenClaim.laidByTextAt_later rfl rfl tie2 noOwnUnsafe
theorem clocksOf_row_tie : Rows.clocksOfRow.laidByTextAt .later Tryd.pinned [.data] true :=
  OpenClaim.laidByTextAt_later rfl rfl tie2 noOwnUnsafe
theorem clocksBack_row_tie : Rows.clocksBackRow.laidByTextAt .later Tryd.pinned [.data] true :=
  OpenClaim.laidByTextAt_later rfl rfl tie2 noOwnUnsafe
theorem tie3 : Tryd.prog.laidByTextLater [("sennit/rings.signs", Rows.laid_sennit_rings_signs), ("sennit/windows.roles", Rows.laid_sennit_windows_roles)] [.data, .data] true :=
  Program.laidByTextLater.sub seatTie1 ["sennit/rings.signs", "sennit/windows.roles"] (by kernel_rfl) (by kernel_rfl)
theorem windowsOver_row_tie : Rows.windowsOverRow.laidByTextAt .later Tryd.pinned [.data, .data] true :=
  OpenClaim.laidByTextAt_later rfl rfl tie3 noOwnUnsafe
theorem windowsOf_row_tie : Rows.windowsOfRow.laidByTextAt .later Tryd.pinned [.data, .data] true :=
  OpenClaim.laidByTextAt_later rfl rfl tie3 noOwnUnsafe
theorem windowsGuards_row_tie : Rows.windowsGuardsRow.laidByTextAt .later Tryd.pinned [.data, .data] true :=
  OpenClaim.laidByTextAt_later rfl rfl tie3 noOwnUnsafe
theorem windowsMeet_row_tie : Rows.windowsMeetRow.laidByTextAt .later Tryd.pinned [.data, .data] true :=
  OpenClaim.laidByTextAt_later rfl rfl tie3 noOwnUnsafe
theorem modesWorseUpto_row_tie : Rows.modesWorseUptoRow.laidByTextAt .later Tryd.pinned [.data, .data] true :=
  OpenClaim.laidByTextAt_later rfl rfl tie noOwnUnsafe
theorem configsNewUpto_row_tie : Rows.configsNewUptoRow.laidByTextAt .later Tryd.pinned [.data] true :=
  OpenClaim.laidByTextAt_later rfl rfl tie2 noOwnUnsafe
theorem configsEdgesUpto_row_tie : Rows.configsEdgesUptoRow.laidByTextAt .later Tryd.pinned [.data] true :=
  OpenClaim.laidByTextAt_later rfl rfl tie2 noOwnUnsafe
theorem actuatorsAnyUpto_row_tie : Rows.actuatorsAnyUptoRow.laidByTextAt .later Tryd.pinned [.data] true :=
  OpenClaim.laidByTextAt_later rfl rfl tie2 noOwnUnsafe
theorem actuatorsRunUpto_row_tie : Rows.actuatorsRunUptoRow.laidByTextAt .later Tryd.pinned [.data] true :=
  OpenClaim.laidByTextAt_later rfl rfl tie2 noOwnUnsafe
theorem configsHalvesUpto_row_tie : Rows.configsHalvesUptoRow.laidByTextAt .later Tryd.pinned [.data] true :=
  OpenClaim.laidByTextAt_later rfl rfl tie2 noOwnUnsafe
theorem windowsOverUpto_row_tie : Rows.windowsOverUptoRow.laidByTextAt .later Tryd.pinned [.data, .data] true :=
  OpenClaim.laidByTextAt_later rfl rfl tie3 noOwnUnsafe
theorem windowsOfUpto_row_tie : Rows.windowsOfUptoRow.laidByTextAt .later Tryd.pinned [.data, .data] true :=
  OpenClaim.laidByTextAt_later rfl rfl tie3 noOwnUnsafe
theorem windowsGuardsUpto_row_tie : Rows.windowsGuardsUptoRow.laidByTextAt .later Tryd.pinned [.data, .data] true :=
  OpenClaim.laidByTextAt_later rfl rfl tie3 noOwnUnsafe
theorem windowsMeetUpto_row_tie : Rows.windowsMeetUptoRow.laidByTextAt .later Tryd.pinned [.data, .data] true :=
  OpenClaim.laidByTextAt_later rfl rfl tie3 noOwnUnsafe
theorem clocksOfUpto_row_tie : Rows.clocksOfUptoRow.laidByTextAt .later Tryd.pinned [.data] true :=
  OpenClaim.laidByTextAt_later rfl rfl tie2 noOwnUnsafe
theorem clocksBackUpto_row_tie : Rows.clocksBackUptoRow.laidByTextAt .later Tryd.pinned [.data] true :=
  OpenClaim.laidByTextAt_later rfl rfl tie2 noOwnUnsafe
end Go.Proofs.YtgfmjbfjodidpaaDoor
