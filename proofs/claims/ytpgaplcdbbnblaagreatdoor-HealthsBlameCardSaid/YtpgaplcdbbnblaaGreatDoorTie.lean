/-
  DERIVED. GIVEN WITH THE SEED: THE PROGRAM's TIES (one call each: nine closed facts by the kernel) AND EACH ROW's TIE, after the 31st guide's Derived/Test/Toyas{Tie, Card}.lean. No idea stands in it: it is a product of the set-up. Laid BY PROGRAM, IN A SANDBOX (cutbox-door.mjs). By AI agents, Wed Nov 11 2026. No macro, syntax, notation, axiom, sorry.
-/
import Derived.Test.YtpgaplcdbbnblaaGreatDoorRows
import Derived.LaidByTextLater
import Derived.SevenTiedAt
import Derived.LaidSub
import Derived.LaidOnce
namespace Go.Proofs.YtpgaplcdbbnblaaGreatDoor
open Go
set_option maxRecDepth 100000
theorem seatTie1 : Tryz.prog.laidByTextLater [("sennit/rings.signs", Rows.laid_sennit_rings_signs), ("sennit/modes.edges", Rows.laid_sennit_modes_edges), ("sennit/windows.roles", Rows.laid_sennit_windows_roles)] [.data, .data, .data] true :=
  Program.laidByTextLater_by_one 29 8 26 (by kernel_rfl) (by kernel_rfl) (by kernel_rfl) (by kernel_rfl) (by kernel_rfl) (by kernel_rfl) (fun _ _ => by kernel_rfl)
theorem noOwnUnsafe : Tryz.pinned.checked.prog.headLifts.contains "ownunsafe" = false := by kernel_rfl
theorem tie : Tryz.prog.laidByTextLater [("sennit/rings.signs", Rows.laid_sennit_rings_signs)] [.data] true :=
  Program.laidByTextLater.sub seatTie1 ["sennit/rings.signs"] (by kernel_rfl) (by kernel_rfl)
theorem membersView_row_tie : Rows.membersViewRow.laidByTextAt .later Tryz.pinned [.data] true :=
  OpenClaim.laidByTextAt_later rfl rfl tie noOwnUnsafe
theorem healthsBlame_row_tie : Rows.healthsBlameRow.laidByTextAt .later Tryz.pinned [.data] true :=
  OpenClaim.laidByTextAt_later rfl rfl tie noOwnUnsafe
theorem tie2 : Tryz.prog.laidByTextLater [("sennit/rings.signs", Rows.laid_sennit_rings_signs), ("sennit/windows.roles", Rows.laid_sennit_windows_roles)] [.data, .data] true :=
  Program.laidByTextLater.sub seatTie1 ["sennit/rings.signs", "sennit/windows.roles"] (by kernel_rfl) (by kernel_rfl)
theorem sendersOut_row_tie : Rows.sendersOutRow.laidByTextAt .later Tryz.pinned [.data, .data] true :=
  OpenClaim.laidByTextAt_later rfl rfl tie2 noOwnUnsafe
theorem sendersVoid_row_tie : Rows.sendersVoidRow.laidByTextAt .later Tryz.pinned [.data, .data] true :=
  OpenClaim.laidByTextAt_later rfl rfl tie2 noOwnUnsafe
theorem sendersUnlike_row_tie : Rows.sendersUnlikeRow.laidByTextAt .later Tryz.pinned [.data, .data] true :=
  OpenClaim.laidByTextAt_later rfl rfl tie2 noOwnUnsafe
theorem flowsVoid_row_tie : Rows.flowsVoidRow.laidByTextAt .later Tryz.pinned [.data, .data] true :=
  OpenClaim.laidByTextAt_later rfl rfl tie2 noOwnUnsafe
theorem tie3 : Tryz.prog.laidByTextLater [("sennit/rings.signs", Rows.laid_sennit_rings_signs), ("sennit/modes.edges", Rows.laid_sennit_modes_edges)] [.data, .data] true :=
  Program.laidByTextLater.sub seatTie1 ["sennit/rings.signs", "sennit/modes.edges"] (by kernel_rfl) (by kernel_rfl)
theorem modelsKeep_row_tie : Rows.modelsKeepRow.laidByTextAt .later Tryz.pinned [.data, .data] true :=
  OpenClaim.laidByTextAt_later rfl rfl tie3 noOwnUnsafe
theorem crewsBound_row_tie : Rows.crewsBoundRow.laidByTextAt .later Tryz.pinned [.data, .data] true :=
  OpenClaim.laidByTextAt_later rfl rfl tie3 noOwnUnsafe
theorem crewsEdges_row_tie : Rows.crewsEdgesRow.laidByTextAt .later Tryz.pinned [.data, .data] true :=
  OpenClaim.laidByTextAt_later rfl rfl tie3 noOwnUnsafe
theorem crewsVoid_row_tie : Rows.crewsVoidRow.laidByTextAt .later Tryz.pinned [.data, .data] true :=
  OpenClaim.laidByTextAt_later rfl rfl tie3 noOwnUnsafe
theorem membersViewUpto_row_tie : Rows.membersViewUptoRow.laidByTextAt .later Tryz.pinned [.data] true :=
  OpenClaim.laidByTextAt_later rfl rfl tie noOwnUnsafe
theorem sendersOutUpto_row_tie : Rows.sendersOutUptoRow.laidByTextAt .later Tryz.pinned [.data, .data] true :=
  OpenClaim.laidByTextAt_later rfl rfl tie2 noOwnUnsafe
theorem sendersVoidUpto_row_tie : Rows.sendersVoidUptoRow.laidByTextAt .later Tryz.pinned [.data, .data] true :=
  OpenClaim.laidByTextAt_later rfl rfl tie2 noOwnUnsafe
theorem sendersUnlikeUpto_row_tie : Rows.sendersUnlikeUptoRow.laidByTextAt .later Tryz.pinned [.data, .data] true :=
  OpenClaim.laidByTextAt_later rfl rfl tie2 noOwnUnsafe
theorem healthsBlameUpto_row_tie : Rows.healthsBlameUptoRow.laidByTextAt .later Tryz.pinned [.data] true :=
  OpenClaim.laidByTextAt_later rfl rfl tie noOwnUnsafe
theorem flowsVoidUpto_row_tie : Rows.flowsVoidUptoRow.laidByTextAt .later Tryz.pinned [.data, .data] true :=
  OpenClaim.laidByTextAt_later rfl rfl tie2 noOwnUnsafe
theorem modelsKeepUpto_row_tie : Rows.modelsKeepUptoRow.laidByTextAt .later Tryz.pinned [.data, .data] true :=
  OpenClaim.laidByTextAt_later rfl rfl tie3 noOwnUnsafe
theorem crewsBoundUpto_row_tie : Rows.crewsBoundUptoRow.laidByTextAt .later Tryz.pinned [.data, .data] true :=
  OpenClaim.laidByTextAt_later rfl rfl tie3 noOwnUnsafe
theorem crewsEdgesUpto_row_tie : Rows.crewsEdgesUptoRow.laidByTextAt .later Tryz.pinned [.data, .data] true :=
  OpenClaim.laidByTextAt_later rfl rfl tie3 noOwnUnsafe
theorem crewsVoidUpto_row_tie : Rows.crewsVoidUptoRow.laidByTextAt .later Tryz.pinned [.data, .data] true :=
  OpenClaim.laidByTextAt_later rfl rfl tie3 noOwnUnsafe
end Go.Proofs.YtpgaplcdbbnblaaGreatDoor
