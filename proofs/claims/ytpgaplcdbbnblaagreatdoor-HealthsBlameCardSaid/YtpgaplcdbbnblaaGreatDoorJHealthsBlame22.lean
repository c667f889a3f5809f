/- The structures of TyDefs at this seat's numbers: load, store, build, zero, '=='. Printed by wip/gen_types.py. -/
import Derived.Test.YtpgaplcdbbnblaaGreatDoorJHealthsBlame3
import Derived.Test.YtpgaplcdbbnblaaGreatDoorChecked
set_option linter.unusedSimpArgs false
set_option linter.unusedVariables false
section
namespace Go.Proofs.YtpgaplcdbbnblaaGreatDoor
open Go.RowKit
theorem Payload.cellsOf : Tryz.prog.cellsOf 56 = 4 := by kernel_rfl
theorem Said.cellsOf : Tryz.prog.cellsOf 58 = 6 := by kernel_rfl
theorem View.cellsOf : Tryz.prog.cellsOf 32 = 42 := by kernel_rfl
theorem Cell.cellsOf : Tryz.prog.cellsOf 92 = 55 := by kernel_rfl
theorem Held.cellsOf : Tryz.prog.cellsOf 94 = 56 := by kernel_rfl
attribute [go_sem] List.flatMap_cons List.flatMap_nil
end Go.Proofs.YtpgaplcdbbnblaaGreatDoor
end
