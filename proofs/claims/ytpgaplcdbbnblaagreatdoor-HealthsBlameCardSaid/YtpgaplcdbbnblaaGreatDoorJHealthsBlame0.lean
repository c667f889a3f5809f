/- What every card asks of the whole program: each fact by itself, so that the kernel's memory is enough. -/
import Derived.Test.YtpgaplcdbbnblaaGreatDoorTie
import Derived.Test.YtpgaplcdbbnblaaGreatDoorCards
import Derived.JoinedCond
import Derived.KernelRfl
set_option linter.unusedSimpArgs false
set_option linter.unusedVariables false
section
namespace Go.Proofs.YtpgaplcdbbnblaaGreatDoor
open Go.WideShapes Go.ChangeShapes Go.ChangeAt
theorem factA : laidOutB Tryz.pinned.checked.prog = true := by kernel_rfl
theorem factB : mapsRowed Tryz.pinned.checked.prog = true := by kernel_rfl
theorem factC : (Tryz.pinned.checked.prog).stopsHeard = true := by kernel_rfl
theorem factD : (Tryz.pinned.checked.prog).mayEnter = true := by kernel_rfl
end Go.Proofs.YtpgaplcdbbnblaaGreatDoor
end
