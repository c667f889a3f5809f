/- What every card asks of the whole program: each fact by itself, so that the kernel's memory is enough. -/
import Derived.Test.YtoelekmbmghicaaGreatDoorTie
import Derived.Test.YtoelekmbmghicaaGreatDoorCards
import Derived.JoinedCond
import Derived.KernelRfl
set_option linter.unusedSimpArgs false
set_option linter.unusedVariables false
