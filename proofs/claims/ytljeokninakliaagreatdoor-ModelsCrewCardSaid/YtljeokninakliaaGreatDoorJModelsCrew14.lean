/- Parts of a proof. -/
import Derived.Test.YtljeokninakliaaGreatDoorProg
set_option linter.unusedSimpArgs false
set_option linter.unusedVariables false
