/- reports.is. -/
import Derived.Test.YtpgaplcdbbnblaaGreatDoorJHealthsBlame22
import Derived.RegionTactic
set_option linter.unusedSimpArgs false
set_option linter.unusedVariables false
