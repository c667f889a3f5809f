/- reports.Deliver of a constant vector: its contract. -/
import Derived.Test.YtpgaplcdbbnblaaGreatDoorJHealthsBlame26
import Derived.Test.YtpgaplcdbbnblaaGreatDoorJHealthsBlame10
set_option linter.unusedSimpArgs false
set_option linter.unusedVariables false
