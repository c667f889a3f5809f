/- reports.Deliver. -/
import Derived.Test.YtpgaplcdbbnblaaGreatDoorJHealthsBlame23
import Derived.Test.YtpgaplcdbbnblaaGreatDoorJHealthsBlame25
import Derived.Test.YtpgaplcdbbnblaaGreatDoorJHealthsBlame5
import Derived.Deep.QuietTactic
import Derived.BigRegion
set_option linter.unusedSimpArgs false
set_option linter.unusedVariables false
