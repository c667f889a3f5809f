/- The map of reports.Deliver: payloads and their counts. -/
import Derived.Test.YtpgaplcdbbnblaaGreatDoorJHealthsBlame22
import Derived.Test.YtpgaplcdbbnblaaGreatDoorJHealthsBlame24
set_option linter.unusedSimpArgs false
set_option linter.unusedVariables false
