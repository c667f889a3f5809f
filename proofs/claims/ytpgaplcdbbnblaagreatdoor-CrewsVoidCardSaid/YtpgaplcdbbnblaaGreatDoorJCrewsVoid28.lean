/- Parts, one behind the other. Laws of a config that came in: from their runs to their calls. -/
import Derived.Test.YtpgaplcdbbnblaaGreatDoorJCrewsVoid27
import Derived.Test.YtpgaplcdbbnblaaGreatDoorJCrewsVoid21
import Derived.Test.YtpgaplcdbbnblaaGreatDoorJCrewsVoid15
import Derived.Test.YtpgaplcdbbnblaaGreatDoorJCrewsVoid22
set_option linter.unusedSimpArgs false
set_option linter.unusedVariables false
