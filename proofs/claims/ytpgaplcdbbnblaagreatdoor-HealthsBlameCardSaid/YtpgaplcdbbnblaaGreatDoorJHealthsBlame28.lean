/- members.Base of an empty vector: its contract, by the kit's walk. -/
import Derived.Test.YtpgaplcdbbnblaaGreatDoorJHealthsBlame15
import Derived.Test.YtpgaplcdbbnblaaGreatDoorJHealthsBlame22
import Derived.Test.YtpgaplcdbbnblaaGreatDoorJHealthsBlame24
import Derived.Laws.IdiomRangeMap
set_option linter.unusedSimpArgs false
set_option linter.unusedVariables false
