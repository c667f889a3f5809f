/- Laws of a list that came in: from their runs to their calls. -/
import Derived.Test.YthekiiagacnhkaaDoorJB0x15
import Derived.Test.YthekiiagacnhkaaDoorJB0x9
set_option linter.unusedSimpArgs false
set_option linter.unusedVariables false
