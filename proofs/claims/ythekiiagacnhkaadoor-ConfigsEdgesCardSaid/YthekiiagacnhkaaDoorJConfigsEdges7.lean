/- Lists that came in, as blocks that are only read. No Go text is in sight. -/
import Derived.Test.YthekiiagacnhkaaDoorJB0x9
import Derived.Test.YthekiiagacnhkaaDoorJB0x11
import Derived.Test.YthekiiagacnhkaaDoorJConfigsEdges0
set_option linter.unusedSimpArgs false
set_option linter.unusedVariables false
