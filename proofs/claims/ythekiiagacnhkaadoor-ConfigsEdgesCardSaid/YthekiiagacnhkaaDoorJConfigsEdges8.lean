/- A config that came in. -/
import Derived.Test.YthekiiagacnhkaaDoorJConfigsEdges7
import Derived.Test.YthekiiagacnhkaaDoorJConfigsEdges1
set_option linter.unusedSimpArgs false
set_option linter.unusedVariables false
