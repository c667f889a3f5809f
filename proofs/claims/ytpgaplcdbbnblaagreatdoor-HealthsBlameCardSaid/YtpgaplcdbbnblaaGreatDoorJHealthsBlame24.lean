/- A map that the call itself has made, told entry by entry: keys are structs or arrays without pointers, read as lists of cells. Look-up, the entry of an assignment with operation, and its store. -/
import Derived.Test.YtpgaplcdbbnblaaGreatDoorJHealthsBlame3
import Derived.Maps.Keyed
set_option linter.unusedSimpArgs false
set_option linter.unusedVariables false
