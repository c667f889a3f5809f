/- The shelf's contract of bits.Len at this seat (laid by the kit's lay-shelf.mjs; seat YtpgaplcdbbnblaaGreatDoor alone; empty it at a seat whose Shelf has it). -/
import Derived.Shelf.Small.Bits
import Derived.Shelf.Small.Wraps
import Derived.Test.YtpgaplcdbbnblaaGreatDoorProg
set_option linter.unusedSimpArgs false
set_option linter.unusedVariables false
