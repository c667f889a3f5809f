/- Views as plain data with a number for each pair. No Go text is in sight. -/
import Derived.Test.YtgfmjbfjodidpaaDoorJB0x9
import Derived.Test.YtgfmjbfjodidpaaDoorJB0x2
set_option linter.unusedSimpArgs false
set_option linter.unusedVariables false
section
namespace Go.Proofs.YtgfmjbfjodidpaaDoor
open Go.RowKit

structure Vw where
  inn : Nat → Bool
  miss : Nat → Int
  good : Nat → Int
  score : Nat → Int
  got : Nat → Bool
  command : Int
  mode : Int
def Vw.cells (v : Vw) : List Value := [.bool (v.inn 0), .bool (v.inn 1), .bool (v.inn 2), .bool (v.inn 3), .bool (v.inn 4), .bool (v.inn 5), .bool (v.inn 6), .bool (v.inn 7), .int .u8 (v.miss 0), .int .u8 (v.miss 1), .int .u8 (v.miss 2), .int .u8 (v.miss 3), .int .u8 (v.miss 4), .int .u8 (v.miss 5), .int .u8 (v.miss 6), .int .u8 (v.miss 7), .int .u8 (v.good 0), .int .u8 (v.good 1), .int .u8 (v.good 2), .int .u8 (v.good 3), .int .u8 (v.good 4), .int .u8 (v.good 5), .int .u8 (v.good 6), .int .u8 (v.good 7), .int .u16 (v.score 0), .int .u16 (v.score 1), .int .u16 (v.score 2), .int .u16 (v.score 3), .int .u16 (v.score 4), .int .u16 (v.score 5), .int .u16 (v.score 6), .int .u16 (v.score 7), .bool (v.got 0), .bool (v.got 1), .bool (v.got 2), .bool (v.got 3), .bool (v.got 4), .bool (v.got 5), .bool (v.got 6), .bool (v.got 7), .int .i8 v.command, .int .u8 v.mode]
theorem Vw.len (v : Vw) : v.cells.length = 42 := rfl
/-- the cells of a view, as the evaluator has them -/
abbrev vwL (v : Vw) : List AC := v.cells.map .v
structure Vw.Ok (v : Vw) : Prop where
  miss : ∀ i, i < 8 → 0 ≤ v.miss i ∧ v.miss i ≤ 255
  good : ∀ i, i < 8 → 0 ≤ v.good i ∧ v.good i ≤ 255
  score : ∀ i, i < 8 → 0 ≤ v.score i ∧ v.score i ≤ 65535
  command : -128 ≤ v.command ∧ v.command ≤ 127
  mode : 0 ≤ v.mode ∧ v.mode ≤ 255
/-- the numbers below 'n' of which it is true -/
def cntF (f : Nat → Bool) : Nat → Nat
  | 0 => 0
  | k + 1 => cntF f k + (if f k then 1 else 0)
end Go.Proofs.YtgfmjbfjodidpaaDoor
end
