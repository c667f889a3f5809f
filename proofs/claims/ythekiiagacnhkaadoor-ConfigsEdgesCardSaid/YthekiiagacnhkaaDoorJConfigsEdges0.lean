/- Parts, one behind the other. More of Go's small structs as structures: their cells, how they are opened. Printed by wip/gen_more.py. -/
import Derived.Test.YthekiiagacnhkaaDoorJB0x2
set_option linter.unusedSimpArgs false
set_option linter.unusedVariables false
/- More of Go's small structs as structures: their cells, how they are opened. Printed by wip/gen_more.py. -/
section
namespace Go.Proofs.YthekiiagacnhkaaDoor
open Go.RowKit

/-! ### HAct: sennit/sennitlaw19.Act -/
/-! ### CTime: sennit/clocks.Time -/
/-! ### Entry: sennit/hosts.Entry -/
/-! ### Station: sennit/api.Station -/
structure Station where
  node : Int
  safe : Int
  hold : Int
deriving DecidableEq
def Station.cells (x : Station) : List Value := [.int .i64 x.node, .int .u32 x.safe, .int .i64 x.hold]
def Station.zero : Station := { node := 0, safe := 0, hold := 0 }
theorem Station.len (x : Station) : x.cells.length = 3 := rfl
def Station.ks : List (Option IntKind) := (some .i64 :: (some .u32 :: (some .i64 :: [])))
/-! ### Step: sennit/sennitlaw06.Step -/
end Go.Proofs.YthekiiagacnhkaaDoor
end
