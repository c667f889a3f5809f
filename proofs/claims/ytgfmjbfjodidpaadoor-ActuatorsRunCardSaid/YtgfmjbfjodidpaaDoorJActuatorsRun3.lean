/- A struct of Go's small structs as structures: their cells, how they are opened. Printed by wip/gen_dl.py. -/
import Derived.Test.YtgfmjbfjodidpaaDoorJB0x2
set_option linter.unusedSimpArgs false
set_option linter.unusedVariables false
section
namespace Go.Proofs.YtgfmjbfjodidpaaDoor
open Go.RowKit

/-! ### Deliv: sennit/actuators.Delivery -/
structure Deliv where
  said : Said
  pair : Int
  command : Int
  round : Int
deriving DecidableEq
def Deliv.cells (x : Deliv) : List Value := [.bool x.said.is, .int .i64 x.said.at_, .int .u8 x.said.p.kind, .int .u8 x.said.p.st, .int .u32 x.said.p.seq, .int .u32 x.said.p.val, .int .i64 x.pair, .int .i64 x.command, .int .i64 x.round]
def Deliv.zero : Deliv := { said := Said.zero, pair := 0, command := 0, round := 0 }
theorem Deliv.len (x : Deliv) : x.cells.length = 9 := rfl
def Deliv.ks : List (Option IntKind) := (Said.ks ++ (some .i64 :: (some .i64 :: (some .i64 :: []))))
def Deliv.Ok (x : Deliv) : Prop := x.said.Ok ∧ (-9223372036854775808 ≤ x.pair ∧ x.pair ≤ 9223372036854775807) ∧ (-9223372036854775808 ≤ x.command ∧ x.command ≤ 9223372036854775807) ∧ (-9223372036854775808 ≤ x.round ∧ x.round ≤ 9223372036854775807)
theorem Deliv.of_flat {cs : List Value} (h0 : Flat Deliv.ks cs) : ∃ x : Deliv, x.Ok ∧ cs = x.cells := by
  obtain ⟨c0, r0, rfl, g0, h1⟩ := h0.unapp
  obtain ⟨v0, w0, rfl⟩ := Said.of_flat g0
  obtain ⟨c1, r1, rfl, ⟨v1, rfl, w1⟩, h2⟩ := h1.uncons
  obtain ⟨c2, r2, rfl, ⟨v2, rfl, w2⟩, h3⟩ := h2.uncons
  obtain ⟨c3, r3, rfl, ⟨v3, rfl, w3⟩, h4⟩ := h3.uncons
  obtain rfl := h4.unnil
  exact ⟨⟨v0, v1, v2, v3⟩, ⟨w0, bounds_i64 w1, bounds_i64 w2, bounds_i64 w3⟩, by simp [Deliv.cells, Said.cells, Payload.cells]⟩
end Go.Proofs.YtgfmjbfjodidpaaDoor
end
