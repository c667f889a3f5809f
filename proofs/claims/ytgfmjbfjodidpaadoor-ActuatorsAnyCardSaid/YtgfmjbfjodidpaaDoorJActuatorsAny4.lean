/- A struct of Go's small structs as structures: their cells, how they are opened. Printed by wip/gen_tr.py. -/
import Derived.Test.YtgfmjbfjodidpaaDoorJB0x2
set_option linter.unusedSimpArgs false
set_option linter.unusedVariables false
section
namespace Go.Proofs.YtgfmjbfjodidpaaDoor
open Go.RowKit

/-! ### Trial: sennit/sennitlaw26.Trial -/
structure Trial where
  station : Int
  any : Bool
  seq : Int
  value : Int
  since : Int
  d : Said
  pair : Int
  command : Int
  dround : Int
  round : Int
deriving DecidableEq
def Trial.cells (x : Trial) : List Value := [.int .i64 x.station, .bool x.any, .int .u32 x.seq, .int .u32 x.value, .int .i64 x.since, .bool x.d.is, .int .i64 x.d.at_, .int .u8 x.d.p.kind, .int .u8 x.d.p.st, .int .u32 x.d.p.seq, .int .u32 x.d.p.val, .int .i64 x.pair, .int .i64 x.command, .int .i64 x.dround, .int .i64 x.round]
def Trial.zero : Trial := { station := 0, any := false, seq := 0, value := 0, since := 0, d := Said.zero, pair := 0, command := 0, dround := 0, round := 0 }
theorem Trial.len (x : Trial) : x.cells.length = 15 := rfl
def Trial.ks : List (Option IntKind) := (some .i64 :: (none :: (some .u32 :: (some .u32 :: (some .i64 :: (Said.ks ++ (some .i64 :: (some .i64 :: (some .i64 :: (some .i64 :: []))))))))))
def Trial.Ok (x : Trial) : Prop := (-9223372036854775808 ≤ x.station ∧ x.station ≤ 9223372036854775807) ∧ (0 ≤ x.seq ∧ x.seq ≤ 4294967295) ∧ (0 ≤ x.value ∧ x.value ≤ 4294967295) ∧ (-9223372036854775808 ≤ x.since ∧ x.since ≤ 9223372036854775807) ∧ x.d.Ok ∧ (-9223372036854775808 ≤ x.pair ∧ x.pair ≤ 9223372036854775807) ∧ (-9223372036854775808 ≤ x.command ∧ x.command ≤ 9223372036854775807) ∧ (-9223372036854775808 ≤ x.dround ∧ x.dround ≤ 9223372036854775807) ∧ (-9223372036854775808 ≤ x.round ∧ x.round ≤ 9223372036854775807)
theorem Trial.of_flat {cs : List Value} (h0 : Flat Trial.ks cs) : ∃ x : Trial, x.Ok ∧ cs = x.cells := by
  obtain ⟨c0, r0, rfl, ⟨v0, rfl, w0⟩, h1⟩ := h0.uncons
  obtain ⟨c1, r1, rfl, ⟨v1, rfl⟩, h2⟩ := h1.uncons
  obtain ⟨c2, r2, rfl, ⟨v2, rfl, w2⟩, h3⟩ := h2.uncons
  obtain ⟨c3, r3, rfl, ⟨v3, rfl, w3⟩, h4⟩ := h3.uncons
  obtain ⟨c4, r4, rfl, ⟨v4, rfl, w4⟩, h5⟩ := h4.uncons
  obtain ⟨c5, r5, rfl, g5, h6⟩ := h5.unapp
  obtain ⟨v5, w5, rfl⟩ := Said.of_flat g5
  obtain ⟨c6, r6, rfl, ⟨v6, rfl, w6⟩, h7⟩ := h6.uncons
  obtain ⟨c7, r7, rfl, ⟨v7, rfl, w7⟩, h8⟩ := h7.uncons
  obtain ⟨c8, r8, rfl, ⟨v8, rfl, w8⟩, h9⟩ := h8.uncons
  obtain ⟨c9, r9, rfl, ⟨v9, rfl, w9⟩, h10⟩ := h9.uncons
  obtain rfl := h10.unnil
  exact ⟨⟨v0, v1, v2, v3, v4, v5, v6, v7, v8, v9⟩, ⟨bounds_i64 w0, bounds_u32 w2, bounds_u32 w3, bounds_i64 w4, w5, bounds_i64 w6, bounds_i64 w7, bounds_i64 w8, bounds_i64 w9⟩, by simp [Trial.cells, Said.cells, Payload.cells]⟩
end Go.Proofs.YtgfmjbfjodidpaaDoor
end
