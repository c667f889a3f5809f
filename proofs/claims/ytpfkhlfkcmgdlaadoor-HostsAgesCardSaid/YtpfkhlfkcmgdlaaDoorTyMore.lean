/- More of Go's small structs as structures: their cells, how they are opened. Printed by wip/gen_more.py. -/
import Derived.Test.YtpfkhlfkcmgdlaaDoorTyDefs
set_option linter.unusedSimpArgs false
set_option linter.unusedVariables false
namespace Go.Proofs.YtpfkhlfkcmgdlaaDoor
open Go.RowKit

/-! ### Act: sennit/sennitlaw19.Act -/
structure Act where
  put : Bool
  pair : Int
  p : Payload
  round : Int
deriving DecidableEq
def Act.cells (x : Act) : List Value := [.bool x.put, .int .i64 x.pair, .int .u8 x.p.kind, .int .u8 x.p.st, .int .u32 x.p.seq, .int .u32 x.p.val, .int .i64 x.round]
def Act.zero : Act := { put := false, pair := 0, p := Payload.zero, round := 0 }
theorem Act.len (x : Act) : x.cells.length = 7 := rfl
def Act.ks : List (Option IntKind) := (none :: (some .i64 :: (Payload.ks ++ (some .i64 :: []))))
def Act.Ok (x : Act) : Prop := (-9223372036854775808 ≤ x.pair ∧ x.pair ≤ 9223372036854775807) ∧ x.p.Ok ∧ (-9223372036854775808 ≤ x.round ∧ x.round ≤ 9223372036854775807)
theorem Act.of_flat {cs : List Value} (h0 : Flat Act.ks cs) : ∃ x : Act, x.Ok ∧ cs = x.cells := by
  obtain ⟨c0, r0, rfl, ⟨v0, rfl⟩, h1⟩ := h0.uncons
  obtain ⟨c1, r1, rfl, ⟨v1, rfl, w1⟩, h2⟩ := h1.uncons
  obtain ⟨c2, r2, rfl, g2, h3⟩ := h2.unapp
  obtain ⟨v2, w2, rfl⟩ := Payload.of_flat g2
  obtain ⟨c3, r3, rfl, ⟨v3, rfl, w3⟩, h4⟩ := h3.uncons
  obtain rfl := h4.unnil
  exact ⟨⟨v0, v1, v2, v3⟩, ⟨bounds_i64 w1, w2, bounds_i64 w3⟩, by simp [Act.cells, Said.cells, Payload.cells]⟩
/-! ### CTime: sennit/clocks.Time -/
structure CTime where
  round : Int
  slot : Int
  place : Int
deriving DecidableEq
def CTime.cells (x : CTime) : List Value := [.int .i64 x.round, .int .i64 x.slot, .int .i64 x.place]
def CTime.zero : CTime := { round := 0, slot := 0, place := 0 }
theorem CTime.len (x : CTime) : x.cells.length = 3 := rfl
def CTime.ks : List (Option IntKind) := (some .i64 :: (some .i64 :: (some .i64 :: [])))
def CTime.Ok (x : CTime) : Prop := (-9223372036854775808 ≤ x.round ∧ x.round ≤ 9223372036854775807) ∧ (-9223372036854775808 ≤ x.slot ∧ x.slot ≤ 9223372036854775807) ∧ (-9223372036854775808 ≤ x.place ∧ x.place ≤ 9223372036854775807)
theorem CTime.of_flat {cs : List Value} (h0 : Flat CTime.ks cs) : ∃ x : CTime, x.Ok ∧ cs = x.cells := by
  obtain ⟨c0, r0, rfl, ⟨v0, rfl, w0⟩, h1⟩ := h0.uncons
  obtain ⟨c1, r1, rfl, ⟨v1, rfl, w1⟩, h2⟩ := h1.uncons
  obtain ⟨c2, r2, rfl, ⟨v2, rfl, w2⟩, h3⟩ := h2.uncons
  obtain rfl := h3.unnil
  exact ⟨⟨v0, v1, v2⟩, ⟨bounds_i64 w0, bounds_i64 w1, bounds_i64 w2⟩, by simp [CTime.cells, Said.cells, Payload.cells]⟩
/-! ### Entry: sennit/hosts.Entry -/
structure Entry where
  frm : Int
  rounds : Int
  p : Payload
deriving DecidableEq
def Entry.cells (x : Entry) : List Value := [.int .i64 x.frm, .int .i64 x.rounds, .int .u8 x.p.kind, .int .u8 x.p.st, .int .u32 x.p.seq, .int .u32 x.p.val]
def Entry.zero : Entry := { frm := 0, rounds := 0, p := Payload.zero }
theorem Entry.len (x : Entry) : x.cells.length = 6 := rfl
def Entry.ks : List (Option IntKind) := (some .i64 :: (some .i64 :: (Payload.ks ++ [])))
def Entry.Ok (x : Entry) : Prop := (-9223372036854775808 ≤ x.frm ∧ x.frm ≤ 9223372036854775807) ∧ (-9223372036854775808 ≤ x.rounds ∧ x.rounds ≤ 9223372036854775807) ∧ x.p.Ok
theorem Entry.of_flat {cs : List Value} (h0 : Flat Entry.ks cs) : ∃ x : Entry, x.Ok ∧ cs = x.cells := by
  obtain ⟨c0, r0, rfl, ⟨v0, rfl, w0⟩, h1⟩ := h0.uncons
  obtain ⟨c1, r1, rfl, ⟨v1, rfl, w1⟩, h2⟩ := h1.uncons
  obtain ⟨c2, r2, rfl, g2, h3⟩ := h2.unapp
  obtain ⟨v2, w2, rfl⟩ := Payload.of_flat g2
  obtain rfl := h3.unnil
  exact ⟨⟨v0, v1, v2⟩, ⟨bounds_i64 w0, bounds_i64 w1, w2⟩, by simp [Entry.cells, Said.cells, Payload.cells]⟩
/-! ### Station: sennit/api.Station -/
structure Station where
  node : Int
  safe : Int
  hold : Int
deriving DecidableEq
def Station.cells (x : Station) : List Value := [.int .i64 x.node, .int .u32 x.safe, .int .i64 x.hold]
def Station.zero : Station := { node := 0, safe := 0, hold := 0 }
theorem Station.len (x : Station) : x.cells.length = 3 := rfl
def Station.ks : List (Option IntKind) := (some .i64 :: (some .u32 :: (some .i64 :: [])))
def Station.Ok (x : Station) : Prop := (-9223372036854775808 ≤ x.node ∧ x.node ≤ 9223372036854775807) ∧ (0 ≤ x.safe ∧ x.safe ≤ 4294967295) ∧ (-9223372036854775808 ≤ x.hold ∧ x.hold ≤ 9223372036854775807)
theorem Station.of_flat {cs : List Value} (h0 : Flat Station.ks cs) : ∃ x : Station, x.Ok ∧ cs = x.cells := by
  obtain ⟨c0, r0, rfl, ⟨v0, rfl, w0⟩, h1⟩ := h0.uncons
  obtain ⟨c1, r1, rfl, ⟨v1, rfl, w1⟩, h2⟩ := h1.uncons
  obtain ⟨c2, r2, rfl, ⟨v2, rfl, w2⟩, h3⟩ := h2.uncons
  obtain rfl := h3.unnil
  exact ⟨⟨v0, v1, v2⟩, ⟨bounds_i64 w0, bounds_u32 w1, bounds_i64 w2⟩, by simp [Station.cells, Said.cells, Payload.cells]⟩
/-! ### Step: sennit/sennitlaw06.Step -/
structure Step where
  age : Int
  many : Int
  goes : Bool
  sure : Bool
deriving DecidableEq
def Step.cells (x : Step) : List Value := [.int .i64 x.age, .int .u16 x.many, .bool x.goes, .bool x.sure]
def Step.zero : Step := { age := 0, many := 0, goes := false, sure := false }
theorem Step.len (x : Step) : x.cells.length = 4 := rfl
def Step.ks : List (Option IntKind) := (some .i64 :: (some .u16 :: (none :: (none :: []))))
def Step.Ok (x : Step) : Prop := (-9223372036854775808 ≤ x.age ∧ x.age ≤ 9223372036854775807) ∧ (0 ≤ x.many ∧ x.many ≤ 65535)
theorem Step.of_flat {cs : List Value} (h0 : Flat Step.ks cs) : ∃ x : Step, x.Ok ∧ cs = x.cells := by
  obtain ⟨c0, r0, rfl, ⟨v0, rfl, w0⟩, h1⟩ := h0.uncons
  obtain ⟨c1, r1, rfl, ⟨v1, rfl, w1⟩, h2⟩ := h1.uncons
  obtain ⟨c2, r2, rfl, ⟨v2, rfl⟩, h3⟩ := h2.uncons
  obtain ⟨c3, r3, rfl, ⟨v3, rfl⟩, h4⟩ := h3.uncons
  obtain rfl := h4.unnil
  exact ⟨⟨v0, v1, v2, v3⟩, ⟨bounds_i64 w0, bounds_u16 w1⟩, by simp [Step.cells, Said.cells, Payload.cells]⟩
theorem vlist8 {α β : Type} (d : α) (f : α → β) (v : Vector α 8) : v.toList.map f = [f (vat d v 0), f (vat d v 1), f (vat d v 2), f (vat d v 3), f (vat d v 4), f (vat d v 5), f (vat d v 6), f (vat d v 7)] := by
  apply List.ext_getElem?
  intro i
  match i with
  | 0 => rw [vat_get d f v _ (by omega)]; rfl
  | 1 => rw [vat_get d f v _ (by omega)]; rfl
  | 2 => rw [vat_get d f v _ (by omega)]; rfl
  | 3 => rw [vat_get d f v _ (by omega)]; rfl
  | 4 => rw [vat_get d f v _ (by omega)]; rfl
  | 5 => rw [vat_get d f v _ (by omega)]; rfl
  | 6 => rw [vat_get d f v _ (by omega)]; rfl
  | 7 => rw [vat_get d f v _ (by omega)]; rfl
  | i + 8 => simp
/-- the cells of a view, each one by itself -/
def View.cellsE (x : View) : List Value := [.bool (vat false x.inn 0), .bool (vat false x.inn 1), .bool (vat false x.inn 2), .bool (vat false x.inn 3), .bool (vat false x.inn 4), .bool (vat false x.inn 5), .bool (vat false x.inn 6), .bool (vat false x.inn 7), .int .u8 (vat 0 x.miss 0), .int .u8 (vat 0 x.miss 1), .int .u8 (vat 0 x.miss 2), .int .u8 (vat 0 x.miss 3), .int .u8 (vat 0 x.miss 4), .int .u8 (vat 0 x.miss 5), .int .u8 (vat 0 x.miss 6), .int .u8 (vat 0 x.miss 7), .int .u8 (vat 0 x.good 0), .int .u8 (vat 0 x.good 1), .int .u8 (vat 0 x.good 2), .int .u8 (vat 0 x.good 3), .int .u8 (vat 0 x.good 4), .int .u8 (vat 0 x.good 5), .int .u8 (vat 0 x.good 6), .int .u8 (vat 0 x.good 7), .int .u16 (vat 0 x.score 0), .int .u16 (vat 0 x.score 1), .int .u16 (vat 0 x.score 2), .int .u16 (vat 0 x.score 3), .int .u16 (vat 0 x.score 4), .int .u16 (vat 0 x.score 5), .int .u16 (vat 0 x.score 6), .int .u16 (vat 0 x.score 7), .bool (vat false x.got 0), .bool (vat false x.got 1), .bool (vat false x.got 2), .bool (vat false x.got 3), .bool (vat false x.got 4), .bool (vat false x.got 5), .bool (vat false x.got 6), .bool (vat false x.got 7), .int .i8 x.command, .int .u8 x.mode]
theorem View.cellsE_eq (x : View) : x.cellsE = x.cells := by
  simp only [View.cellsE, View.cells, vlist8 false, vlist8 (0 : Int), List.cons_append, List.nil_append, List.append_nil]
end Go.Proofs.YtpfkhlfkcmgdlaaDoor
