/- Parts, one behind the other. More of Go's small structs as structures: their cells, how they are opened. Printed by wip/gen_more.py. -/
import Derived.Test.YthekiiagacnhkaaDoorJB0x2
set_option linter.unusedSimpArgs false
set_option linter.unusedVariables false
/- More of Go's small structs as structures: their cells, how they are opened. Printed by wip/gen_more.py. -/
section
namespace Go.Proofs.YthekiiagacnhkaaDoor
open Go.RowKit

/-! ### HAct: sennit/sennitlaw19.Act -/
/-! ### CTime: sennit/clocks.Time -/
/-! ### Entry: sennit/hosts.Entry -/
/-! ### Station: sennit/api.Station -/
/-! ### Step: sennit/sennitlaw06.Step -/
theorem vlist8 {α β : Type} (d : α) (f : α → β) (v : Vector α 8) : v.toList.map f = [f (vat d v 0), f (vat d v 1), f (vat d v 2), f (vat d v 3), f (vat d v 4), f (vat d v 5), f (vat d v 6), f (vat d v 7)] := by
  apply List.ext_getElem?
  intro i
  match i with
  | 0 => rw [vat_get d f v _ (by omega)]; rfl
  | 1 => rw [vat_get d f v _ (by omega)]; rfl
  | 2 => rw [vat_get d f v _ (by omega)]; rfl
  | 3 => rw [vat_get d f v _ (by omega)]; rfl
  | 4 => rw [vat_get d f v _ (by omega)]; rfl
  | 5 => rw [vat_get d f v _ (by omega)]; rfl
  | 6 => rw [vat_get d f v _ (by omega)]; rfl
  | 7 => rw [vat_get d f v _ (by omega)]; rfl
  | i + 8 => simp
/-- the cells of a view, each one by itself -/
def View.cellsE (x : View) : List Value := [.bool (vat false x.inn 0), .bool (vat false x.inn 1), .bool (vat false x.inn 2), .bool (vat false x.inn 3), .bool (vat false x.inn 4), .bool (vat false x.inn 5), .bool (vat false x.inn 6), .bool (vat false x.inn 7), .int .u8 (vat 0 x.miss 0), .int .u8 (vat 0 x.miss 1), .int .u8 (vat 0 x.miss 2), .int .u8 (vat 0 x.miss 3), .int .u8 (vat 0 x.miss 4), .int .u8 (vat 0 x.miss 5), .int .u8 (vat 0 x.miss 6), .int .u8 (vat 0 x.miss 7), .int .u8 (vat 0 x.good 0), .int .u8 (vat 0 x.good 1), .int .u8 (vat 0 x.good 2), .int .u8 (vat 0 x.good 3), .int .u8 (vat 0 x.good 4), .int .u8 (vat 0 x.good 5), .int .u8 (vat 0 x.good 6), .int .u8 (vat 0 x.good 7), .int .u16 (vat 0 x.score 0), .int .u16 (vat 0 x.score 1), .int .u16 (vat 0 x.score 2), .int .u16 (vat 0 x.score 3), .int .u16 (vat 0 x.score 4), .int .u16 (vat 0 x.score 5), .int .u16 (vat 0 x.score 6), .int .u16 (vat 0 x.score 7), .bool (vat false x.got 0), .bool (vat false x.got 1), .bool (vat false x.got 2), .bool (vat false x.got 3), .bool (vat false x.got 4), .bool (vat false x.got 5), .bool (vat false x.got 6), .bool (vat false x.got 7), .int .i8 x.command, .int .u8 x.mode]
theorem View.cellsE_eq (x : View) : x.cellsE = x.cells := by
  simp only [View.cellsE, View.cells, vlist8 false, vlist8 (0 : Int), List.cons_append, List.nil_append, List.append_nil]
end Go.Proofs.YthekiiagacnhkaaDoor
end
/- What came in, opened: slices of flat things, flat structs and arrays. No Go text is in sight. -/
section
namespace Go.Proofs.YthekiiagacnhkaaDoor
open Go.RowKit Go.WideShapes Go.ChangeShapes

section
variable {H : Type} {enc : TypeId × Value → H} {P : Program} {w : World}
/-- an array or struct of flat things -/
theorem open_raw {t : TypeId} {r : Reach} {b0 m : Nat} {v : Value} {d : DataW H} {p : List MemPlace} {ks : List (Option IntKind)} (hs : (aggSize P t).isSome = true) (hk : flatOf P m t = some ks) (hv : Value.okWide P w r b0 t v) (h : DataW.Trod enc P w 0 (fun _ => true) true t v d p) :
    ∃ cs : List Value, Flat ks cs ∧ v = .agg cs.toArray := by
  obtain ⟨cs, rfl⟩ : ∃ cs, v = .agg cs := by
    simp only [Value.okWide] at hv
    unfold aggSize at hs
    split at hv
    · obtain ⟨cs, rfl, _⟩ := hv; exact ⟨cs, rfl⟩
    · obtain ⟨cs, rfl, _⟩ := hv; exact ⟨cs, rfl⟩
    · split at hs <;> simp_all
  obtain ⟨fuel, hf⟩ := h
  exact ⟨cs.toList, trod_flat _ _ _ _ _ _ hk hf, by simp⟩
end
end Go.Proofs.YthekiiagacnhkaaDoor
end
