/- Parts, one behind the other. A config that came in. -/
import Derived.Test.YtpgaplcdbbnblaaGreatDoorJCrewsVoid26
import Derived.Test.YtpgaplcdbbnblaaGreatDoorJCrewsVoid17
set_option linter.unusedSimpArgs false
set_option linter.unusedVariables false
/- A config that came in. -/
section
namespace Go.Proofs.YtpgaplcdbbnblaaGreatDoor
open Go.RowKit Go.WideShapes Go.ChangeShapes

def I64 (z : Int) : Prop := -9223372036854775808 ≤ z ∧ z ≤ 9223372036854775807
structure Cfg.Ok (c : Cfg) : Prop where
  nodes : I64 c.nodes
  long : I64 c.long
  miss : I64 c.miss
  good : I64 c.good
  fresh : I64 c.fresh
  np : c.np ≤ 9223372036854775807
  ns : c.ns ≤ 9223372036854775807
  nb : c.nb ≤ 9223372036854775807
  nt : c.nt ≤ 9223372036854775807
  fp : ∀ i, I64 (c.fp i)
  fs : ∀ i, I64 (c.fs i)
  fb : ∀ i, I64 (c.fb i)
  ft : ∀ i, (c.ft i).Ok
section
set_option maxRecDepth 100000
variable {H : Type} {enc : TypeId × Value → H} {w : World}
end
end Go.Proofs.YtpgaplcdbbnblaaGreatDoor
end
/- A tick of a crew that came in: a number, a slice. -/
section
namespace Go.Proofs.YtpgaplcdbbnblaaGreatDoor
open Go.RowKit Go.WideShapes Go.ChangeShapes

section
set_option maxRecDepth 100000
variable {H : Type} {enc : TypeId × Value → H} {w : World}
theorem open_tick {r : Go.Reach} {b0 : Nat} {v : Value} {d : DataW H} {p : List MemPlace} (hv : Value.okWide Tryz.prog w r b0 130 v) (h : DataW.Trod enc Tryz.prog w 0 (fun _ => true) true 130 v d p) :
    ∃ (z : Int) (A : Option Addr) (n c : Nat), v = .agg #[.int .i64 z, .slice A n c] := by
  simp only [Value.okWide, Tryz.underlying130] at hv
  obtain ⟨cs, rfl, hsz, ts, hts, _, hcell⟩ := hv
  have hts' : Tryz.prog.cellTypes Tryz.prog.depth 130 = some [2, 96] := by kernel_rfl
  rw [hts'] at hts
  cases hts
  obtain ⟨fuel, hf⟩ := h
  obtain ⟨xs, n, rfl, hx, hl, hxl, hfl⟩ := DataW.trod_struct Tryz.underlying130 hf
  have hl2 : cs.toList.length = 2 := by
    simp only [Value.cells] at hl
    rw [hl]; kernel_rfl
  obtain ⟨l, rfl⟩ : ∃ l : List Value, cs = l.toArray := ⟨cs.toList, by simp⟩
  simp only [Value.cells] at hfl hl2
  match l, hl2 with
  | [a0, a1], _ =>
    have c1 : Tryz.prog.cellsOf 2 = 1 := by kernel_rfl
    have hx2 : xs.length = 2 := hxl
    match xs, hx2 with
    | [x0, x1], _ =>
      have e0 := hfl 0 _ rfl
      simp only [c1, List.drop, List.take, List.getElem?_cons_zero, List.getElem?_cons_succ] at e0
      obtain ⟨z0, q0, _, w0⟩ := DataW.trod_int Tryz.underlying2 e0
      cases q0
      obtain ⟨u1, t1, k1⟩ := hcell 1 a1 rfl
      cases t1
      have hv' : Value.okWide Tryz.prog w r b0 96 a1 := by simp only [Value.okWide, Tryz.underlying96]; exact k1
      obtain ⟨A, len, cap, rfl⟩ := okWide_slice Tryz.underlying96 hv'
      exact ⟨_, A, len, cap, rfl⟩
end
end Go.Proofs.YtpgaplcdbbnblaaGreatDoor
end
