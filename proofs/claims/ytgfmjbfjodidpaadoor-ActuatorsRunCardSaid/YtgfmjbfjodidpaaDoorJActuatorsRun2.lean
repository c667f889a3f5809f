/- Parts, one behind the other. actuators.station, rounds; slices.Index of int64s; as the evaluator runs them. -/
import Derived.Test.YtgfmjbfjodidpaaDoorJB0x14
import Derived.Test.YtgfmjbfjodidpaaDoorJB0x10
import Derived.Test.YtgfmjbfjodidpaaDoorJActuatorsRun0
import Derived.Test.YtgfmjbfjodidpaaDoorJActuatorsRun1
set_option linter.unusedSimpArgs false
set_option linter.unusedVariables false
/- actuators.station, rounds; slices.Index of int64s; as the evaluator runs them. -/
section
namespace Go.Proofs.YtgfmjbfjodidpaaDoor
open Go.RowKit

def ENst (P : Program) : Env := ⟨P, [(119, ctClnSt)]⟩
theorem hENst : EnvOk (ENst Tryd.prog) := by
  refine envOk (fun f g h => ?_) (by kernel_rfl) (by kernel_rfl)
  simp only [ENst, List.mem_cons, Prod.mk.injEq, List.not_mem_nil, or_false] at h
  obtain ⟨rfl, rfl⟩ := h
  exact ct_clnSt
theorem anSt (c : Cfg) (nq : Nat) (fq : Nat → Int) (z : Int) (Q : VF → Prop) (H : (((decide (z < Int.ofNat 0)) = true → Q (.tup [.agg [.v (.int .i64 (Int.ofNat 0)), .v (.int .u32 (Int.ofNat 0)), .v (.int .i64 (Int.ofNat 0))], .c (.v (.bool false))], [], 1137, [true, true, true, true, true, decide (z < Int.ofNat 0) == true, true, true, true, true, true, true, true, true, true, true, true, true, true, true, true, true, true, true, true, true, true, decide (Int.ofNat 0 ≤ Int.ofNat 0 ∧ Int.ofNat 0 ≤ Option.getD (some ↑(c.nt)) ↑(c.nt) ∧ Option.getD (some ↑(c.nt)) ↑(c.nt) ≤ slC none (c.nt) (some ↑(c.nt))), true, decide (slC none (c.nt) (some ↑(c.nt)) ≤ ↑(Option.getD none (c.nt))), true, slRow none (ABlk.mk true true 47 3 (Cs.arr (c.nt) fun k => List.map AC.v ((fun i => [Value.int .i64 (Station.node (stOf (eltZ (ABlk.mk false false 47 3 (Cs.arr (c.nt) fun k => List.map AC.v ((fun i => [Value.int .i64 (Station.node (c.ft i)), Value.int .u32 (Station.safe (c.ft i)), Value.int .i64 (Station.hold (c.ft i))]) k))) 0 0 3) i)), Value.int .u32 (Station.safe (stOf (eltZ (ABlk.mk false false 47 3 (Cs.arr (c.nt) fun k => List.map AC.v ((fun i => [Value.int .i64 (Station.node (c.ft i)), Value.int .u32 (Station.safe (c.ft i)), Value.int .i64 (Station.hold (c.ft i))]) k))) 0 0 3) i)), Value.int .i64 (Station.hold (stOf (eltZ (ABlk.mk false false 47 3 (Cs.arr (c.nt) fun k => List.map AC.v ((fun i => [Value.int .i64 (Station.node (c.ft i)), Value.int .u32 (Station.safe (c.ft i)), Value.int .i64 (Station.hold (c.ft i))]) k))) 0 0 3) i))]) k))) 0 (c.nt), decide (0 + c.nt ≤ c.nt), decide (c.nt ≤ 1000000), stsOk (c.nt) fun k => List.map AC.v ((fun i => [Value.int .i64 (Station.node (c.ft i)), Value.int .u32 (Station.safe (c.ft i)), Value.int .i64 (Station.hold (c.ft i))]) k), true, true, decide (Int.ofNat 0 ≤ Int.ofNat 0 ∧ Int.ofNat 0 ≤ Option.getD (some ↑(0 + c.nb)) ↑(0 + c.nb) ∧ Option.getD (some ↑(0 + c.nb)) ↑(0 + c.nb) ≤ slC none (0 + c.nb) (some ↑(0 + c.nb))), true, decide (slC none (0 + c.nb) (some ↑(0 + c.nb)) ≤ ↑(Option.getD none (0 + c.nb))), true, slRow none (ABlk.mk true true 3 1 (Cs.arr (0 + c.nb) fun i => if i < 0 then [] else elt (ABlk.mk false false 3 1 (Cs.arr (c.nb) fun k => List.map AC.v ((fun i => [Value.int .i64 (c.fb i)]) k))) 0 0 1 (i - 0))) 0 (0 + c.nb), decide (0 + c.nb ≤ c.nb), true, true, decide ((0 + c.nb) * 8 ≤ 140737488355328), ABlk.inb (ABlk.mk false false 3 1 (Cs.arr (c.nb) fun k => List.map AC.v ((fun i => [Value.int .i64 (c.fb i)]) k))) 0 1, true, true, true, true, decide (Int.ofNat 0 ≤ Int.ofNat 0 ∧ Int.ofNat 0 ≤ Option.getD (some ↑(0 + c.ns)) ↑(0 + c.ns) ∧ Option.getD (some ↑(0 + c.ns)) ↑(0 + c.ns) ≤ slC none (0 + c.ns) (some ↑(0 + c.ns))), true, decide (slC none (0 + c.ns) (some ↑(0 + c.ns)) ≤ ↑(Option.getD none (0 + c.ns))), true, slRow none (ABlk.mk true true 3 1 (Cs.arr (0 + c.ns) fun i => if i < 0 then [] else elt (ABlk.mk false false 3 1 (Cs.arr (c.ns) fun k => List.map AC.v ((fun i => [Value.int .i64 (c.fs i)]) k))) 0 0 1 (i - 0))) 0 (0 + c.ns), decide (0 + c.ns ≤ c.ns), true, true, decide ((0 + c.ns) * 8 ≤ 140737488355328), ABlk.inb (ABlk.mk false false 3 1 (Cs.arr (c.ns) fun k => List.map AC.v ((fun i => [Value.int .i64 (c.fs i)]) k))) 0 1, true, true, true, true, decide (Int.ofNat 0 ≤ Int.ofNat 0 ∧ Int.ofNat 0 ≤ Option.getD (some ↑(0 + c.np)) ↑(0 + c.np) ∧ Option.getD (some ↑(0 + c.np)) ↑(0 + c.np) ≤ slC none (0 + c.np) (some ↑(0 + c.np))), true, decide (slC none (0 + c.np) (some ↑(0 + c.np)) ≤ ↑(Option.getD none (0 + c.np))), true, slRow none (ABlk.mk true true 3 1 (Cs.arr (0 + c.np) fun i => if i < 0 then [] else elt (ABlk.mk false false 3 1 (Cs.arr (c.np) fun k => List.map AC.v ((fun i => [Value.int .i64 (c.fp i)]) k))) 0 0 1 (i - 0))) 0 (0 + c.np), decide (0 + c.np ≤ c.np), true, true, decide ((0 + c.np) * 8 ≤ 140737488355328), ABlk.inb (ABlk.mk false false 3 1 (Cs.arr (c.np) fun k => List.map AC.v ((fun i => [Value.int .i64 (c.fp i)]) k))) 0 1, true, true, true, true, true, true, true, true, true, (!decide (↑nq > Int.ofNat 0)) == false, true], [])) ∧ ((decide (z < Int.ofNat 0)) = false → (((decide (z ≥ ↑(Int.toNat (Option.getD (some ↑(c.nt)) ↑(c.nt) - Int.ofNat 0)))) = true → Q (.tup [.agg [.v (.int .i64 (Int.ofNat 0)), .v (.int .u32 (Int.ofNat 0)), .v (.int .i64 (Int.ofNat 0))], .c (.v (.bool false))], [], 1141, [true, true, true, true, true, decide (z ≥ ↑(Int.toNat (Option.getD (some ↑(c.nt)) ↑(c.nt) - Int.ofNat 0))) == true, decide (z < Int.ofNat 0) == false, true, true, true, true, true, true, true, true, true, true, true, true, true, true, true, true, true, true, true, true, true, decide (Int.ofNat 0 ≤ Int.ofNat 0 ∧ Int.ofNat 0 ≤ Option.getD (some ↑(c.nt)) ↑(c.nt) ∧ Option.getD (some ↑(c.nt)) ↑(c.nt) ≤ slC none (c.nt) (some ↑(c.nt))), true, decide (slC none (c.nt) (some ↑(c.nt)) ≤ ↑(Option.getD none (c.nt))), true, slRow none (ABlk.mk true true 47 3 (Cs.arr (c.nt) fun k => List.map AC.v ((fun i => [Value.int .i64 (Station.node (stOf (eltZ (ABlk.mk false false 47 3 (Cs.arr (c.nt) fun k => List.map AC.v ((fun i => [Value.int .i64 (Station.node (c.ft i)), Value.int .u32 (Station.safe (c.ft i)), Value.int .i64 (Station.hold (c.ft i))]) k))) 0 0 3) i)), Value.int .u32 (Station.safe (stOf (eltZ (ABlk.mk false false 47 3 (Cs.arr (c.nt) fun k => List.map AC.v ((fun i => [Value.int .i64 (Station.node (c.ft i)), Value.int .u32 (Station.safe (c.ft i)), Value.int .i64 (Station.hold (c.ft i))]) k))) 0 0 3) i)), Value.int .i64 (Station.hold (stOf (eltZ (ABlk.mk false false 47 3 (Cs.arr (c.nt) fun k => List.map AC.v ((fun i => [Value.int .i64 (Station.node (c.ft i)), Value.int .u32 (Station.safe (c.ft i)), Value.int .i64 (Station.hold (c.ft i))]) k))) 0 0 3) i))]) k))) 0 (c.nt), decide (0 + c.nt ≤ c.nt), decide (c.nt ≤ 1000000), stsOk (c.nt) fun k => List.map AC.v ((fun i => [Value.int .i64 (Station.node (c.ft i)), Value.int .u32 (Station.safe (c.ft i)), Value.int .i64 (Station.hold (c.ft i))]) k), true, true, decide (Int.ofNat 0 ≤ Int.ofNat 0 ∧ Int.ofNat 0 ≤ Option.getD (some ↑(0 + c.nb)) ↑(0 + c.nb) ∧ Option.getD (some ↑(0 + c.nb)) ↑(0 + c.nb) ≤ slC none (0 + c.nb) (some ↑(0 + c.nb))), true, decide (slC none (0 + c.nb) (some ↑(0 + c.nb)) ≤ ↑(Option.getD none (0 + c.nb))), true, slRow none (ABlk.mk true true 3 1 (Cs.arr (0 + c.nb) fun i => if i < 0 then [] else elt (ABlk.mk false false 3 1 (Cs.arr (c.nb) fun k => List.map AC.v ((fun i => [Value.int .i64 (c.fb i)]) k))) 0 0 1 (i - 0))) 0 (0 + c.nb), decide (0 + c.nb ≤ c.nb), true, true, decide ((0 + c.nb) * 8 ≤ 140737488355328), ABlk.inb (ABlk.mk false false 3 1 (Cs.arr (c.nb) fun k => List.map AC.v ((fun i => [Value.int .i64 (c.fb i)]) k))) 0 1, true, true, true, true, decide (Int.ofNat 0 ≤ Int.ofNat 0 ∧ Int.ofNat 0 ≤ Option.getD (some ↑(0 + c.ns)) ↑(0 + c.ns) ∧ Option.getD (some ↑(0 + c.ns)) ↑(0 + c.ns) ≤ slC none (0 + c.ns) (some ↑(0 + c.ns))), true, decide (slC none (0 + c.ns) (some ↑(0 + c.ns)) ≤ ↑(Option.getD none (0 + c.ns))), true, slRow none (ABlk.mk true true 3 1 (Cs.arr (0 + c.ns) fun i => if i < 0 then [] else elt (ABlk.mk false false 3 1 (Cs.arr (c.ns) fun k => List.map AC.v ((fun i => [Value.int .i64 (c.fs i)]) k))) 0 0 1 (i - 0))) 0 (0 + c.ns), decide (0 + c.ns ≤ c.ns), true, true, decide ((0 + c.ns) * 8 ≤ 140737488355328), ABlk.inb (ABlk.mk false false 3 1 (Cs.arr (c.ns) fun k => List.map AC.v ((fun i => [Value.int .i64 (c.fs i)]) k))) 0 1, true, true, true, true, decide (Int.ofNat 0 ≤ Int.ofNat 0 ∧ Int.ofNat 0 ≤ Option.getD (some ↑(0 + c.np)) ↑(0 + c.np) ∧ Option.getD (some ↑(0 + c.np)) ↑(0 + c.np) ≤ slC none (0 + c.np) (some ↑(0 + c.np))), true, decide (slC none (0 + c.np) (some ↑(0 + c.np)) ≤ ↑(Option.getD none (0 + c.np))), true, slRow none (ABlk.mk true true 3 1 (Cs.arr (0 + c.np) fun i => if i < 0 then [] else elt (ABlk.mk false false 3 1 (Cs.arr (c.np) fun k => List.map AC.v ((fun i => [Value.int .i64 (c.fp i)]) k))) 0 0 1 (i - 0))) 0 (0 + c.np), decide (0 + c.np ≤ c.np), true, true, decide ((0 + c.np) * 8 ≤ 140737488355328), ABlk.inb (ABlk.mk false false 3 1 (Cs.arr (c.np) fun k => List.map AC.v ((fun i => [Value.int .i64 (c.fp i)]) k))) 0 1, true, true, true, true, true, true, true, true, true, (!decide (↑nq > Int.ofNat 0)) == false, true], [])) ∧ ((decide (z ≥ ↑(Int.toNat (Option.getD (some ↑(c.nt)) ↑(c.nt) - Int.ofNat 0)))) = false → Q (.tup [.agg [.v (.int .i64 (Station.node (stOf (fun k => List.map AC.v ((fun i => [Value.int .i64 (Station.node (c.ft i)), Value.int .u32 (Station.safe (c.ft i)), Value.int .i64 (Station.hold (c.ft i))]) k)) (0 + Int.toNat z)))), .v (.int .u32 (Station.safe (stOf (fun k => List.map AC.v ((fun i => [Value.int .i64 (Station.node (c.ft i)), Value.int .u32 (Station.safe (c.ft i)), Value.int .i64 (Station.hold (c.ft i))]) k)) (0 + Int.toNat z)))), .v (.int .i64 (Station.hold (stOf (fun k => List.map AC.v ((fun i => [Value.int .i64 (Station.node (c.ft i)), Value.int .u32 (Station.safe (c.ft i)), Value.int .i64 (Station.hold (c.ft i))]) k)) (0 + Int.toNat z))))], .c (.v (.bool true))], [], 1144, [true, true, true, true, true, ABlk.inb (ABlk.mk true true 47 3 (Cs.arr (c.nt) fun k => List.map AC.v ((fun i => [Value.int .i64 (Station.node (stOf (eltZ (ABlk.mk false false 47 3 (Cs.arr (c.nt) fun k => List.map AC.v ((fun i => [Value.int .i64 (Station.node (c.ft i)), Value.int .u32 (Station.safe (c.ft i)), Value.int .i64 (Station.hold (c.ft i))]) k))) 0 0 3) i)), Value.int .u32 (Station.safe (stOf (eltZ (ABlk.mk false false 47 3 (Cs.arr (c.nt) fun k => List.map AC.v ((fun i => [Value.int .i64 (Station.node (c.ft i)), Value.int .u32 (Station.safe (c.ft i)), Value.int .i64 (Station.hold (c.ft i))]) k))) 0 0 3) i)), Value.int .i64 (Station.hold (stOf (eltZ (ABlk.mk false false 47 3 (Cs.arr (c.nt) fun k => List.map AC.v ((fun i => [Value.int .i64 (Station.node (c.ft i)), Value.int .u32 (Station.safe (c.ft i)), Value.int .i64 (Station.hold (c.ft i))]) k))) 0 0 3) i))]) k))) (0 + Int.toNat z) 3, true, true, true, decide (Int.ofNat 0 ≤ z ∧ z < ↑(Int.toNat (Option.getD (some ↑(c.nt)) ↑(c.nt) - Int.ofNat 0))), decide (z ≥ ↑(Int.toNat (Option.getD (some ↑(c.nt)) ↑(c.nt) - Int.ofNat 0))) == false, decide (z < Int.ofNat 0) == false, true, true, true, true, true, true, true, true, true, true, true, true, true, true, true, true, true, true, true, true, true, decide (Int.ofNat 0 ≤ Int.ofNat 0 ∧ Int.ofNat 0 ≤ Option.getD (some ↑(c.nt)) ↑(c.nt) ∧ Option.getD (some ↑(c.nt)) ↑(c.nt) ≤ slC none (c.nt) (some ↑(c.nt))), true, decide (slC none (c.nt) (some ↑(c.nt)) ≤ ↑(Option.getD none (c.nt))), true, slRow none (ABlk.mk true true 47 3 (Cs.arr (c.nt) fun k => List.map AC.v ((fun i => [Value.int .i64 (Station.node (stOf (eltZ (ABlk.mk false false 47 3 (Cs.arr (c.nt) fun k => List.map AC.v ((fun i => [Value.int .i64 (Station.node (c.ft i)), Value.int .u32 (Station.safe (c.ft i)), Value.int .i64 (Station.hold (c.ft i))]) k))) 0 0 3) i)), Value.int .u32 (Station.safe (stOf (eltZ (ABlk.mk false false 47 3 (Cs.arr (c.nt) fun k => List.map AC.v ((fun i => [Value.int .i64 (Station.node (c.ft i)), Value.int .u32 (Station.safe (c.ft i)), Value.int .i64 (Station.hold (c.ft i))]) k))) 0 0 3) i)), Value.int .i64 (Station.hold (stOf (eltZ (ABlk.mk false false 47 3 (Cs.arr (c.nt) fun k => List.map AC.v ((fun i => [Value.int .i64 (Station.node (c.ft i)), Value.int .u32 (Station.safe (c.ft i)), Value.int .i64 (Station.hold (c.ft i))]) k))) 0 0 3) i))]) k))) 0 (c.nt), decide (0 + c.nt ≤ c.nt), decide (c.nt ≤ 1000000), stsOk (c.nt) fun k => List.map AC.v ((fun i => [Value.int .i64 (Station.node (c.ft i)), Value.int .u32 (Station.safe (c.ft i)), Value.int .i64 (Station.hold (c.ft i))]) k), true, true, decide (Int.ofNat 0 ≤ Int.ofNat 0 ∧ Int.ofNat 0 ≤ Option.getD (some ↑(0 + c.nb)) ↑(0 + c.nb) ∧ Option.getD (some ↑(0 + c.nb)) ↑(0 + c.nb) ≤ slC none (0 + c.nb) (some ↑(0 + c.nb))), true, decide (slC none (0 + c.nb) (some ↑(0 + c.nb)) ≤ ↑(Option.getD none (0 + c.nb))), true, slRow none (ABlk.mk true true 3 1 (Cs.arr (0 + c.nb) fun i => if i < 0 then [] else elt (ABlk.mk false false 3 1 (Cs.arr (c.nb) fun k => List.map AC.v ((fun i => [Value.int .i64 (c.fb i)]) k))) 0 0 1 (i - 0))) 0 (0 + c.nb), decide (0 + c.nb ≤ c.nb), true, true, decide ((0 + c.nb) * 8 ≤ 140737488355328), ABlk.inb (ABlk.mk false false 3 1 (Cs.arr (c.nb) fun k => List.map AC.v ((fun i => [Value.int .i64 (c.fb i)]) k))) 0 1, true, true, true, true, decide (Int.ofNat 0 ≤ Int.ofNat 0 ∧ Int.ofNat 0 ≤ Option.getD (some ↑(0 + c.ns)) ↑(0 + c.ns) ∧ Option.getD (some ↑(0 + c.ns)) ↑(0 + c.ns) ≤ slC none (0 + c.ns) (some ↑(0 + c.ns))), true, decide (slC none (0 + c.ns) (some ↑(0 + c.ns)) ≤ ↑(Option.getD none (0 + c.ns))), true, slRow none (ABlk.mk true true 3 1 (Cs.arr (0 + c.ns) fun i => if i < 0 then [] else elt (ABlk.mk false false 3 1 (Cs.arr (c.ns) fun k => List.map AC.v ((fun i => [Value.int .i64 (c.fs i)]) k))) 0 0 1 (i - 0))) 0 (0 + c.ns), decide (0 + c.ns ≤ c.ns), true, true, decide ((0 + c.ns) * 8 ≤ 140737488355328), ABlk.inb (ABlk.mk false false 3 1 (Cs.arr (c.ns) fun k => List.map AC.v ((fun i => [Value.int .i64 (c.fs i)]) k))) 0 1, true, true, true, true, decide (Int.ofNat 0 ≤ Int.ofNat 0 ∧ Int.ofNat 0 ≤ Option.getD (some ↑(0 + c.np)) ↑(0 + c.np) ∧ Option.getD (some ↑(0 + c.np)) ↑(0 + c.np) ≤ slC none (0 + c.np) (some ↑(0 + c.np))), true, decide (slC none (0 + c.np) (some ↑(0 + c.np)) ≤ ↑(Option.getD none (0 + c.np))), true, slRow none (ABlk.mk true true 3 1 (Cs.arr (0 + c.np) fun i => if i < 0 then [] else elt (ABlk.mk false false 3 1 (Cs.arr (c.np) fun k => List.map AC.v ((fun i => [Value.int .i64 (c.fp i)]) k))) 0 0 1 (i - 0))) 0 (0 + c.np), decide (0 + c.np ≤ c.np), true, true, decide ((0 + c.np) * 8 ≤ 140737488355328), ABlk.inb (ABlk.mk false false 3 1 (Cs.arr (c.np) fun k => List.map AC.v ((fun i => [Value.int .i64 (c.fp i)]) k))) 0 1, true, true, true, true, true, true, true, true, true, (!decide (↑nq > Int.ofNat 0)) == false, true], [])))))) :
    ∃ p r, ntE (ENst Tryd.prog) 77 c nq fq [i64 z] p [] = some r ∧ Q r := by
  rcases Bool.eq_false_or_eq_true (decide (z < Int.ofNat 0)) with h2 | h2
  · have g2 := H.1 h2
    exact ⟨([.a, .a, .a, .a, .a, .a, .b false, .a, .a, .a, .a, .a, .a, .a, .b true, .a, .a, .a, .a] : List Dec), _, by kernel_rfl, g2⟩
  · have g2 := H.2 h2
    rcases Bool.eq_false_or_eq_true (decide (z ≥ ↑(Int.toNat (Option.getD (some ↑(c.nt)) ↑(c.nt) - Int.ofNat 0)))) with h4 | h4
    · have g4 := g2.1 h4
      exact ⟨([.a, .a, .a, .a, .a, .a, .b false, .a, .a, .a, .a, .a, .a, .a, .b false, .a, .a, .a, .b true] : List Dec), _, by kernel_rfl, g4⟩
    · have g4 := g2.2 h4
      exact ⟨([.a, .a, .a, .a, .a, .a, .b false, .a, .a, .a, .a, .a, .a, .a, .b false, .a, .a, .a, .b false] : List Dec), _, by kernel_rfl, g4⟩
abbrev i64sB (a : Int) (k : Nat) : ABlk := wBlk 2 1 k fun i => [.int .i64 (a + Int.ofNat i)]
abbrev roundF (a h : Int) (l k : Nat) : List (Nat × AV) := [(0, i64 a), (1, i64 h), (5, .c (.sl 2000 0 0 l none)), (7, i64 h), (8, i64 (Int.ofNat k))]
def roundR (P : Program) (a h : Int) (l k : Nat) (path : List Dec) : Option VC :=
  view [0, 1, 5, 7, 8] [2000, 1000000000000000000000000000000000000000013] (fC (E1 P) 100 (loopAt P 84 0) 1000000000000000000000000000000000000000000 10000000000000000000000000000000000000000 ⟨mkFr 24 (roundF a h l k), [(2000, i64sB a l)], 0, 0, false, path, [], [], [], none, []⟩)
theorem anRd (a h : Int) (l k : Nat) (Q : VC → Prop) (H : (((decide (Int.ofNat k < h)) = true → (((decide (IntKind.wrap .i64 (a + Int.ofNat k) ≥ a)) = true → Q (Exit.normal, [some (lkA (roundF a h l k) 0), some (lkA (roundF a h l k) (0 + 1)), some (.c (.sl 1000000000000000000000000000000000000000013 0 0 (l + 1) none)), some (lkA (roundF a h l k) (0 + 1 + 1 + 1 + 1 + 1 + 1 + 1)), some (.c (.v (.int .i64 (IntKind.wrap .i64 (Int.ofNat k + Int.ofNat 1)))))], [none, some (ABlk.mk true true 2 1 (Cs.arr (l + 1) fun i => if i < l then List.map AC.v ((fun i => [Value.int .i64 (a + Int.ofNat i)]) i) else elt (ABlk.mk true false 2 0 (Cs.lit [.v (.int .i64 (IntKind.wrap .i64 (a + Int.ofNat k)))])) 0 0 1 (i - l)))], 24, 1000000000000000000000000000000000000000017, [true, true, decide (l ≤ l), decide ((l + 1) * 8 ≤ 140737488355328), decide (IntKind.wrap .i64 (a + Int.ofNat k) ≥ a) == true, decide (Int.ofNat k < h) == true], [])) ∧ ((decide (IntKind.wrap .i64 (a + Int.ofNat k) ≥ a)) = false → Q (Exit.normal, [some (lkA (roundF a h l k) 0), some (lkA (roundF a h l k) (0 + 1)), some (lkA (roundF a h l k) (0 + 1 + 1 + 1 + 1 + 1)), some (lkA (roundF a h l k) (0 + 1 + 1 + 1 + 1 + 1 + 1 + 1)), some (.c (.v (.int .i64 (IntKind.wrap .i64 (Int.ofNat k + Int.ofNat 1)))))], [some (ABlk.mk true true 2 1 (Cs.arr l fun k => List.map AC.v ((fun i => [Value.int .i64 (a + Int.ofNat i)]) k))), none], 24, 1000000000000000000000000000000000000000010, [decide (IntKind.wrap .i64 (a + Int.ofNat k) ≥ a) == false, decide (Int.ofNat k < h) == true], [])))) ∧ ((decide (Int.ofNat k < h)) = false → Q (Exit.exit 0, [some (lkA (roundF a h l k) 0), some (lkA (roundF a h l k) (0 + 1)), some (lkA (roundF a h l k) (0 + 1 + 1 + 1 + 1 + 1)), some (lkA (roundF a h l k) (0 + 1 + 1 + 1 + 1 + 1 + 1 + 1)), some (lkA (roundF a h l k) (0 + 1 + 1 + 1 + 1 + 1 + 1 + 1 + 1))], [some (ABlk.mk true true 2 1 (Cs.arr l fun k => List.map AC.v ((fun i => [Value.int .i64 (a + Int.ofNat i)]) k))), none], 24, 1000000000000000000000000000000000000000001, [decide (Int.ofNat k < h) == false], [])))) :
    ∃ p r, roundR Tryd.prog a h l k p = some r ∧ Q r := by
  rcases Bool.eq_false_or_eq_true (decide (Int.ofNat k < h)) with h2 | h2
  · have g2 := H.1 h2
    rcases Bool.eq_false_or_eq_true (decide (IntKind.wrap .i64 (a + Int.ofNat k) ≥ a)) with h4 | h4
    · have g4 := g2.1 h4
      exact ⟨([.b true, .b true] : List Dec), _, by kernel_rfl, g4⟩
    · have g4 := g2.2 h4
      exact ⟨([.b true, .b false] : List Dec), _, by kernel_rfl, g4⟩
  · have g2 := H.2 h2
    exact ⟨([.b false] : List Dec), _, by kernel_rfl, g2⟩
end Go.Proofs.YtgfmjbfjodidpaaDoor
end
/- slices.Contains of int64s: contract; the loop of actuators.rounds: its sum. Printed by wip/gen_anb.py. -/
section
namespace Go.Proofs.YtgfmjbfjodidpaaDoor
open Go.RowKit

theorem ixl_ob (f : Nat → Int) (n : Nat) (v : Int) (N : Nat) (hN : 1 ≤ N) (hN2 : N ≤ 1000000000000000000000000000000000000000000) (hn : n ≤ 1000000) (j : Nat) (hj : j ≤ n) (hmin : ∀ i, i < j → f i ≠ v) (hyes : j < n → f j = v) {e : Exit} {out : List (Nat × AV)}
    (hF : (j < n → e = .ret ∧ out = [(4, i64 (Int.ofNat j))]) ∧ (j = n → e = .exit 0 ∧ out = [])) :
    LoopV Tryd.prog (loopAt Tryd.prog 124 0) [0, 1, 7, 8] [0] ((ixlV v n 0).map some) ([ints 2 n f].map some) 19 N (mkFr 19 out) [] 100000000000000000000000000000000000000000000000000 e none := by
  have e0 : ∀ k : Nat, 0 + Int.toNat (Int.ofNat k) = k := fun k => by simp
  have hw : ∀ k, k < n → IntKind.wrap IntKind.i64 (Int.ofNat k + Int.ofNat 1) = Int.ofNat (k + 1) := fun k hk => by rw [wrap_nat _ (by simp; omega) (by simp; omega)]; rfl
  refine scan_ob hE1 (fuel := 100) (str := 10000000000000000000000000000000000000000) (nh := 1000000000000000000000000000000000000000000) [0, 1, 7, 8] [4] [0] (ixlV v n) [ints 2 n f] j hN2 (by decide) (by unfold lim; omega) ?_ (fun _ => ⟨rfl, rfl⟩) ?_ ?_ ?_ ?_ ?_
  · rcases Nat.lt_or_ge j n with h | h
    · rw [(hF.1 h).1]; simp
    · rw [(hF.2 (by omega)).1]; simp
  · simp [keptB]; omega
  · intro k _
    simp [okV, lowV, lowC, notAny, i64]; omega
  · intro b hb
    rw [List.mem_singleton.1 hb]
    exact ints_low
  · intro k hk
    have hm := hmin k hk
    refine ixl f n v k _ ⟨fun c1 => ⟨fun c2 => ?_, fun c2 => ?_⟩, fun c1 => ?_⟩ <;> simp only [e0] at *
    · simp at c2; exact absurd c2.symm hm
    · have hlt : k < n := by omega
      simp at c2
      refine ⟨⟨?_, rfl, by dsimp only; omega, rfl⟩, rfl, ?_, BL.refl _⟩
      · simp only [allT, List.forall_mem_cons, e0]
        simp [inb_arr, hlt, c2]
      · dsimp only; rw [hw k hlt]; rfl
    · simp at c1; omega
  · refine ixl f n v j _ ⟨fun c1 => ⟨fun c2 => ?_, fun c2 => ?_⟩, fun c1 => ?_⟩ <;> simp only [e0] at *
    · have hlt : j < n := by simpa using c1
      obtain ⟨rfl, rfl⟩ := hF.1 hlt
      refine EndV_one ⟨?_, rfl, by dsimp only; omega, rfl⟩ rfl rfl ?_
      · simp only [allT, List.forall_mem_cons, e0]
        simp at c2
        simp [inb_arr, hlt, c2]
      · simp [i64]
    · have hlt : j < n := by simpa using c1
      simp at c2
      exact absurd (hyes hlt).symm c2
    · have hlt : ¬ j < n := by simpa using c1
      obtain ⟨rfl, rfl⟩ := hF.2 (by omega)
      refine EndV_nil ⟨?_, rfl, by dsimp only; omega, rfl⟩ rfl
      simp [allT]; omega
theorem containsL_run (f : Nat → Int) (n : Nat) (v : Int) (hn : n ≤ 1000000) : ∃ p lp r, viewF [] (fCallF (E1 Tryd.prog) (fC (E1 Tryd.prog) 300) 83 (.c (.sl 0 0 0 n none) :: [i64 v]) 1000 10000000000000000000000000000000000000000 (stA [(0, ints 2 n f)] p lp)) = some r ∧
    r.1 = bo (hasF f n v) ∧ r.2.2.1 ≤ lim ∧ allT r.2.2.2.1 ∧ ∀ q ∈ r.2.2.2.2, q := by
  obtain ⟨j, hj, hmin, hyes⟩ := first_stop n fun i => f i == v
  have hmin' : ∀ i, i < j → f i ≠ v := fun i hi => by simpa using hmin i hi
  rcases Nat.lt_or_ge j n with h | h
  · have hy : f j = v := by simpa using hyes h
    refine ⟨_, _, _, containsL_yes f n v j, ?_, by dsimp only; unfold lim; omega, by simp [allT], fun q hq => ?_⟩
    · have : hasF f n v = true := List.any_eq_true.2 ⟨j, by simpa using h, by simp [hy]⟩
      simp [bo, this]
    · rw [List.mem_singleton.1 hq]
      exact ixl_ob f n v _ (by omega) (by omega) hn j hj hmin' (fun _ => hy) ⟨fun _ => ⟨rfl, rfl⟩, fun h => by omega⟩
  · obtain rfl : j = n := by omega
    refine ⟨_, _, _, containsL_no f j v, ?_, by dsimp only; unfold lim; omega, by simp [allT], fun q hq => ?_⟩
    · have : hasF f j v = false := List.any_eq_false.2 fun i hi => by have := hmin' i (by simpa using hi); simpa using this
      simp [bo, this]
    · rw [List.mem_singleton.1 hq]
      exact ixl_ob f j v _ (by omega) (by omega) hn j hj hmin' (fun h => by omega) ⟨fun h => by omega, fun _ => ⟨rfl, rfl⟩⟩
def ctContainsL : CtF
  | [.c a, .c (.v (.int .i64 v))], m, _ => match slOf 1 m a with | some (n, F, b) => some (bo (hasF (fA F) n v), [], 0, [b, decide (n ≤ 1000000), intsOk n F]) | none => none
  | _, _, _ => none
theorem ct_containsL : CtOk Tryd.prog 83 ctContainsL := by
  refine ⟨⟨_, _, Tryd.func83, rfl⟩, fun C β m m2 w args ib r news k' ob vs hct ho hs hr hfree hlim hv => ?_⟩
  unfold ctContainsL at hct
  split at hct
  · rename_i a v
    split at hct
    · rename_i n F b hsl
      simp only [Option.some.injEq, Prod.mk.injEq] at hct
      obtain ⟨rfl, rfl, rfl, rfl⟩ := hct
      simp only [allT, List.forall_mem_cons, decide_eq_true_eq] at ho
      obtain ⟨rfl, o2, o3, _⟩ := ho
      exact pure1 hE1 hs hr hsl o3 hv (γt_valsI [.int .i64 v] rfl) (fun _ _ _ h => h) 2 (containsL_run (fA F) n v o2)
    · cases hct
  · cases hct
/-- how many rounds are told: as far as there are numbers -/
def lenR (a : Int) (k : Nat) : Nat := min k (9223372036854775808 - a).toNat
theorem wrap_over (x : Int) (h0 : 9223372036854775808 ≤ x) (h1 : x ≤ 18446744073709551615) : IntKind.wrap IntKind.i64 x = x - 18446744073709551616 := by
  simp only [IntKind.wrap, IntKind.bits, IntKind.signed]
  first | omega | (simp; omega)
theorem round_sum (a h : Int) (n : Nat) (hn : 14 ≤ n) (hn2 : n ≤ 2000) (h0 : 0 ≤ h) (h1 : h ≤ 1000000) (a0 : -9223372036854775808 ≤ a) (a1 : a ≤ 9223372036854775807) :
    LoopV Tryd.prog (loopAt Tryd.prog 84 0) [0, 1, 5, 7, 8] [] [some (i64 a), some (i64 h), some (.c (.v (.slice none 0 0))), some (i64 h), some (i64 0)] [] 24 n
      (mkFr 24 [(5, .c (.sl 2000 0 0 (lenR a h.toNat) none))]) [(2000, i64sB a (lenR a h.toNat))] 100000000000000000000000000000000000000000000000000 (.exit 0) none := by
  refine loop_ob hE1 (fuel := 100) (S := Nat) (inv := fun k => k ≤ h.toNat) (μ := fun k => h.toNat - k) (tmI := fun k => mkFr 24 (roundF a h (lenR a k) k)) (mI := fun k => [(2000, i64sB a (lenR a k))]) (nh := 1000000000000000000000000000000000000000000) (str := 10000000000000000000000000000000000000000) (by omega) (by omega) (fun _ h => by cases h) (s0 := 0) (by omega) ?_ ?_
  · intro tm m g1 g2 g3
    simp only [List.map_cons, List.map_nil, List.cons.injEq, and_true] at g1
    obtain ⟨s0, s1, s5, s7, s8⟩ := g1
    have e0 : lenR a 0 = 0 := by simp [lenR]
    simp only [e0]
    refine wk_mk (ρ := fun _ => .inr 1) (by omega) (by omega) (by unfold lim; omega) g3 ?_ ?_ ?_
    · simp [rnOk]
    · exact ⟨.inr (.inr (.inl ⟨by omega, by omega, rfl, Nat.one_pos, _, rfl⟩)), trivial⟩
    · exact ⟨⟨_, s0, by simp [i64], GW_i64 rfl⟩, ⟨_, s1, by simp [i64], GW_i64 rfl⟩, ⟨_, s5, by simp, GW_nil (by omega) (by omega) (by omega) rfl⟩, ⟨_, s7, by simp [i64], GW_i64 rfl⟩, ⟨_, s8, by simp [i64], GW_i64 rfl⟩, trivial⟩
  · intro k hk
    have hk1 : IntKind.wrap IntKind.i64 (Int.ofNat k + Int.ofNat 1) = Int.ofNat (k + 1) := by rw [wrap_nat _ (by simp; omega) (by simp; omega)]; rfl
    refine (?_ : (∃ p r, roundR Tryd.prog a h (lenR a k) k p = some r ∧ _) → _) (anRd a h (lenR a k) k (fun r => allT r.2.2.2.2.2.1 ∧ r.2.2.2.2.2.2 = [] ∧ r.2.2.2.2.1 ≤ 100000000000000000000000000000000000000000000000000 ∧
      ∀ st' : St, [0, 1, 5, 7, 8].map (fun t => st'.tm[t]?) = r.2.1 → [2000, 1000000000000000000000000000000000000000013].map (look st'.m) = r.2.2.1 → st'.tm.length = r.2.2.2.1 →
        ((r.1 = .normal ∧ ∃ s', s' ≤ h.toNat ∧ h.toNat - s' < h.toNat - k ∧ Wk n 1000000000000000000000000000000000000000000 100000000000000000000000000000000000000000000000000 st'.tm st'.m (mkFr 24 (roundF a h (lenR a s') s')) [(2000, i64sB a (lenR a s'))]) ∨
          (r.1 ≠ .normal ∧ r.1 = .exit 0 ∧ Wk n 100000000000000000000000000000000000000000000000000 100000000000000000000000000000000000000000000000000 st'.tm st'.m (mkFr 24 [(5, .c (.sl 2000 0 0 (lenR a h.toNat) none))]) [(2000, i64sB a (lenR a h.toNat))]))) ⟨fun c1 => ⟨fun c2 => ?_, fun c2 => ?_⟩, fun c1 => ?_⟩)
    · rintro ⟨p, ⟨e, l, b, len, n1, ob, po⟩, hv, hob, hpo, hn1, hw⟩
      obtain ⟨st, v1, v2, v3, v4, v6, v7, v8⟩ := view_out hv
      exact ⟨p, [], e, n1, st, v1, hn1, ⟨by rw [v6]; exact hob, by rw [v7]; have hpo : po = [] := hpo; rw [hpo]; simp⟩, v8, hw st v2 v3 v4⟩
    · have hlt : (k : Int) < h := by simpa using c1
      have hin : a + k ≤ 9223372036854775807 := by
        rcases (show a + k ≤ 9223372036854775807 ∨ 9223372036854775808 ≤ a + k by omega) with h | h
        · exact h
        · exfalso
          have := wrap_over (a + Int.ofNat k) (by simp; omega) (by simp; omega)
          rw [this] at c2
          simp at c2
          omega
      have hw : IntKind.wrap .i64 (a + Int.ofNat k) = a + Int.ofNat k := wrap_nat _ (by simp; omega) (by simp; omega)
      have e1 : lenR a k = k := by unfold lenR; omega
      have e2 : lenR a (k + 1) = k + 1 := by unfold lenR; omega
      refine ⟨?_, rfl, by dsimp only; omega, fun st' v2 v3 v4 => .inl ⟨rfl, k + 1, by omega, by omega, ?_⟩⟩
      · simp only [allT, List.forall_mem_cons, hw]
        simp only [Int.ofNat_eq_natCast]
        simp [hlt]
        omega
      · rw [e2]
        rw [e1] at v2 v3
        simp only [List.map_cons, List.map_nil, List.cons.injEq, and_true] at v2 v3
        obtain ⟨s0, s1, s5, s7, s8⟩ := v2
        obtain ⟨b22, b1013⟩ := v3
        refine wk_mk (ρ := fun _ => .inl 1000000000000000000000000000000000000000013) (by omega) (by omega) (by unfold lim; omega) v4 ?_ ?_ ?_
        · simp [rnOk]
        · exact ⟨.inr (.inl ⟨by omega, by omega, 1000000000000000000000000000000000000000013, _, rfl, b1013, BEq_snoc (f := fun i => [.int .i64 (a + Int.ofNat i)]) (g := fun i => [.int .i64 (a + Int.ofNat i)]) (l := [.int .i64 (IntKind.wrap IntKind.i64 (a + Int.ofNat k))]) rfl (fun _ _ => rfl) (by simp only [hw]), wBlk_low⟩), trivial⟩
        · exact ⟨⟨_, s0, by simp [i64, lkA], GW_i64 rfl⟩, ⟨_, s1, by simp [i64, lkA], GW_i64 rfl⟩, ⟨_, s5, by simp, GW_sl (by omega) (by omega) (by omega) rfl⟩, ⟨_, s7, by simp [i64, lkA], GW_i64 rfl⟩, ⟨_, s8, by simp, GW_i64 (by rw [hk1])⟩, trivial⟩
    · have hlt : (k : Int) < h := by simpa using c1
      have hout : 9223372036854775808 ≤ a + k := by
        rcases (show a + k ≤ 9223372036854775807 ∨ 9223372036854775808 ≤ a + k by omega) with h | h
        · exfalso
          rw [wrap_nat _ (by simp; omega) (by simp; omega)] at c2
          simp at c2
          omega
        · exact h
      have e2 : lenR a (k + 1) = lenR a k := by unfold lenR; omega
      refine ⟨?_, rfl, by dsimp only; omega, fun st' v2 v3 v4 => .inl ⟨rfl, k + 1, by omega, by omega, ?_⟩⟩
      · have hwo : IntKind.wrap IntKind.i64 (a + (k : Int)) = a + k - 18446744073709551616 := wrap_over _ (by omega) (by omega)
        simp [allT, hwo]
        omega
      · rw [e2]
        simp only [List.map_cons, List.map_nil, List.cons.injEq, and_true] at v2 v3
        obtain ⟨s0, s1, s5, s7, s8⟩ := v2
        obtain ⟨b22, b1013⟩ := v3
        refine wk_mk (ρ := fun _ => .inl 2000) (by omega) (by omega) (by unfold lim; omega) v4 ?_ ?_ ?_
        · simp [rnOk]
        · exact ⟨.inr (.inl ⟨by omega, by omega, 2000, _, rfl, b22, ⟨rfl, rfl, rfl, rfl, .inr (.inl ⟨_, _, _, rfl, rfl, fun _ _ => rfl⟩)⟩, wBlk_low⟩), trivial⟩
        · exact ⟨⟨_, s0, by simp [i64, lkA], GW_i64 rfl⟩, ⟨_, s1, by simp [i64, lkA], GW_i64 rfl⟩, ⟨_, s5, by simp [lkA], GW_sl (by omega) (by omega) (by omega) rfl⟩, ⟨_, s7, by simp [i64, lkA], GW_i64 rfl⟩, ⟨_, s8, by simp, GW_i64 (by rw [hk1])⟩, trivial⟩
    · have hlt : ¬ (k : Int) < h := by simpa using c1
      obtain rfl : k = h.toNat := by omega
      refine ⟨?_, rfl, by dsimp only; omega, fun st' v2 v3 v4 => .inr ⟨by simp, rfl, ?_⟩⟩
      · simp [allT]; omega
      · simp only [List.map_cons, List.map_nil, List.cons.injEq, and_true] at v2 v3
        obtain ⟨s0, s1, s5, s7, s8⟩ := v2
        obtain ⟨b22, b1013⟩ := v3
        refine wk_mk (ρ := fun _ => .inl 2000) (by omega) (by omega) (by unfold lim; omega) v4 ?_ ?_ ?_
        · simp [rnOk]
        · exact ⟨.inr (.inl ⟨by omega, by omega, 2000, _, rfl, b22, ⟨rfl, rfl, rfl, rfl, .inr (.inl ⟨_, _, _, rfl, rfl, fun _ _ => rfl⟩)⟩, wBlk_low⟩), trivial⟩
        · exact ⟨⟨_, s5, by simp [lkA], GW_sl (by omega) (by omega) (by omega) rfl⟩, trivial⟩
end Go.Proofs.YtgfmjbfjodidpaaDoor
end
/- actuators.rounds as the evaluator runs it. -/
section
namespace Go.Proofs.YtgfmjbfjodidpaaDoor
open Go.RowKit

def roundS (a h : Int) : LSum := ⟨[0, 1, 5, 7, 8], [], mkFr 24 [(5, .c (.sl 2000 0 0 (lenR a h.toNat) none))], [(2000, i64sB a (lenR a h.toNat))], 100000000000000000000000000000000000000000000000000, .exit 0⟩
def rdsL (P : Program) (a h : Int) : Option VF := viewF [2000] (fCallF (E1 P) (fC (E1 P) 300) 84 [i64 a, i64 h] 10 10000000000000000000000000000000000000000 (stA [] [] [some (roundS a h)]))
theorem rdsL_run (a h : Int) : rdsL Tryd.prog a h =
    some (.c (.sl 2000 0 0 (lenR a (Int.toNat h)) none), [some (ABlk.mk true true 2 1 (Cs.arr (lenR a (Int.toNat h)) fun k => List.map AC.v ((fun i => [Value.int .i64 (a + Int.ofNat i)]) k)))], 100000000000000000000000000000000000000000000000002, [], [LoopV Tryd.prog (loopAt Tryd.prog 84 0) [0, 1, 5, 7, 8] [] [some (.c (.v (.int .i64 a))), some (.c (.v (.int .i64 h))), some (.c (AC.v (Value.slice none 0 0))), some (.c (.v (.int .i64 h))), some (.c (.v (.int .i64 (Int.ofNat 0))))] [] 24 14 (mkFr 24 [(5, .c (.sl 2000 0 0 (lenR a (Int.toNat h)) none))]) [(2000, i64sB a (lenR a (Int.toNat h)))] 100000000000000000000000000000000000000000000000000 (Exit.exit 0) none]) := by kernel_rfl
end Go.Proofs.YtgfmjbfjodidpaaDoor
end
/- Contracts of clocks.Of, clocks.Age. -/
section
namespace Go.Proofs.YtgfmjbfjodidpaaDoor
open Go.RowKit

abbrev ckM : Int := 1099511627776
def ckIn (a : Int) : Prop := 0 ≤ a ∧ a ≤ ckM
instance (a : Int) : Decidable (ckIn a) := by unfold ckIn; infer_instance
/-- the age of a time -/
def agOk (c : Cfg) (x y z : Int) : Prop := 0 ≤ x ∧ x ≤ ckM ∧ 0 ≤ y ∧ y < c.ns ∧ 0 ≤ z ∧ z < c.long ∧ x * (c.ns * c.long) + y * c.long + z ≤ ckM
instance (c : Cfg) (x y z : Int) : Decidable (agOk c x y z) := by unfold agOk; infer_instance
end Go.Proofs.YtgfmjbfjodidpaaDoor
end
/- modes.in: its loop's round as the evaluator runs it. -/
section
namespace Go.Proofs.YtgfmjbfjodidpaaDoor
open Go.RowKit

def ctFirst : CtF := ctNet (fun c nq fq zs => i64 (headN c nq fq (zs.headD 0))) fun c nq fq zs => true && decide (zs.length = 1)
def ENf (P : Program) : Env := ⟨P, [(37, ctFirst)]⟩
/-- has a net such a pair? is it in? -/
def hasB (c : Cfg) (nq : Nat) (fq : Nat → Int) (p : Nat) : Bool := decide (0 ≤ headN c nq fq (Int.ofNat p))
def inB (c : Cfg) (nq : Nat) (fq : Nat → Int) (v : Vw) (p : Nat) : Bool := hasB c nq fq p && v.inn p
abbrev vwB (v : Vw) : ABlk := ⟨true, false, 32, 0, .lit (v.cells.map .v)⟩
abbrev netY0 (c : Cfg) (nq : Nat) : ABlk := ⟨false, false, 130, 0, .lit (netC0 c nq)⟩
abbrev netIds : List Nat := [gid 0, 0, 1, 2, 3, 4, 5]
abbrev netBk (c : Cfg) (nq : Nat) (fq : Nat → Int) : List ABlk := [signB, ints 3 c.np c.fp, ints 3 c.ns c.fs, ints 3 c.nb c.fb, sts c.nt c.ft, ints 3 nq fq, netY0 c nq]
abbrev mdV (c : Cfg) (nq : Nat) (fq : Nat → Int) (v : Vw) (k : Nat) : List AV := [.c (.ptr 5 0 0), .c (.ptr 1000 0 0), i64 (Int.ofNat (cntF (inB c nq fq v) k)), i64 (Int.ofNat (cntF (hasB c nq fq) k)), i64 (Int.ofNat k)]
def mdR (P : Program) (c : Cfg) (nq : Nat) (fq : Nat → Int) (v : Vw) (k : Nat) (path : List Dec) : Option VC :=
  view ([0, 3, 4, 5, 7] ++ []) (netIds ++ [1000]) (fC (ENf P) 100 (loopAt P 69 0) 1000000000000000000000000000000000000000000 10000000000000000000000000000000000000000 (stH 25 [0, 3, 4, 5, 7] (netIds ++ [1000]) (mdV c nq fq v k) (netBk c nq fq ++ [vwB v]) path []))
theorem md (c : Cfg) (nq : Nat) (fq : Nat → Int) (v : Vw) (k : Nat) (Q : VC → Prop) (H : (((decide (Int.ofNat k < Int.ofNat 8)) = true → (((decide (headN c nq fq (List.headD [Int.ofNat k] (Int.ofNat 0)) < Int.ofNat 0)) = true → Q (Exit.normal, [some (lkA (List.zip [0, 3, 4, 5, 7] (mdV c nq fq v k)) 0), some (lkA (List.zip [0, 3, 4, 5, 7] (mdV c nq fq v k)) (0 + 1 + 1 + 1)), some (lkA (List.zip [0, 3, 4, 5, 7] (mdV c nq fq v k)) (0 + 1 + 1 + 1 + 1)), some (lkA (List.zip [0, 3, 4, 5, 7] (mdV c nq fq v k)) (0 + 1 + 1 + 1 + 1 + 1)), some (.c (.v (.int .i64 (IntKind.wrap .i64 (Int.ofNat k + Int.ofNat 1)))))], [some (ABlk.mk false false 107 0 (Cs.lit [.v (.int .i64 (Int.ofNat 1)), .v (.int .i64 (Int.negSucc 0))])), some (ABlk.mk false false 3 1 (Cs.arr (c.np) fun k => List.map AC.v ((fun i => [Value.int .i64 (c.fp i)]) k))), some (ABlk.mk false false 3 1 (Cs.arr (c.ns) fun k => List.map AC.v ((fun i => [Value.int .i64 (c.fs i)]) k))), some (ABlk.mk false false 3 1 (Cs.arr (c.nb) fun k => List.map AC.v ((fun i => [Value.int .i64 (c.fb i)]) k))), some (ABlk.mk false false 47 3 (Cs.arr (c.nt) fun k => List.map AC.v ((fun i => [Value.int .i64 (Station.node (c.ft i)), Value.int .u32 (Station.safe (c.ft i)), Value.int .i64 (Station.hold (c.ft i))]) k))), some (ABlk.mk false false 3 1 (Cs.arr nq fun k => List.map AC.v ((fun i => [Value.int .i64 (fq i)]) k))), some (ABlk.mk false false 130 0 (Cs.lit [.v (.int .i64 (c.nodes)), AC.sl 0 0 0 (c.np) none, AC.sl 1 0 0 (c.ns) none, .v (.int .i64 (c.long)), AC.sl 2 0 0 (c.nb) none, AC.sl 3 0 0 (c.nt) none, .v (.int .i64 (c.miss)), .v (.int .i64 (c.good)), .v (.int .i64 (c.fresh)), AC.sl 4 0 0 nq none])), some (ABlk.mk true false 32 0 (Cs.lit (vwL v)))], 25, 1000000000000000000000000000000000000000008, [decide (headN c nq fq (List.headD [Int.ofNat k] (Int.ofNat 0)) < Int.ofNat 0) == true, netK c nq fq, true, decide (Int.ofNat k < Int.ofNat 8) == true], [])) ∧ ((decide (headN c nq fq (List.headD [Int.ofNat k] (Int.ofNat 0)) < Int.ofNat 0)) = false → (((asB (List.getD (vwL v) (0 + Int.toNat (Int.ofNat k) * 1) nov)) = true → Q (Exit.normal, [some (lkA (List.zip [0, 3, 4, 5, 7] (mdV c nq fq v k)) 0), some (lkA (List.zip [0, 3, 4, 5, 7] (mdV c nq fq v k)) (0 + 1 + 1 + 1)), some (.c (.v (.int .i64 (IntKind.wrap .i64 (Int.ofNat (cntF (inB c nq fq v) k) + Int.ofNat 1))))), some (.c (.v (.int .i64 (IntKind.wrap .i64 (Int.ofNat (cntF (hasB c nq fq) k) + Int.ofNat 1))))), some (.c (.v (.int .i64 (IntKind.wrap .i64 (Int.ofNat k + Int.ofNat 1)))))], [some (ABlk.mk false false 107 0 (Cs.lit [.v (.int .i64 (Int.ofNat 1)), .v (.int .i64 (Int.negSucc 0))])), some (ABlk.mk false false 3 1 (Cs.arr (c.np) fun k => List.map AC.v ((fun i => [Value.int .i64 (c.fp i)]) k))), some (ABlk.mk false false 3 1 (Cs.arr (c.ns) fun k => List.map AC.v ((fun i => [Value.int .i64 (c.fs i)]) k))), some (ABlk.mk false false 3 1 (Cs.arr (c.nb) fun k => List.map AC.v ((fun i => [Value.int .i64 (c.fb i)]) k))), some (ABlk.mk false false 47 3 (Cs.arr (c.nt) fun k => List.map AC.v ((fun i => [Value.int .i64 (Station.node (c.ft i)), Value.int .u32 (Station.safe (c.ft i)), Value.int .i64 (Station.hold (c.ft i))]) k))), some (ABlk.mk false false 3 1 (Cs.arr nq fun k => List.map AC.v ((fun i => [Value.int .i64 (fq i)]) k))), some (ABlk.mk false false 130 0 (Cs.lit [.v (.int .i64 (c.nodes)), AC.sl 0 0 0 (c.np) none, AC.sl 1 0 0 (c.ns) none, .v (.int .i64 (c.long)), AC.sl 2 0 0 (c.nb) none, AC.sl 3 0 0 (c.nt) none, .v (.int .i64 (c.miss)), .v (.int .i64 (c.good)), .v (.int .i64 (c.fresh)), AC.sl 4 0 0 nq none])), some (ABlk.mk true false 32 0 (Cs.lit (vwL v)))], 25, 1000000000000000000000000000000000000000018, [asB (List.getD (vwL v) (0 + Int.toNat (Int.ofNat k) * 1) nov) == true, ABlk.inb (ABlk.mk true false 32 0 (Cs.lit (vwL v))) 0 (0 + Int.toNat (Int.ofNat k) * 1 + 1), okl Kd.b (List.getD (vwL v) (0 + Int.toNat (Int.ofNat k) * 1) nov), decide (Int.ofNat 0 ≤ Int.ofNat k ∧ Int.ofNat k < Int.ofNat 8), decide (headN c nq fq (List.headD [Int.ofNat k] (Int.ofNat 0)) < Int.ofNat 0) == false, netK c nq fq, true, decide (Int.ofNat k < Int.ofNat 8) == true], [])) ∧ ((asB (List.getD (vwL v) (0 + Int.toNat (Int.ofNat k) * 1) nov)) = false → Q (Exit.normal, [some (lkA (List.zip [0, 3, 4, 5, 7] (mdV c nq fq v k)) 0), some (lkA (List.zip [0, 3, 4, 5, 7] (mdV c nq fq v k)) (0 + 1 + 1 + 1)), some (lkA (List.zip [0, 3, 4, 5, 7] (mdV c nq fq v k)) (0 + 1 + 1 + 1 + 1)), some (.c (.v (.int .i64 (IntKind.wrap .i64 (Int.ofNat (cntF (hasB c nq fq) k) + Int.ofNat 1))))), some (.c (.v (.int .i64 (IntKind.wrap .i64 (Int.ofNat k + Int.ofNat 1)))))], [some (ABlk.mk false false 107 0 (Cs.lit [.v (.int .i64 (Int.ofNat 1)), .v (.int .i64 (Int.negSucc 0))])), some (ABlk.mk false false 3 1 (Cs.arr (c.np) fun k => List.map AC.v ((fun i => [Value.int .i64 (c.fp i)]) k))), some (ABlk.mk false false 3 1 (Cs.arr (c.ns) fun k => List.map AC.v ((fun i => [Value.int .i64 (c.fs i)]) k))), some (ABlk.mk false false 3 1 (Cs.arr (c.nb) fun k => List.map AC.v ((fun i => [Value.int .i64 (c.fb i)]) k))), some (ABlk.mk false false 47 3 (Cs.arr (c.nt) fun k => List.map AC.v ((fun i => [Value.int .i64 (Station.node (c.ft i)), Value.int .u32 (Station.safe (c.ft i)), Value.int .i64 (Station.hold (c.ft i))]) k))), some (ABlk.mk false false 3 1 (Cs.arr nq fun k => List.map AC.v ((fun i => [Value.int .i64 (fq i)]) k))), some (ABlk.mk false false 130 0 (Cs.lit [.v (.int .i64 (c.nodes)), AC.sl 0 0 0 (c.np) none, AC.sl 1 0 0 (c.ns) none, .v (.int .i64 (c.long)), AC.sl 2 0 0 (c.nb) none, AC.sl 3 0 0 (c.nt) none, .v (.int .i64 (c.miss)), .v (.int .i64 (c.good)), .v (.int .i64 (c.fresh)), AC.sl 4 0 0 nq none])), some (ABlk.mk true false 32 0 (Cs.lit (vwL v)))], 25, 1000000000000000000000000000000000000000015, [asB (List.getD (vwL v) (0 + Int.toNat (Int.ofNat k) * 1) nov) == false, ABlk.inb (ABlk.mk true false 32 0 (Cs.lit (vwL v))) 0 (0 + Int.toNat (Int.ofNat k) * 1 + 1), okl Kd.b (List.getD (vwL v) (0 + Int.toNat (Int.ofNat k) * 1) nov), decide (Int.ofNat 0 ≤ Int.ofNat k ∧ Int.ofNat k < Int.ofNat 8), decide (headN c nq fq (List.headD [Int.ofNat k] (Int.ofNat 0)) < Int.ofNat 0) == false, netK c nq fq, true, decide (Int.ofNat k < Int.ofNat 8) == true], [])))))) ∧ ((decide (Int.ofNat k < Int.ofNat 8)) = false → Q (Exit.exit 0, [some (lkA (List.zip [0, 3, 4, 5, 7] (mdV c nq fq v k)) 0), some (lkA (List.zip [0, 3, 4, 5, 7] (mdV c nq fq v k)) (0 + 1 + 1 + 1)), some (lkA (List.zip [0, 3, 4, 5, 7] (mdV c nq fq v k)) (0 + 1 + 1 + 1 + 1)), some (lkA (List.zip [0, 3, 4, 5, 7] (mdV c nq fq v k)) (0 + 1 + 1 + 1 + 1 + 1)), some (lkA (List.zip [0, 3, 4, 5, 7] (mdV c nq fq v k)) (0 + 1 + 1 + 1 + 1 + 1 + 1 + 1))], [some (ABlk.mk false false 107 0 (Cs.lit [.v (.int .i64 (Int.ofNat 1)), .v (.int .i64 (Int.negSucc 0))])), some (ABlk.mk false false 3 1 (Cs.arr (c.np) fun k => List.map AC.v ((fun i => [Value.int .i64 (c.fp i)]) k))), some (ABlk.mk false false 3 1 (Cs.arr (c.ns) fun k => List.map AC.v ((fun i => [Value.int .i64 (c.fs i)]) k))), some (ABlk.mk false false 3 1 (Cs.arr (c.nb) fun k => List.map AC.v ((fun i => [Value.int .i64 (c.fb i)]) k))), some (ABlk.mk false false 47 3 (Cs.arr (c.nt) fun k => List.map AC.v ((fun i => [Value.int .i64 (Station.node (c.ft i)), Value.int .u32 (Station.safe (c.ft i)), Value.int .i64 (Station.hold (c.ft i))]) k))), some (ABlk.mk false false 3 1 (Cs.arr nq fun k => List.map AC.v ((fun i => [Value.int .i64 (fq i)]) k))), some (ABlk.mk false false 130 0 (Cs.lit [.v (.int .i64 (c.nodes)), AC.sl 0 0 0 (c.np) none, AC.sl 1 0 0 (c.ns) none, .v (.int .i64 (c.long)), AC.sl 2 0 0 (c.nb) none, AC.sl 3 0 0 (c.nt) none, .v (.int .i64 (c.miss)), .v (.int .i64 (c.good)), .v (.int .i64 (c.fresh)), AC.sl 4 0 0 nq none])), some (ABlk.mk true false 32 0 (Cs.lit (vwL v)))], 25, 1000000000000000000000000000000000000000001, [decide (Int.ofNat k < Int.ofNat 8) == false], [])))) :
    ∃ p r, mdR Tryd.prog c nq fq v k p = some r ∧ Q r := by
  rcases Bool.eq_false_or_eq_true (decide (Int.ofNat k < Int.ofNat 8)) with h2 | h2
  · have g2 := H.1 h2
    rcases Bool.eq_false_or_eq_true (decide (headN c nq fq (List.headD [Int.ofNat k] (Int.ofNat 0)) < Int.ofNat 0)) with h4 | h4
    · have g4 := g2.1 h4
      exact ⟨([.b true, .b true] : List Dec), _, by kernel_rfl, g4⟩
    · have g4 := g2.2 h4
      rcases Bool.eq_false_or_eq_true (asB (List.getD (vwL v) (0 + Int.toNat (Int.ofNat k) * 1) nov)) with h6 | h6
      · have g6 := g4.1 h6
        exact ⟨([.b true, .b false, .b true] : List Dec), _, by kernel_rfl, g6⟩
      · have g6 := g4.2 h6
        exact ⟨([.b true, .b false, .b false] : List Dec), _, by kernel_rfl, g6⟩
  · have g2 := H.2 h2
    exact ⟨([.b false] : List Dec), _, by kernel_rfl, g2⟩
end Go.Proofs.YtgfmjbfjodidpaaDoor
end
/- modes.in: how many pairs are in, of how many: its contract. -/
section
namespace Go.Proofs.YtgfmjbfjodidpaaDoor
open Go.RowKit

theorem wrap_nat1 (k : Nat) (h : k ≤ 1000000) : IntKind.wrap IntKind.i64 (Int.ofNat k + Int.ofNat 1) = Int.ofNat (k + 1) := by rw [wrap_nat _ (by simp; omega) (by simp; omega)]; simp
end Go.Proofs.YtgfmjbfjodidpaaDoor
end
/- clocks.Ahead, sennitref06: as the evaluator runs them. -/
section
namespace Go.Proofs.YtgfmjbfjodidpaaDoor
open Go.RowKit

/-- a function of a config and plain values -/
def cfE (E : Env) (f : FuncId) (c : Cfg) (r : List AV) (path : List Dec) (lp : List (Option LSum)) : Option VF := viewF [] (fCallF E (fC E 300) f (.agg (cfgC c) :: r) 1000 10000000000000000000000000000000000000000 (stA (cfgM c) path lp))
abbrev tmB (x y z : Int) : ABlk := ⟨true, false, 112, 0, .lit [.v (.int .i64 x), .v (.int .i64 y), .v (.int .i64 z)]⟩
abbrev roV (l : Int) : List AV := [.c (.ptr 1000 0 0), .c (.ptr 1001 0 0), .c (.ptr 1022 0 0), i64 l]
abbrev roB (c : Cfg) (t : Int) (k : Nat) : List ABlk := [cfgB c, tmB 0 0 0, tmB t (Int.ofNat k) 0]
def roR (P : Program) (c : Cfg) (t l : Int) (k : Nat) (path : List Dec) : Option VC :=
  view ([2, 4, 6, 7] ++ []) [1000, 1001, 1022] (fC (E1 P) 100 (loopAt P 56 0) 1000000000000000000000000000000000000000000 10000000000000000000000000000000000000000 (stH 42 [2, 4, 6, 7] [1000, 1001, 1022] (roV l) (roB c t k) path []))
theorem ro (c : Cfg) (t l : Int) (k : Nat) (Q : VC → Prop) (H : (((decide (l ≥ c.long)) = true → Q (Exit.normal, [some (lkA (List.zip [2, 4, 6, 7] (roV l)) (0 + 1 + 1)), some (lkA (List.zip [2, 4, 6, 7] (roV l)) (0 + 1 + 1 + 1 + 1)), some (lkA (List.zip [2, 4, 6, 7] (roV l)) (0 + 1 + 1 + 1 + 1 + 1 + 1)), some (.c (.v (.int .i64 (IntKind.wrap .i64 (l - c.long)))))], [some (ABlk.mk true false 25 0 (Cs.lit [.v (.int .i64 (c.nodes)), AC.sl 0 0 0 (c.np) none, AC.sl 1 0 0 (c.ns) none, .v (.int .i64 (c.long)), AC.sl 2 0 0 (c.nb) none, AC.sl 3 0 0 (c.nt) none, .v (.int .i64 (c.miss)), .v (.int .i64 (c.good)), .v (.int .i64 (c.fresh))])), some (ABlk.mk true false 112 0 (Cs.lit [.v (.int .i64 (Int.ofNat 0)), .v (.int .i64 (Int.ofNat 0)), .v (.int .i64 (Int.ofNat 0))])), some (ABlk.mk true false 112 0 (Cs.lit [.v (.int .i64 t), .v (.int .i64 (IntKind.wrap .i64 (Int.ofNat k + Int.ofNat 1))), .v (.int .i64 (Int.ofNat 0))]))], 42, 1000000000000000000000000000000000000000014, [true, true, true, true, true, decide (l ≥ c.long) == true, true, true], [])) ∧ ((decide (l ≥ c.long)) = false → Q (Exit.exit 0, [some (lkA (List.zip [2, 4, 6, 7] (roV l)) (0 + 1 + 1)), some (lkA (List.zip [2, 4, 6, 7] (roV l)) (0 + 1 + 1 + 1 + 1)), some (lkA (List.zip [2, 4, 6, 7] (roV l)) (0 + 1 + 1 + 1 + 1 + 1 + 1)), some (lkA (List.zip [2, 4, 6, 7] (roV l)) (0 + 1 + 1 + 1 + 1 + 1 + 1 + 1))], [some (ABlk.mk true false 25 0 (Cs.lit [.v (.int .i64 (c.nodes)), AC.sl 0 0 0 (c.np) none, AC.sl 1 0 0 (c.ns) none, .v (.int .i64 (c.long)), AC.sl 2 0 0 (c.nb) none, AC.sl 3 0 0 (c.nt) none, .v (.int .i64 (c.miss)), .v (.int .i64 (c.good)), .v (.int .i64 (c.fresh))])), some (ABlk.mk true false 112 0 (Cs.lit [.v (.int .i64 (Int.ofNat 0)), .v (.int .i64 (Int.ofNat 0)), .v (.int .i64 (Int.ofNat 0))])), some (ABlk.mk true false 112 0 (Cs.lit [.v (.int .i64 t), .v (.int .i64 (Int.ofNat k)), .v (.int .i64 (Int.ofNat 0))]))], 42, 1000000000000000000000000000000000000000004, [decide (l ≥ c.long) == false, true, true], [])))) :
    ∃ p r, roR Tryd.prog c t l k p = some r ∧ Q r := by
  rcases Bool.eq_false_or_eq_true (decide (l ≥ c.long)) with h2 | h2
  · have g2 := H.1 h2
    exact ⟨([.b true] : List Dec), _, by kernel_rfl, g2⟩
  · have g2 := H.2 h2
    exact ⟨([.b false] : List Dec), _, by kernel_rfl, g2⟩
end Go.Proofs.YtgfmjbfjodidpaaDoor
end
