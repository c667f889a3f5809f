/- actuators.rounds as the evaluator runs it, with its loop's sum. -/
import Derived.Test.YthdjobnjehmjmaaDoorRndB
set_option linter.unusedSimpArgs false
set_option linter.unusedVariables false
namespace Go.Proofs.YthdjobnjehmjmaaDoor
open Go.RowKit

def rndS (a h : Int) : LSum := ⟨[0, 1, 5, 7, 8], [], mkFr 24 (rndF a h h.toNat), [(22, rndB a h.toNat)], 2000, .exit 0⟩
def rdsR (P : Program) (a h : Int) : Option VF := viewF [22] (fCallF (E1 P) (fC (E1 P) 300) 64 [i64 a, i64 h] 10 10000000000000000000000000000000000000000 (stA [] [] [some (rndS a h)]))
theorem rds_run (a h : Int) : rdsR Tryd.prog a h =
    some (AV.c (AC.sl 22 0 0 (Int.toNat h) none), [some (ABlk.mk true true 2 1 (Cs.arr (Int.toNat h) fun k => List.map AC.v ((fun i => [Value.int IntKind.i64 (a + Int.ofNat i)]) k)))], 2002, [], [LoopV Tryd.prog (loopAt Tryd.prog 64 0) [0, 1, 5, 7, 8] [] [some (AV.c (AC.v (Value.int IntKind.i64 a))), some (AV.c (AC.v (Value.int IntKind.i64 h))), some (AV.c (AC.v (Value.slice none 0 0))), some (AV.c (AC.v (Value.int IntKind.i64 h))), some (AV.c (AC.v (Value.int IntKind.i64 (Int.ofNat 0))))] [] 24 14 (mkFr 24 (rndF a h (Int.toNat h))) [(22, rndB a (Int.toNat h))] 2000 (Exit.exit 0) none]) := by kernel_rfl
end Go.Proofs.YthdjobnjehmjmaaDoor
