/- slices.Index as the evaluator runs it, with its loop's sum. -/
import Derived.Test.YthdjobnjehmjmaaDoorIdxB
set_option linter.unusedSimpArgs false
set_option linter.unusedVariables false
namespace Go.Proofs.YthdjobnjehmjmaaDoor
open Go.RowKit

theorem ix_yes (v : Int) (f : Nat → Int) (n j : Nat) : ixR Tryd.prog v f n .ret [(4, i64 (Int.ofNat j))] =
    some (AV.c (AC.v (Value.int IntKind.i64 (Int.ofNat j))), [], 2000, [], [LoopV Tryd.prog (loopAt Tryd.prog 98 0) [0, 1, 7, 8] [0] [some (AV.c (AC.sl 0 0 0 n none)), some (AV.c (AC.v (Value.int IntKind.i64 v))), some (AV.c (AC.v (Value.int IntKind.i64 ↑n))), some (AV.c (AC.v (Value.int IntKind.i64 (Int.ofNat 0))))] [some (ABlk.mk false false 2 1 (Cs.arr n fun k => List.map AC.v ((fun i => [Value.int IntKind.i64 (f i)]) k)))] 19 14 (mkFr 19 [(4, i64 (Int.ofNat j))]) [] 2000 Exit.ret none]) := by kernel_rfl
theorem ix_no (v : Int) (f : Nat → Int) (n : Nat) : ixR Tryd.prog v f n (.exit 0) [] =
    some (AV.c (AC.v (Value.int IntKind.i64 (Int.negSucc 0))), [], 2001, [], [LoopV Tryd.prog (loopAt Tryd.prog 98 0) [0, 1, 7, 8] [0] [some (AV.c (AC.sl 0 0 0 n none)), some (AV.c (AC.v (Value.int IntKind.i64 v))), some (AV.c (AC.v (Value.int IntKind.i64 ↑n))), some (AV.c (AC.v (Value.int IntKind.i64 (Int.ofNat 0))))] [some (ABlk.mk false false 2 1 (Cs.arr n fun k => List.map AC.v ((fun i => [Value.int IntKind.i64 (f i)]) k)))] 19 14 (mkFr 19 []) [] 2000 (Exit.exit 0) none]) := by kernel_rfl
end Go.Proofs.YthdjobnjehmjmaaDoor
