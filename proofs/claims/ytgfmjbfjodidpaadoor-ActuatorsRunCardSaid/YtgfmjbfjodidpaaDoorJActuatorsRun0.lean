/- Parts, one behind the other. slices.Index, slices.Contains of int64s as the evaluator runs them. Printed by wip/gen_anb.py. -/
import Derived.Test.YtgfmjbfjodidpaaDoorJB0x10
import Derived.Test.YtgfmjbfjodidpaaDoorJB0x9
set_option linter.unusedSimpArgs false
set_option linter.unusedVariables false
/- slices.Index, slices.Contains of int64s as the evaluator runs them. Printed by wip/gen_anb.py. -/
section
namespace Go.Proofs.YtgfmjbfjodidpaaDoor
open Go.RowKit

abbrev ixlV (v : Int) (n k : Nat) : List AV := [.c (.sl 0 0 0 n none), i64 v, i64 (Int.ofNat n), i64 (Int.ofNat k)]
def ixlR (P : Program) (f : Nat → Int) (n : Nat) (v : Int) (k : Nat) (path : List Dec) : Option VC :=
  view ([0, 1, 7, 8] ++ [4]) [0] (fC (E1 P) 100 (loopAt P 124 0) 1000000000000000000000000000000000000000000 10000000000000000000000000000000000000000 (stH 19 [0, 1, 7, 8] [0] (ixlV v n k) [ints 2 n f] path []))
theorem ixl (f : Nat → Int) (n : Nat) (v : Int) (k : Nat) (Q : VC → Prop) (H : (((decide (Int.ofNat k < Int.ofNat n)) = true → (((v == f (0 + Int.toNat (Int.ofNat k))) = true → Q (Exit.ret, [some (lkA (List.zip [0, 1, 7, 8] (ixlV v n k)) 0), some (lkA (List.zip [0, 1, 7, 8] (ixlV v n k)) (0 + 1)), some (lkA (List.zip [0, 1, 7, 8] (ixlV v n k)) (0 + 1 + 1 + 1 + 1 + 1 + 1 + 1)), some (lkA (List.zip [0, 1, 7, 8] (ixlV v n k)) (0 + 1 + 1 + 1 + 1 + 1 + 1 + 1 + 1)), some (.c (.v (.int .i64 (Int.ofNat k))))], [some (ABlk.mk false false 2 1 (Cs.arr n fun k => List.map AC.v ((fun i => [Value.int .i64 (f i)]) k)))], 19, 1000000000000000000000000000000000000000011, [(v == f (0 + Int.toNat (Int.ofNat k))) == true, ABlk.inb (ABlk.mk false false 2 1 (Cs.arr n fun k => List.map AC.v ((fun i => [Value.int .i64 (f i)]) k))) (0 + Int.toNat (Int.ofNat k)) 1, true, decide (Int.ofNat 0 ≤ Int.ofNat k ∧ Int.ofNat k < ↑n), decide (Int.ofNat k < Int.ofNat n) == true], [])) ∧ ((v == f (0 + Int.toNat (Int.ofNat k))) = false → Q (Exit.normal, [some (lkA (List.zip [0, 1, 7, 8] (ixlV v n k)) 0), some (lkA (List.zip [0, 1, 7, 8] (ixlV v n k)) (0 + 1)), some (lkA (List.zip [0, 1, 7, 8] (ixlV v n k)) (0 + 1 + 1 + 1 + 1 + 1 + 1 + 1)), some (.c (.v (.int .i64 (IntKind.wrap .i64 (Int.ofNat k + Int.ofNat 1))))), some (lkA (List.zip [0, 1, 7, 8] (ixlV v n k)) (0 + 1 + 1 + 1 + 1))], [some (ABlk.mk false false 2 1 (Cs.arr n fun k => List.map AC.v ((fun i => [Value.int .i64 (f i)]) k)))], 19, 1000000000000000000000000000000000000000011, [(v == f (0 + Int.toNat (Int.ofNat k))) == false, ABlk.inb (ABlk.mk false false 2 1 (Cs.arr n fun k => List.map AC.v ((fun i => [Value.int .i64 (f i)]) k))) (0 + Int.toNat (Int.ofNat k)) 1, true, decide (Int.ofNat 0 ≤ Int.ofNat k ∧ Int.ofNat k < ↑n), decide (Int.ofNat k < Int.ofNat n) == true], [])))) ∧ ((decide (Int.ofNat k < Int.ofNat n)) = false → Q (Exit.exit 0, [some (lkA (List.zip [0, 1, 7, 8] (ixlV v n k)) 0), some (lkA (List.zip [0, 1, 7, 8] (ixlV v n k)) (0 + 1)), some (lkA (List.zip [0, 1, 7, 8] (ixlV v n k)) (0 + 1 + 1 + 1 + 1 + 1 + 1 + 1)), some (lkA (List.zip [0, 1, 7, 8] (ixlV v n k)) (0 + 1 + 1 + 1 + 1 + 1 + 1 + 1 + 1)), some (lkA (List.zip [0, 1, 7, 8] (ixlV v n k)) (0 + 1 + 1 + 1 + 1))], [some (ABlk.mk false false 2 1 (Cs.arr n fun k => List.map AC.v ((fun i => [Value.int .i64 (f i)]) k)))], 19, 1000000000000000000000000000000000000000001, [decide (Int.ofNat k < Int.ofNat n) == false], [])))) :
    ∃ p r, ixlR Tryd.prog f n v k p = some r ∧ Q r := by
  rcases Bool.eq_false_or_eq_true (decide (Int.ofNat k < Int.ofNat n)) with h2 | h2
  · have g2 := H.1 h2
    rcases Bool.eq_false_or_eq_true (v == f (0 + Int.toNat (Int.ofNat k))) with h4 | h4
    · have g4 := g2.1 h4
      exact ⟨([.b true, .b true] : List Dec), _, by kernel_rfl, g4⟩
    · have g4 := g2.2 h4
      exact ⟨([.b true, .b false] : List Dec), _, by kernel_rfl, g4⟩
  · have g2 := H.2 h2
    exact ⟨([.b false] : List Dec), _, by kernel_rfl, g2⟩
def ixlS (e : Exit) (l : List (Nat × AV)) : LSum := ⟨[0, 1, 7, 8], [0], mkFr 19 l, [], 100000000000000000000000000000000000000000000000000, e⟩
def containsL1 (P : Program) (f : Nat → Int) (n : Nat) (v : Int) (e : Exit) (l : List (Nat × AV)) : Option VF :=
  viewF [] (fCallF (E1 P) (fC (E1 P) 300) 83 [.c (.sl 0 0 0 n none), i64 v] 1000 10000000000000000000000000000000000000000 (stA [(0, ints 2 n f)] [] [some (ixlS e l)]))
theorem containsL_yes (f : Nat → Int) (n : Nat) (v : Int) (j : Nat) : containsL1 Tryd.prog f n v .ret [(4, i64 (Int.ofNat j))] =
    some (.c (.v (.bool true)), [], 100000000000000000000000000000000000000000000000002, [], [LoopV Tryd.prog (loopAt Tryd.prog 124 0) [0, 1, 7, 8] [0] [some (.c (.sl 0 0 0 n none)), some (.c (.v (.int .i64 v))), some (.c (.v (.int .i64 ↑n))), some (.c (.v (.int .i64 (Int.ofNat 0))))] [some (ABlk.mk false false 2 1 (Cs.arr n fun k => List.map AC.v ((fun i => [Value.int .i64 (f i)]) k)))] 19 1007 (mkFr 19 [(4, i64 (Int.ofNat j))]) [] 100000000000000000000000000000000000000000000000000 Exit.ret none]) := by kernel_rfl
theorem containsL_no (f : Nat → Int) (n : Nat) (v : Int) : containsL1 Tryd.prog f n v (.exit 0) [] =
    some (.c (.v (.bool false)), [], 100000000000000000000000000000000000000000000000003, [], [LoopV Tryd.prog (loopAt Tryd.prog 124 0) [0, 1, 7, 8] [0] [some (.c (.sl 0 0 0 n none)), some (.c (.v (.int .i64 v))), some (.c (.v (.int .i64 ↑n))), some (.c (.v (.int .i64 (Int.ofNat 0))))] [some (ABlk.mk false false 2 1 (Cs.arr n fun k => List.map AC.v ((fun i => [Value.int .i64 (f i)]) k)))] 19 1007 (mkFr 19 []) [] 100000000000000000000000000000000000000000000000000 (Exit.exit 0) none]) := by kernel_rfl
end Go.Proofs.YtgfmjbfjodidpaaDoor
end
