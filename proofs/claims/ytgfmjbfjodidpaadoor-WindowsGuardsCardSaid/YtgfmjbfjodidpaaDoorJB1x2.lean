/- Parts, one behind the other. sennitref03.Distance: its loop's round as the evaluator runs it; the function. -/
import Derived.Test.YtgfmjbfjodidpaaDoorJB1x0
import Derived.Test.YtgfmjbfjodidpaaDoorJB0x14
import Derived.Test.YtgfmjbfjodidpaaDoorJB1x1
set_option linter.unusedSimpArgs false
set_option linter.unusedVariables false
/- sennitref03.Distance: its loop's round as the evaluator runs it; the function. -/
section
namespace Go.Proofs.YtgfmjbfjodidpaaDoor
open Go.RowKit

abbrev rdV (n d b x : Int) (k : Nat) : List AV := [i64 n, u8A d, i64 x, i64 b, i64 (Int.ofNat k)]
def rdR (P : Program) (n d b x : Int) (k : Nat) (path : List Dec) : Option VC :=
  view ([0, 1, 2, 3, 9] ++ []) [] (fC (E1 P) 100 (loopAt P 127 0) 1000000000000000000000000000000000000000000 10000000000000000000000000000000000000000 (stH 42 [0, 1, 2, 3, 9] [] (rdV n d b x k) [] path []))
theorem rd3 (n d b x : Int) (k : Nat) (Q : VC → Prop) (H : (((x != b) = true → (((d == Int.ofNat 0) = true → (((x == IntKind.wrap .i64 (n - Int.ofNat 1)) = true → Q (Exit.normal, [some (lkA (List.zip [0, 1, 2, 3, 9] (rdV n d b x k)) 0), some (lkA (List.zip [0, 1, 2, 3, 9] (rdV n d b x k)) (0 + 1)), some (.c (.v (.int .i64 (Int.ofNat 0)))), some (lkA (List.zip [0, 1, 2, 3, 9] (rdV n d b x k)) (0 + 1 + 1 + 1)), some (.c (.v (.int .i64 (IntKind.wrap .i64 (Int.ofNat k + Int.ofNat 1)))))], [], 42, 1000000000000000000000000000000000000000018, [(x == IntKind.wrap .i64 (n - Int.ofNat 1)) == true, (d == Int.ofNat 0) == true, (x != b) == true], [])) ∧ ((x == IntKind.wrap .i64 (n - Int.ofNat 1)) = false → Q (Exit.normal, [some (lkA (List.zip [0, 1, 2, 3, 9] (rdV n d b x k)) 0), some (lkA (List.zip [0, 1, 2, 3, 9] (rdV n d b x k)) (0 + 1)), some (.c (.v (.int .i64 (IntKind.wrap .i64 (x + Int.ofNat 1))))), some (lkA (List.zip [0, 1, 2, 3, 9] (rdV n d b x k)) (0 + 1 + 1 + 1)), some (.c (.v (.int .i64 (IntKind.wrap .i64 (Int.ofNat k + Int.ofNat 1)))))], [], 42, 1000000000000000000000000000000000000000020, [(x == IntKind.wrap .i64 (n - Int.ofNat 1)) == false, (d == Int.ofNat 0) == true, (x != b) == true], [])))) ∧ ((d == Int.ofNat 0) = false → (((x == Int.ofNat 0) = true → Q (Exit.normal, [some (lkA (List.zip [0, 1, 2, 3, 9] (rdV n d b x k)) 0), some (lkA (List.zip [0, 1, 2, 3, 9] (rdV n d b x k)) (0 + 1)), some (.c (.v (.int .i64 (IntKind.wrap .i64 (n - Int.ofNat 1))))), some (lkA (List.zip [0, 1, 2, 3, 9] (rdV n d b x k)) (0 + 1 + 1 + 1)), some (.c (.v (.int .i64 (IntKind.wrap .i64 (Int.ofNat k + Int.ofNat 1)))))], [], 42, 1000000000000000000000000000000000000000018, [(x == Int.ofNat 0) == true, (d == Int.ofNat 0) == false, (x != b) == true], [])) ∧ ((x == Int.ofNat 0) = false → Q (Exit.normal, [some (lkA (List.zip [0, 1, 2, 3, 9] (rdV n d b x k)) 0), some (lkA (List.zip [0, 1, 2, 3, 9] (rdV n d b x k)) (0 + 1)), some (.c (.v (.int .i64 (IntKind.wrap .i64 (x - Int.ofNat 1))))), some (lkA (List.zip [0, 1, 2, 3, 9] (rdV n d b x k)) (0 + 1 + 1 + 1)), some (.c (.v (.int .i64 (IntKind.wrap .i64 (Int.ofNat k + Int.ofNat 1)))))], [], 42, 1000000000000000000000000000000000000000018, [(x == Int.ofNat 0) == false, (d == Int.ofNat 0) == false, (x != b) == true], [])))))) ∧ ((x != b) = false → Q (Exit.exit 0, [some (lkA (List.zip [0, 1, 2, 3, 9] (rdV n d b x k)) 0), some (lkA (List.zip [0, 1, 2, 3, 9] (rdV n d b x k)) (0 + 1)), some (lkA (List.zip [0, 1, 2, 3, 9] (rdV n d b x k)) (0 + 1 + 1)), some (lkA (List.zip [0, 1, 2, 3, 9] (rdV n d b x k)) (0 + 1 + 1 + 1)), some (lkA (List.zip [0, 1, 2, 3, 9] (rdV n d b x k)) (0 + 1 + 1 + 1 + 1 + 1 + 1 + 1 + 1 + 1))], [], 42, 1000000000000000000000000000000000000000003, [(x != b) == false], [])))) :
    ∃ p r, rdR Tryd.prog n d b x k p = some r ∧ Q r := by
  rcases Bool.eq_false_or_eq_true (x != b) with h2 | h2
  · have g2 := H.1 h2
    rcases Bool.eq_false_or_eq_true (d == Int.ofNat 0) with h4 | h4
    · have g4 := g2.1 h4
      rcases Bool.eq_false_or_eq_true (x == IntKind.wrap .i64 (n - Int.ofNat 1)) with h6 | h6
      · have g6 := g4.1 h6
        exact ⟨([.b true, .b true, .b true] : List Dec), _, by kernel_rfl, g6⟩
      · have g6 := g4.2 h6
        exact ⟨([.b true, .b true, .b false] : List Dec), _, by kernel_rfl, g6⟩
    · have g4 := g2.2 h4
      rcases Bool.eq_false_or_eq_true (x == Int.ofNat 0) with h6 | h6
      · have g6 := g4.1 h6
        exact ⟨([.b true, .b false, .b true] : List Dec), _, by kernel_rfl, g6⟩
      · have g6 := g4.2 h6
        exact ⟨([.b true, .b false, .b false] : List Dec), _, by kernel_rfl, g6⟩
  · have g2 := H.2 h2
    exact ⟨([.b false] : List Dec), _, by kernel_rfl, g2⟩
def rdF (P : Program) (n d a b : Int) (j : Nat) (path : List Dec) : Option VF := viewF [] (fCallF (E1 P) (fC (E1 P) 300) 127 [i64 n, u8A d, i64 a, i64 b] 1000 10000000000000000000000000000000000000000 (stA [] path [some ⟨[0, 1, 2, 3, 9], [], mkFr 42 [(9, i64 (Int.ofNat j))], [], 100000000000000000000000000000000000000000000000000, .exit 0⟩]))
theorem rd3F (n d a b : Int) (j : Nat) (Q : VF → Prop) (H : (((decide (n ≥ Int.ofNat 4)) = true → (((decide (n ≤ Int.ofNat 16)) = true → (((!decide (d < Int.ofNat 2)) = true → Q (.c (.v (.int .i64 (Int.negSucc 0))), [], 1025, [(!decide (d < Int.ofNat 2)) == true, decide (n ≤ Int.ofNat 16) == true, decide (n ≥ Int.ofNat 4) == true], [])) ∧ ((!decide (d < Int.ofNat 2)) = false → (((decide (a < Int.ofNat 0)) = true → Q (.c (.v (.int .i64 (Int.negSucc 0))), [], 1027, [decide (a < Int.ofNat 0) == true, (!decide (d < Int.ofNat 2)) == false, decide (n ≤ Int.ofNat 16) == true, decide (n ≥ Int.ofNat 4) == true], [])) ∧ ((decide (a < Int.ofNat 0)) = false → (((decide (a ≥ n)) = true → Q (.c (.v (.int .i64 (Int.negSucc 0))), [], 1030, [decide (a ≥ n) == true, decide (a < Int.ofNat 0) == false, (!decide (d < Int.ofNat 2)) == false, decide (n ≤ Int.ofNat 16) == true, decide (n ≥ Int.ofNat 4) == true], [])) ∧ ((decide (a ≥ n)) = false → (((decide (b < Int.ofNat 0)) = true → Q (.c (.v (.int .i64 (Int.negSucc 0))), [], 1032, [decide (b < Int.ofNat 0) == true, decide (a ≥ n) == false, decide (a < Int.ofNat 0) == false, (!decide (d < Int.ofNat 2)) == false, decide (n ≤ Int.ofNat 16) == true, decide (n ≥ Int.ofNat 4) == true], [])) ∧ ((decide (b < Int.ofNat 0)) = false → (((decide (b ≥ n)) = true → Q (.c (.v (.int .i64 (Int.negSucc 0))), [], 1035, [decide (b ≥ n) == true, decide (b < Int.ofNat 0) == false, decide (a ≥ n) == false, decide (a < Int.ofNat 0) == false, (!decide (d < Int.ofNat 2)) == false, decide (n ≤ Int.ofNat 16) == true, decide (n ≥ Int.ofNat 4) == true], [])) ∧ ((decide (b ≥ n)) = false → Q (.c (.v (.int .i64 (Int.ofNat j))), [], 100000000000000000000000000000000000000000000000002, [decide (b ≥ n) == false, decide (b < Int.ofNat 0) == false, decide (a ≥ n) == false, decide (a < Int.ofNat 0) == false, (!decide (d < Int.ofNat 2)) == false, decide (n ≤ Int.ofNat 16) == true, decide (n ≥ Int.ofNat 4) == true], [LoopV Tryd.prog (loopAt Tryd.prog 127 0) [0, 1, 2, 3, 9] [] [some (.c (.v (.int .i64 n))), some (.c (.v (.int .u8 d))), some (.c (.v (.int .i64 a))), some (.c (.v (.int .i64 b))), some (.c (.v (.int .i64 (Int.ofNat 0))))] [] 42 1035 (mkFr 42 [(9, i64 (Int.ofNat j))]) [] 100000000000000000000000000000000000000000000000000 (Exit.exit 0) none])))))))))))) ∧ ((decide (n ≤ Int.ofNat 16)) = false → Q (.c (.v (.int .i64 (Int.negSucc 0))), [], 1023, [decide (n ≤ Int.ofNat 16) == false, decide (n ≥ Int.ofNat 4) == true], [])))) ∧ ((decide (n ≥ Int.ofNat 4)) = false → Q (.c (.v (.int .i64 (Int.negSucc 0))), [], 1021, [decide (n ≥ Int.ofNat 4) == false], [])))) :
    ∃ p r, rdF Tryd.prog n d a b j p = some r ∧ Q r := by
  rcases Bool.eq_false_or_eq_true (decide (n ≥ Int.ofNat 4)) with h2 | h2
  · have g2 := H.1 h2
    rcases Bool.eq_false_or_eq_true (decide (n ≤ Int.ofNat 16)) with h4 | h4
    · have g4 := g2.1 h4
      rcases Bool.eq_false_or_eq_true (!decide (d < Int.ofNat 2)) with h6 | h6
      · have g6 := g4.1 h6
        exact ⟨([.b true, .a, .b true, .a, .b true, .a, .a, .a, .a, .a, .a, .a, .a, .a, .a] : List Dec), _, by kernel_rfl, g6⟩
      · have g6 := g4.2 h6
        rcases Bool.eq_false_or_eq_true (decide (a < Int.ofNat 0)) with h8 | h8
        · have g8 := g6.1 h8
          exact ⟨([.b true, .a, .b true, .a, .b false, .a, .b true, .a, .a, .a, .a, .a, .a, .a, .a] : List Dec), _, by kernel_rfl, g8⟩
        · have g8 := g6.2 h8
          rcases Bool.eq_false_or_eq_true (decide (a ≥ n)) with h10 | h10
          · have g10 := g8.1 h10
            exact ⟨([.b true, .a, .b true, .a, .b false, .a, .b false, .a, .a, .b true, .a, .a, .a, .a, .a] : List Dec), _, by kernel_rfl, g10⟩
          · have g10 := g8.2 h10
            rcases Bool.eq_false_or_eq_true (decide (b < Int.ofNat 0)) with h12 | h12
            · have g12 := g10.1 h12
              exact ⟨([.b true, .a, .b true, .a, .b false, .a, .b false, .a, .a, .b false, .a, .b true, .a, .a, .a] : List Dec), _, by kernel_rfl, g12⟩
            · have g12 := g10.2 h12
              rcases Bool.eq_false_or_eq_true (decide (b ≥ n)) with h14 | h14
              · have g14 := g12.1 h14
                exact ⟨([.b true, .a, .b true, .a, .b false, .a, .b false, .a, .a, .b false, .a, .b false, .a, .a, .b true] : List Dec), _, by kernel_rfl, g14⟩
              · have g14 := g12.2 h14
                exact ⟨([.b true, .a, .b true, .a, .b false, .a, .b false, .a, .a, .b false, .a, .b false, .a, .a, .b false] : List Dec), _, by kernel_rfl, g14⟩
    · have g4 := g2.2 h4
      exact ⟨([.b true, .a, .b false, .a, .a, .a, .a, .a, .a, .a, .a, .a, .a, .a, .a] : List Dec), _, by kernel_rfl, g4⟩
  · have g2 := H.2 h2
    exact ⟨([.b false, .a, .a, .a, .a, .a, .a, .a, .a, .a, .a, .a, .a, .a, .a] : List Dec), _, by kernel_rfl, g2⟩
end Go.Proofs.YtgfmjbfjodidpaaDoor
end
/- modes.in: its loop's round as the evaluator runs it. -/
section
namespace Go.Proofs.YtgfmjbfjodidpaaDoor
open Go.RowKit

def ctFirst : CtF := ctNet (fun c nq fq zs => i64 (headN c nq fq (zs.headD 0))) fun c nq fq zs => true && decide (zs.length = 1)
def ENf (P : Program) : Env := ⟨P, [(37, ctFirst)]⟩
/-- has a net such a pair? is it in? -/
def hasB (c : Cfg) (nq : Nat) (fq : Nat → Int) (p : Nat) : Bool := decide (0 ≤ headN c nq fq (Int.ofNat p))
def inB (c : Cfg) (nq : Nat) (fq : Nat → Int) (v : Vw) (p : Nat) : Bool := hasB c nq fq p && v.inn p
abbrev vwB (v : Vw) : ABlk := ⟨true, false, 32, 0, .lit (v.cells.map .v)⟩
abbrev netY0 (c : Cfg) (nq : Nat) : ABlk := ⟨false, false, 130, 0, .lit (netC0 c nq)⟩
abbrev netIds : List Nat := [gid 0, 0, 1, 2, 3, 4, 5]
abbrev netBk (c : Cfg) (nq : Nat) (fq : Nat → Int) : List ABlk := [signB, ints 3 c.np c.fp, ints 3 c.ns c.fs, ints 3 c.nb c.fb, sts c.nt c.ft, ints 3 nq fq, netY0 c nq]
abbrev mdV (c : Cfg) (nq : Nat) (fq : Nat → Int) (v : Vw) (k : Nat) : List AV := [.c (.ptr 5 0 0), .c (.ptr 1000 0 0), i64 (Int.ofNat (cntF (inB c nq fq v) k)), i64 (Int.ofNat (cntF (hasB c nq fq) k)), i64 (Int.ofNat k)]
def mdR (P : Program) (c : Cfg) (nq : Nat) (fq : Nat → Int) (v : Vw) (k : Nat) (path : List Dec) : Option VC :=
  view ([0, 3, 4, 5, 7] ++ []) (netIds ++ [1000]) (fC (ENf P) 100 (loopAt P 69 0) 1000000000000000000000000000000000000000000 10000000000000000000000000000000000000000 (stH 25 [0, 3, 4, 5, 7] (netIds ++ [1000]) (mdV c nq fq v k) (netBk c nq fq ++ [vwB v]) path []))
theorem md (c : Cfg) (nq : Nat) (fq : Nat → Int) (v : Vw) (k : Nat) (Q : VC → Prop) (H : (((decide (Int.ofNat k < Int.ofNat 8)) = true → (((decide (headN c nq fq (List.headD [Int.ofNat k] (Int.ofNat 0)) < Int.ofNat 0)) = true → Q (Exit.normal, [some (lkA (List.zip [0, 3, 4, 5, 7] (mdV c nq fq v k)) 0), some (lkA (List.zip [0, 3, 4, 5, 7] (mdV c nq fq v k)) (0 + 1 + 1 + 1)), some (lkA (List.zip [0, 3, 4, 5, 7] (mdV c nq fq v k)) (0 + 1 + 1 + 1 + 1)), some (lkA (List.zip [0, 3, 4, 5, 7] (mdV c nq fq v k)) (0 + 1 + 1 + 1 + 1 + 1)), some (.c (.v (.int .i64 (IntKind.wrap .i64 (Int.ofNat k + Int.ofNat 1)))))], [some (ABlk.mk false false 107 0 (Cs.lit [.v (.int .i64 (Int.ofNat 1)), .v (.int .i64 (Int.negSucc 0))])), some (ABlk.mk false false 3 1 (Cs.arr (c.np) fun k => List.map AC.v ((fun i => [Value.int .i64 (c.fp i)]) k))), some (ABlk.mk false false 3 1 (Cs.arr (c.ns) fun k => List.map AC.v ((fun i => [Value.int .i64 (c.fs i)]) k))), some (ABlk.mk false false 3 1 (Cs.arr (c.nb) fun k => List.map AC.v ((fun i => [Value.int .i64 (c.fb i)]) k))), some (ABlk.mk false false 47 3 (Cs.arr (c.nt) fun k => List.map AC.v ((fun i => [Value.int .i64 (Station.node (c.ft i)), Value.int .u32 (Station.safe (c.ft i)), Value.int .i64 (Station.hold (c.ft i))]) k))), some (ABlk.mk false false 3 1 (Cs.arr nq fun k => List.map AC.v ((fun i => [Value.int .i64 (fq i)]) k))), some (ABlk.mk false false 130 0 (Cs.lit [.v (.int .i64 (c.nodes)), AC.sl 0 0 0 (c.np) none, AC.sl 1 0 0 (c.ns) none, .v (.int .i64 (c.long)), AC.sl 2 0 0 (c.nb) none, AC.sl 3 0 0 (c.nt) none, .v (.int .i64 (c.miss)), .v (.int .i64 (c.good)), .v (.int .i64 (c.fresh)), AC.sl 4 0 0 nq none])), some (ABlk.mk true false 32 0 (Cs.lit (vwL v)))], 25, 1000000000000000000000000000000000000000008, [decide (headN c nq fq (List.headD [Int.ofNat k] (Int.ofNat 0)) < Int.ofNat 0) == true, netK c nq fq, true, decide (Int.ofNat k < Int.ofNat 8) == true], [])) ∧ ((decide (headN c nq fq (List.headD [Int.ofNat k] (Int.ofNat 0)) < Int.ofNat 0)) = false → (((asB (List.getD (vwL v) (0 + Int.toNat (Int.ofNat k) * 1) nov)) = true → Q (Exit.normal, [some (lkA (List.zip [0, 3, 4, 5, 7] (mdV c nq fq v k)) 0), some (lkA (List.zip [0, 3, 4, 5, 7] (mdV c nq fq v k)) (0 + 1 + 1 + 1)), some (.c (.v (.int .i64 (IntKind.wrap .i64 (Int.ofNat (cntF (inB c nq fq v) k) + Int.ofNat 1))))), some (.c (.v (.int .i64 (IntKind.wrap .i64 (Int.ofNat (cntF (hasB c nq fq) k) + Int.ofNat 1))))), some (.c (.v (.int .i64 (IntKind.wrap .i64 (Int.ofNat k + Int.ofNat 1)))))], [some (ABlk.mk false false 107 0 (Cs.lit [.v (.int .i64 (Int.ofNat 1)), .v (.int .i64 (Int.negSucc 0))])), some (ABlk.mk false false 3 1 (Cs.arr (c.np) fun k => List.map AC.v ((fun i => [Value.int .i64 (c.fp i)]) k))), some (ABlk.mk false false 3 1 (Cs.arr (c.ns) fun k => List.map AC.v ((fun i => [Value.int .i64 (c.fs i)]) k))), some (ABlk.mk false false 3 1 (Cs.arr (c.nb) fun k => List.map AC.v ((fun i => [Value.int .i64 (c.fb i)]) k))), some (ABlk.mk false false 47 3 (Cs.arr (c.nt) fun k => List.map AC.v ((fun i => [Value.int .i64 (Station.node (c.ft i)), Value.int .u32 (Station.safe (c.ft i)), Value.int .i64 (Station.hold (c.ft i))]) k))), some (ABlk.mk false false 3 1 (Cs.arr nq fun k => List.map AC.v ((fun i => [Value.int .i64 (fq i)]) k))), some (ABlk.mk false false 130 0 (Cs.lit [.v (.int .i64 (c.nodes)), AC.sl 0 0 0 (c.np) none, AC.sl 1 0 0 (c.ns) none, .v (.int .i64 (c.long)), AC.sl 2 0 0 (c.nb) none, AC.sl 3 0 0 (c.nt) none, .v (.int .i64 (c.miss)), .v (.int .i64 (c.good)), .v (.int .i64 (c.fresh)), AC.sl 4 0 0 nq none])), some (ABlk.mk true false 32 0 (Cs.lit (vwL v)))], 25, 1000000000000000000000000000000000000000018, [asB (List.getD (vwL v) (0 + Int.toNat (Int.ofNat k) * 1) nov) == true, ABlk.inb (ABlk.mk true false 32 0 (Cs.lit (vwL v))) 0 (0 + Int.toNat (Int.ofNat k) * 1 + 1), okl Kd.b (List.getD (vwL v) (0 + Int.toNat (Int.ofNat k) * 1) nov), decide (Int.ofNat 0 ≤ Int.ofNat k ∧ Int.ofNat k < Int.ofNat 8), decide (headN c nq fq (List.headD [Int.ofNat k] (Int.ofNat 0)) < Int.ofNat 0) == false, netK c nq fq, true, decide (Int.ofNat k < Int.ofNat 8) == true], [])) ∧ ((asB (List.getD (vwL v) (0 + Int.toNat (Int.ofNat k) * 1) nov)) = false → Q (Exit.normal, [some (lkA (List.zip [0, 3, 4, 5, 7] (mdV c nq fq v k)) 0), some (lkA (List.zip [0, 3, 4, 5, 7] (mdV c nq fq v k)) (0 + 1 + 1 + 1)), some (lkA (List.zip [0, 3, 4, 5, 7] (mdV c nq fq v k)) (0 + 1 + 1 + 1 + 1)), some (.c (.v (.int .i64 (IntKind.wrap .i64 (Int.ofNat (cntF (hasB c nq fq) k) + Int.ofNat 1))))), some (.c (.v (.int .i64 (IntKind.wrap .i64 (Int.ofNat k + Int.ofNat 1)))))], [some (ABlk.mk false false 107 0 (Cs.lit [.v (.int .i64 (Int.ofNat 1)), .v (.int .i64 (Int.negSucc 0))])), some (ABlk.mk false false 3 1 (Cs.arr (c.np) fun k => List.map AC.v ((fun i => [Value.int .i64 (c.fp i)]) k))), some (ABlk.mk false false 3 1 (Cs.arr (c.ns) fun k => List.map AC.v ((fun i => [Value.int .i64 (c.fs i)]) k))), some (ABlk.mk false false 3 1 (Cs.arr (c.nb) fun k => List.map AC.v ((fun i => [Value.int .i64 (c.fb i)]) k))), some (ABlk.mk false false 47 3 (Cs.arr (c.nt) fun k => List.map AC.v ((fun i => [Value.int .i64 (Station.node (c.ft i)), Value.int .u32 (Station.safe (c.ft i)), Value.int .i64 (Station.hold (c.ft i))]) k))), some (ABlk.mk false false 3 1 (Cs.arr nq fun k => List.map AC.v ((fun i => [Value.int .i64 (fq i)]) k))), some (ABlk.mk false false 130 0 (Cs.lit [.v (.int .i64 (c.nodes)), AC.sl 0 0 0 (c.np) none, AC.sl 1 0 0 (c.ns) none, .v (.int .i64 (c.long)), AC.sl 2 0 0 (c.nb) none, AC.sl 3 0 0 (c.nt) none, .v (.int .i64 (c.miss)), .v (.int .i64 (c.good)), .v (.int .i64 (c.fresh)), AC.sl 4 0 0 nq none])), some (ABlk.mk true false 32 0 (Cs.lit (vwL v)))], 25, 1000000000000000000000000000000000000000015, [asB (List.getD (vwL v) (0 + Int.toNat (Int.ofNat k) * 1) nov) == false, ABlk.inb (ABlk.mk true false 32 0 (Cs.lit (vwL v))) 0 (0 + Int.toNat (Int.ofNat k) * 1 + 1), okl Kd.b (List.getD (vwL v) (0 + Int.toNat (Int.ofNat k) * 1) nov), decide (Int.ofNat 0 ≤ Int.ofNat k ∧ Int.ofNat k < Int.ofNat 8), decide (headN c nq fq (List.headD [Int.ofNat k] (Int.ofNat 0)) < Int.ofNat 0) == false, netK c nq fq, true, decide (Int.ofNat k < Int.ofNat 8) == true], [])))))) ∧ ((decide (Int.ofNat k < Int.ofNat 8)) = false → Q (Exit.exit 0, [some (lkA (List.zip [0, 3, 4, 5, 7] (mdV c nq fq v k)) 0), some (lkA (List.zip [0, 3, 4, 5, 7] (mdV c nq fq v k)) (0 + 1 + 1 + 1)), some (lkA (List.zip [0, 3, 4, 5, 7] (mdV c nq fq v k)) (0 + 1 + 1 + 1 + 1)), some (lkA (List.zip [0, 3, 4, 5, 7] (mdV c nq fq v k)) (0 + 1 + 1 + 1 + 1 + 1)), some (lkA (List.zip [0, 3, 4, 5, 7] (mdV c nq fq v k)) (0 + 1 + 1 + 1 + 1 + 1 + 1 + 1))], [some (ABlk.mk false false 107 0 (Cs.lit [.v (.int .i64 (Int.ofNat 1)), .v (.int .i64 (Int.negSucc 0))])), some (ABlk.mk false false 3 1 (Cs.arr (c.np) fun k => List.map AC.v ((fun i => [Value.int .i64 (c.fp i)]) k))), some (ABlk.mk false false 3 1 (Cs.arr (c.ns) fun k => List.map AC.v ((fun i => [Value.int .i64 (c.fs i)]) k))), some (ABlk.mk false false 3 1 (Cs.arr (c.nb) fun k => List.map AC.v ((fun i => [Value.int .i64 (c.fb i)]) k))), some (ABlk.mk false false 47 3 (Cs.arr (c.nt) fun k => List.map AC.v ((fun i => [Value.int .i64 (Station.node (c.ft i)), Value.int .u32 (Station.safe (c.ft i)), Value.int .i64 (Station.hold (c.ft i))]) k))), some (ABlk.mk false false 3 1 (Cs.arr nq fun k => List.map AC.v ((fun i => [Value.int .i64 (fq i)]) k))), some (ABlk.mk false false 130 0 (Cs.lit [.v (.int .i64 (c.nodes)), AC.sl 0 0 0 (c.np) none, AC.sl 1 0 0 (c.ns) none, .v (.int .i64 (c.long)), AC.sl 2 0 0 (c.nb) none, AC.sl 3 0 0 (c.nt) none, .v (.int .i64 (c.miss)), .v (.int .i64 (c.good)), .v (.int .i64 (c.fresh)), AC.sl 4 0 0 nq none])), some (ABlk.mk true false 32 0 (Cs.lit (vwL v)))], 25, 1000000000000000000000000000000000000000001, [decide (Int.ofNat k < Int.ofNat 8) == false], [])))) :
    ∃ p r, mdR Tryd.prog c nq fq v k p = some r ∧ Q r := by
  rcases Bool.eq_false_or_eq_true (decide (Int.ofNat k < Int.ofNat 8)) with h2 | h2
  · have g2 := H.1 h2
    rcases Bool.eq_false_or_eq_true (decide (headN c nq fq (List.headD [Int.ofNat k] (Int.ofNat 0)) < Int.ofNat 0)) with h4 | h4
    · have g4 := g2.1 h4
      exact ⟨([.b true, .b true] : List Dec), _, by kernel_rfl, g4⟩
    · have g4 := g2.2 h4
      rcases Bool.eq_false_or_eq_true (asB (List.getD (vwL v) (0 + Int.toNat (Int.ofNat k) * 1) nov)) with h6 | h6
      · have g6 := g4.1 h6
        exact ⟨([.b true, .b false, .b true] : List Dec), _, by kernel_rfl, g6⟩
      · have g6 := g4.2 h6
        exact ⟨([.b true, .b false, .b false] : List Dec), _, by kernel_rfl, g6⟩
  · have g2 := H.2 h2
    exact ⟨([.b false] : List Dec), _, by kernel_rfl, g2⟩
end Go.Proofs.YtgfmjbfjodidpaaDoor
end
/- modes.in: how many pairs are in, of how many: its contract. -/
section
namespace Go.Proofs.YtgfmjbfjodidpaaDoor
open Go.RowKit

theorem wrap_nat1 (k : Nat) (h : k ≤ 1000000) : IntKind.wrap IntKind.i64 (Int.ofNat k + Int.ofNat 1) = Int.ofNat (k + 1) := by rw [wrap_nat _ (by simp; omega) (by simp; omega)]; simp
end Go.Proofs.YtgfmjbfjodidpaaDoor
end
/- Contracts of sennitref03.Distance, and of both Places. -/
section
namespace Go.Proofs.YtgfmjbfjodidpaaDoor
open Go.RowKit

theorem succ_mod {n x : Int} (hn : 0 < n) : (x + 1) % n = if x % n = n - 1 then 0 else x % n + 1 := by
  have h1 := Int.emod_nonneg x (show n ≠ 0 by omega)
  have h2 := Int.emod_lt_of_pos x hn
  have e : (x + 1) % n = (x % n + 1) % n := by rw [Int.emod_add_emod]
  rw [e]
  split
  · rename_i h
    rw [h, show n - 1 + 1 = n by omega, Int.emod_self]
  · exact Int.emod_eq_of_lt (by omega) (by omega)
theorem pred_mod {n x : Int} (hn : 0 < n) : (x - 1) % n = if x % n = 0 then n - 1 else x % n - 1 := by
  have h1 := Int.emod_nonneg x (show n ≠ 0 by omega)
  have h2 := Int.emod_lt_of_pos x hn
  have e : (x - 1) % n = (x % n - 1) % n := by rw [Int.emod_sub_emod]
  rw [e]
  split
  · rename_i h
    rw [h, show (0 : Int) - 1 = (n - 1) - n by omega, Int.sub_emod_right]
    exact Int.emod_eq_of_lt (by omega) (by omega)
  · exact Int.emod_eq_of_lt (by omega) (by omega)
/-- the place behind so many steps -/
def goF (n d a : Int) (k : Nat) : Int := if d = 0 then (a + k) % n else (a - k) % n
theorem goF_in {n d a : Int} (hn : 0 < n) (k : Nat) : 0 ≤ goF n d a k ∧ goF n d a k < n := by
  unfold goF
  split <;> exact ⟨Int.emod_nonneg _ (by omega), Int.emod_lt_of_pos _ hn⟩
theorem goF_succ {n d a : Int} (hn : 0 < n) (k : Nat) : goF n d a (k + 1) = if d = 0 then (if goF n d a k = n - 1 then 0 else goF n d a k + 1) else (if goF n d a k = 0 then n - 1 else goF n d a k - 1) := by
  unfold goF
  split
  · rw [show a + ((k + 1 : Nat) : Int) = a + k + 1 by omega]
    exact succ_mod hn
  · rw [show a - ((k + 1 : Nat) : Int) = a - k - 1 by omega]
    exact pred_mod hn
/-- one is reached behind so many steps as it is far -/
theorem goF_hit {n d a b : Int} (hn : 0 < n) (hb : 0 ≤ b ∧ b < n) {k : Nat} {z : Int} (hz : z = if d = 0 then (b - a) % n else (a - b) % n) (hk : (k : Int) ≤ z) : goF n d a k = b ↔ (k : Int) = z := by
  have hz1 : 0 ≤ z ∧ z < n := by rw [hz]; split <;> exact ⟨Int.emod_nonneg _ (by omega), Int.emod_lt_of_pos _ hn⟩
  unfold goF
  by_cases hd : d = 0
  · rw [if_pos hd] at hz ⊢
    constructor
    · intro h
      have e : (a + k - b) % n = 0 := by rw [Int.sub_emod, h, Int.emod_eq_of_lt hb.1 hb.2, Int.sub_self, Int.zero_emod]
      have e2 : (k - z) % n = 0 := by
        rw [hz, Int.sub_emod, Int.emod_emod_of_dvd _ (Int.dvd_refl n), ← Int.sub_emod, show (k : Int) - (b - a) = a + k - b by omega]
        exact e
      have := Int.emod_eq_of_lt (a := z - k) (b := n) (by omega) (by omega)
      have e3 : (z - k) % n = 0 := by
        have := Int.emod_eq_zero_of_dvd ((Int.dvd_neg).2 (Int.dvd_of_emod_eq_zero e2))
        rwa [Int.neg_sub] at this
      omega
    · intro h
      rw [h, hz, Int.add_emod, Int.emod_emod_of_dvd _ (Int.dvd_refl n), ← Int.add_emod, show a + (b - a) = b by omega]
      exact Int.emod_eq_of_lt hb.1 hb.2
  · rw [if_neg hd] at hz ⊢
    constructor
    · intro h
      have e : (a - k - b) % n = 0 := by rw [Int.sub_emod, h, Int.emod_eq_of_lt hb.1 hb.2, Int.sub_self, Int.zero_emod]
      have e2 : (z - k) % n = 0 := by
        rw [hz, Int.sub_emod, Int.emod_emod_of_dvd _ (Int.dvd_refl n), ← Int.sub_emod, show a - b - (k : Int) = a - k - b by omega]
        exact e
      have := Int.emod_eq_of_lt (a := z - k) (b := n) (by omega) (by omega)
      omega
    · intro h
      rw [h, hz, Int.sub_emod, Int.emod_emod_of_dvd _ (Int.dvd_refl n), ← Int.sub_emod, show a - (a - b) = b by omega]
      exact Int.emod_eq_of_lt hb.1 hb.2
theorem dist_in {n d a b : Int} (h : (ringB n d && (nodeB n a && nodeB n b)) = true) : distF n d a b = (if d = 0 then (b - a) % n else (a - b) % n) ∧ 0 ≤ distF n d a b ∧ distF n d a b < n := by
  have e : distF n d a b = (if d = 0 then (b - a) % n else (a - b) % n) := by unfold distF; rw [if_pos h]
  simp [ringB, nodeB] at h
  refine ⟨e, ?_⟩
  rw [e]
  split <;> exact ⟨Int.emod_nonneg _ (by omega), Int.emod_lt_of_pos _ (by omega)⟩
theorem rd_sum (n d a b : Int) (hd : 0 ≤ d) (h : (ringB n d && (nodeB n a && nodeB n b)) = true) :
    LoopV Tryd.prog (loopAt Tryd.prog 127 0) [0, 1, 2, 3, 9] [] ((rdV n d b a 0).map some) [] 42 1035 (mkFr 42 [(9, i64 (distF n d a b))]) [] 100000000000000000000000000000000000000000000000000 (.exit 0) none := by
  obtain ⟨e1, e2, e3⟩ := dist_in h
  generalize hz : distF n d a b = z at *
  obtain ⟨j, rfl⟩ := Int.eq_ofNat_of_zero_le e2
  simp [ringB, nodeB] at h
  have hg0 : goF n d a 0 = a := by unfold goF; split <;> simp <;> exact Int.emod_eq_of_lt (by omega) (by omega)
  have hn : 0 < n := by omega
  rw [show rdV n d b a 0 = rdV n d b (goF n d a 0) 0 by rw [hg0]]
  refine loop_view hE1 (fuel := 100) (str := 10000000000000000000000000000000000000000) (nh := 1000000000000000000000000000000000000000000) (n := 1035) (n' := 100000000000000000000000000000000000000000000000000) (S := Nat) (fun k => k ≤ j) (fun k => j - k) [0, 1, 2, 3, 9] [] [] (fun k => rdV n d b (goF n d a k) k) (fun _ => []) (by decide) (by decide) (by unfold lim; omega) (s0 := 0) (by omega) (fun _ => ⟨rfl, rfl⟩) (by kernel_rfl) (fun k _ => ⟨rfl, fun b hb => by cases hb⟩) ?_
  intro k hk
  refine (?_ : (∃ p r, rdR Tryd.prog n d b (goF n d a k) k p = some r ∧ _) → _) (rd3 n d b (goF n d a k) k (StepV 1035 100000000000000000000000000000000000000000000000000 42 [0, 1, 2, 3, 9] [] [] (fun k => k ≤ j) (fun k => j - k) (fun k => rdV n d b (goF n d a k) k) (fun _ => []) (.exit 0) [(9, i64 (j : Int))] [] k) ?_)
  · rintro ⟨p, r, h1, h2⟩
    exact ⟨p, [], r, h1, h2⟩
  · have hit := goF_hit hn ⟨h.2.2.1, h.2.2.2⟩ e1 (k := k) (by omega)
    have hin := goF_in (d := d) (a := a) hn k
    have hs := goF_succ (d := d) (a := a) hn k
    generalize hx : goF n d a k = x at *
    have w1 : IntKind.wrap IntKind.i64 (n - Int.ofNat 1) = n - 1 := wrap_nat _ (by simp; omega) (by simp; omega)
    have w2 : IntKind.wrap IntKind.i64 (x + Int.ofNat 1) = x + 1 := wrap_nat _ (by simp; omega) (by simp; omega)
    have w3 : IntKind.wrap IntKind.i64 (x - Int.ofNat 1) = x - 1 := wrap_nat _ (by simp; omega) (by simp; omega)
    have w4 := wrap_nat1 k (by omega)
    simp only [w1, w2, w3, w4]
    (repeat' (first | refine ⟨fun h => ?_, fun h => ?_⟩ | fail))
    all_goals (simp only [bne_iff_ne, ne_eq, beq_iff_eq, Bool.not_eq_true', beq_eq_false_iff_ne, bne_eq_false_iff_eq, Int.ofNat_eq_natCast, Int.cast_ofNat_Int] at *)
    all_goals (first
      | (refine ⟨(by simp_all [allT]), rfl, (by dsimp only; omega), rfl, .inl ⟨rfl, k + 1, (by omega), (by show j - (k + 1) < j - k; omega), ?_, trivial⟩⟩
         simp_all [rdV, lkA, i64])
      | (refine ⟨(by simp_all [allT]), rfl, (by dsimp only; omega), rfl, .inr ⟨by simp, rfl, (fun q hq => ?_), fun p hpp => (by cases hpp)⟩⟩
         rw [List.mem_singleton.1 hq]
         have : k = j := by omega
         subst this
         exact ⟨rfl, by simp [lkA]⟩))
end Go.Proofs.YtgfmjbfjodidpaaDoor
end
/- Contract of sennitref03.Distance; both Places as the evaluator runs them. -/
section
namespace Go.Proofs.YtgfmjbfjodidpaaDoor
open Go.RowKit

def ctRDist : CtF := ctRd (pureRd [] rfl) (fun | [.c (.v (.int .i64 n)), .c (.v (.int .u8 d)), .c (.v (.int .i64 a)), .c (.v (.int .i64 k))] => i64 (distF n d a k) | _ => i64 0) okN4
set_option maxRecDepth 100000 in
theorem ct_rdist : CtOk Tryd.prog 127 ctRDist := by
  refine ctRd_ofE (E := E1 Tryd.prog) hE1 (pureRd [] rfl) (fuel := 300) (str := 10000000000000000000000000000000000000000) ⟨_, _, Tryd.func127, rfl⟩ (fun s => by split <;> rfl) fun s hs => ?_
  unfold okN4 at hs
  split at hs
  · rename_i n d a b
    have hd := of_decide_eq_true hs
    refine (?_ : (∃ p q, rdF Tryd.prog n d a b (distF n d a b).toNat p = some q ∧ GoodF (i64 (distF n d a b)) q) → _) (rd3F n d a b (distF n d a b).toNat _ ?_)
    · rintro ⟨p, q, h1, h2⟩
      exact ⟨p, [some ⟨[0, 1, 2, 3, 9], [], mkFr 42 [(9, i64 (Int.ofNat (distF n d a b).toNat))], [], 100000000000000000000000000000000000000000000000000, .exit 0⟩], q, h1, h2⟩
    · by_cases hm : (ringB n d && (nodeB n a && nodeB n b)) = true
      · obtain ⟨_, e2, e3⟩ := dist_in hm
        have hsum := rd_sum n d a b hd hm
        have et : Int.ofNat (distF n d a b).toNat = distF n d a b := Int.toNat_of_nonneg e2
        rw [et]
        simp [ringB, nodeB] at hm
        (repeat' (first | refine ⟨fun h => ?_, fun h => ?_⟩ | fail))
        all_goals (simp only [decide_eq_true_eq, decide_eq_false_iff_not, Bool.not_eq_true', Bool.not_eq_false', Int.ofNat_eq_natCast, Int.cast_ofNat_Int, gt_iff_lt, ge_iff_le] at *)
        all_goals (first | (exfalso; omega) | skip)
        refine ⟨rfl, (by first | (unfold lim; omega) | (dsimp only; unfold lim; omega)), ?_, fun q hq => ?_⟩
        · (simp only [allT, List.forall_mem_cons, List.not_mem_nil, false_implies, implies_true, and_true, true_and, cfgK_t, netK_t, intsOk_ints, stsOk_sts, intsOk_s, stsOk_s, beq_iff_eq, decide_eq_true_eq, decide_eq_false_iff_not, beq_eq_false_iff_ne, bne_iff_ne, bne_eq_false_iff_eq, Bool.not_eq_true', Bool.not_eq_false', ne_eq, Int.ofNat_eq_natCast, Int.cast_ofNat_Int, gt_iff_lt, ge_iff_le]; omega)
        · rw [List.mem_singleton.1 hq]
          exact hsum
      · have hv : distF n d a b = -1 := by unfold distF; rw [if_neg hm]
        rw [hv]
        simp [ringB, nodeB] at hm
        (repeat' (first | refine ⟨fun h => ?_, fun h => ?_⟩ | fail))
        all_goals (simp only [decide_eq_true_eq, decide_eq_false_iff_not, Bool.not_eq_true', Bool.not_eq_false', Int.ofNat_eq_natCast, Int.cast_ofNat_Int, gt_iff_lt, ge_iff_le] at *)
        all_goals (first | (exfalso; omega) | skip)
        all_goals (refine ⟨rfl, (by first | (unfold lim; omega) | (dsimp only; unfold lim; omega)), ?_, by simp⟩)
        all_goals (simp only [allT, List.forall_mem_cons, List.not_mem_nil, false_implies, implies_true, and_true, true_and, cfgK_t, netK_t, intsOk_ints, stsOk_sts, intsOk_s, stsOk_s, beq_iff_eq, decide_eq_true_eq, decide_eq_false_iff_not, beq_eq_false_iff_ne, bne_iff_ne, bne_eq_false_iff_eq, Bool.not_eq_true', Bool.not_eq_false', ne_eq, Int.ofNat_eq_natCast, Int.cast_ofNat_Int, gt_iff_lt, ge_iff_le]; omega)
  · cases hs
def ctsRg : List (FuncId × CtF) := [(87, ctStepD), (36, ctDistD), (127, ctRDist)]
theorem ctsRg_ok : ∀ f g, (f, g) ∈ ctsRg → CtOk Tryd.prog f g := by
  intro f g h
  simp only [ctsRg, List.mem_cons, Prod.mk.injEq, List.not_mem_nil, or_false] at h
  rcases h with ⟨rfl, rfl⟩ | ⟨rfl, rfl⟩ | ⟨rfl, rfl⟩
  · exact ct_stepD
  · exact ct_distD
  · exact ct_rdist
def ENrg (P : Program) : Env := ⟨P, ctsRg⟩
theorem hENrg : EnvOk (ENrg Tryd.prog) := envOk ctsRg_ok (by kernel_rfl) (by kernel_rfl)
def plR (P : Program) (f : FuncId) (n d a b : Int) (path : List Dec) : Option VF := viewF [] (fCallF (ENrg P) (fC (ENrg P) 300) f [i64 n, u8A d, i64 a, i64 b] 1000 10000000000000000000000000000000000000000 (stA mS path []))
theorem plc (n d a b : Int) (Q : VF → Prop) (H : (((d == Int.ofNat 1) = true → Q (.c (.v (.int .i64 (distF n d (turnF n (Int.ofNat 0) a (Int.ofNat 1)) b))), [], 1011, [true, okN4 [.c (.v (.int .i64 n)), .c (.v (.int .u8 d)), .c (.v (.int .i64 (turnF n (Int.ofNat 0) a (Int.ofNat 1)))), .c (.v (.int .i64 b))], true, true, (d == Int.ofNat 1) == true], [])) ∧ ((d == Int.ofNat 1) = false → Q (.c (.v (.int .i64 (distF n d a b))), [], 1008, [true, okN4 [.c (.v (.int .i64 n)), .c (.v (.int .u8 d)), .c (.v (.int .i64 a)), .c (.v (.int .i64 b))], (d == Int.ofNat 1) == false], [])))) :
    ∃ p r, plR Tryd.prog 91 n d a b p = some r ∧ Q r := by
  rcases Bool.eq_false_or_eq_true (d == Int.ofNat 1) with h2 | h2
  · have g2 := H.1 h2
    exact ⟨([.b true] : List Dec), _, by kernel_rfl, g2⟩
  · have g2 := H.2 h2
    exact ⟨([.b false] : List Dec), _, by kernel_rfl, g2⟩
theorem rplc (n d a b : Int) (Q : VF → Prop) (H : (((decide (n ≥ Int.ofNat 4)) = true → (((decide (n ≤ Int.ofNat 16)) = true → (((!decide (d < Int.ofNat 2)) = true → Q (.c (.v (.int .i64 (Int.negSucc 0))), [], 1021, [(!decide (d < Int.ofNat 2)) == true, decide (n ≤ Int.ofNat 16) == true, decide (n ≥ Int.ofNat 4) == true], [])) ∧ ((!decide (d < Int.ofNat 2)) = false → (((decide (a < Int.ofNat 0)) = true → Q (.c (.v (.int .i64 (Int.negSucc 0))), [], 1023, [decide (a < Int.ofNat 0) == true, (!decide (d < Int.ofNat 2)) == false, decide (n ≤ Int.ofNat 16) == true, decide (n ≥ Int.ofNat 4) == true], [])) ∧ ((decide (a < Int.ofNat 0)) = false → (((decide (a ≥ n)) = true → Q (.c (.v (.int .i64 (Int.negSucc 0))), [], 1026, [decide (a ≥ n) == true, decide (a < Int.ofNat 0) == false, (!decide (d < Int.ofNat 2)) == false, decide (n ≤ Int.ofNat 16) == true, decide (n ≥ Int.ofNat 4) == true], [])) ∧ ((decide (a ≥ n)) = false → (((d == Int.ofNat 1) = true → (((a == IntKind.wrap .i64 (n - Int.ofNat 1)) = true → Q (.c (.v (.int .i64 (distF n d (Int.ofNat 0) b))), [], 1043, [true, okN4 [.c (.v (.int .i64 n)), .c (.v (.int .u8 d)), .c (.v (.int .i64 (Int.ofNat 0))), .c (.v (.int .i64 b))], (a == IntKind.wrap .i64 (n - Int.ofNat 1)) == true, (d == Int.ofNat 1) == true, decide (a ≥ n) == false, decide (a < Int.ofNat 0) == false, (!decide (d < Int.ofNat 2)) == false, decide (n ≤ Int.ofNat 16) == true, decide (n ≥ Int.ofNat 4) == true], [])) ∧ ((a == IntKind.wrap .i64 (n - Int.ofNat 1)) = false → Q (.c (.v (.int .i64 (distF n d (IntKind.wrap .i64 (a + Int.ofNat 1)) b))), [], 1045, [true, okN4 [.c (.v (.int .i64 n)), .c (.v (.int .u8 d)), .c (.v (.int .i64 (IntKind.wrap .i64 (a + Int.ofNat 1)))), .c (.v (.int .i64 b))], (a == IntKind.wrap .i64 (n - Int.ofNat 1)) == false, (d == Int.ofNat 1) == true, decide (a ≥ n) == false, decide (a < Int.ofNat 0) == false, (!decide (d < Int.ofNat 2)) == false, decide (n ≤ Int.ofNat 16) == true, decide (n ≥ Int.ofNat 4) == true], [])))) ∧ ((d == Int.ofNat 1) = false → Q (.c (.v (.int .i64 (distF n d a b))), [], 1032, [true, okN4 [.c (.v (.int .i64 n)), .c (.v (.int .u8 d)), .c (.v (.int .i64 a)), .c (.v (.int .i64 b))], (d == Int.ofNat 1) == false, decide (a ≥ n) == false, decide (a < Int.ofNat 0) == false, (!decide (d < Int.ofNat 2)) == false, decide (n ≤ Int.ofNat 16) == true, decide (n ≥ Int.ofNat 4) == true], [])))))))))) ∧ ((decide (n ≤ Int.ofNat 16)) = false → Q (.c (.v (.int .i64 (Int.negSucc 0))), [], 1019, [decide (n ≤ Int.ofNat 16) == false, decide (n ≥ Int.ofNat 4) == true], [])))) ∧ ((decide (n ≥ Int.ofNat 4)) = false → Q (.c (.v (.int .i64 (Int.negSucc 0))), [], 1017, [decide (n ≥ Int.ofNat 4) == false], [])))) :
    ∃ p r, plR Tryd.prog 92 n d a b p = some r ∧ Q r := by
  rcases Bool.eq_false_or_eq_true (decide (n ≥ Int.ofNat 4)) with h2 | h2
  · have g2 := H.1 h2
    rcases Bool.eq_false_or_eq_true (decide (n ≤ Int.ofNat 16)) with h4 | h4
    · have g4 := g2.1 h4
      rcases Bool.eq_false_or_eq_true (!decide (d < Int.ofNat 2)) with h6 | h6
      · have g6 := g4.1 h6
        exact ⟨([.b true, .a, .b true, .a, .b true, .a, .a, .a, .a, .a] : List Dec), _, by kernel_rfl, g6⟩
      · have g6 := g4.2 h6
        rcases Bool.eq_false_or_eq_true (decide (a < Int.ofNat 0)) with h8 | h8
        · have g8 := g6.1 h8
          exact ⟨([.b true, .a, .b true, .a, .b false, .a, .b true, .a, .a, .a] : List Dec), _, by kernel_rfl, g8⟩
        · have g8 := g6.2 h8
          rcases Bool.eq_false_or_eq_true (decide (a ≥ n)) with h10 | h10
          · have g10 := g8.1 h10
            exact ⟨([.b true, .a, .b true, .a, .b false, .a, .b false, .a, .a, .b true] : List Dec), _, by kernel_rfl, g10⟩
          · have g10 := g8.2 h10
            rcases Bool.eq_false_or_eq_true (d == Int.ofNat 1) with h12 | h12
            · have g12 := g10.1 h12
              rcases Bool.eq_false_or_eq_true (a == IntKind.wrap .i64 (n - Int.ofNat 1)) with h14 | h14
              · have g14 := g12.1 h14
                exact ⟨([.b true, .a, .b true, .a, .b false, .a, .b false, .a, .a, .b false, .b true, .a, .b true] : List Dec), _, by kernel_rfl, g14⟩
              · have g14 := g12.2 h14
                exact ⟨([.b true, .a, .b true, .a, .b false, .a, .b false, .a, .a, .b false, .b true, .a, .b false] : List Dec), _, by kernel_rfl, g14⟩
            · have g12 := g10.2 h12
              exact ⟨([.b true, .a, .b true, .a, .b false, .a, .b false, .a, .a, .b false, .b false] : List Dec), _, by kernel_rfl, g12⟩
    · have g4 := g2.2 h4
      exact ⟨([.b true, .a, .b false, .a, .a, .a, .a, .a, .a, .a] : List Dec), _, by kernel_rfl, g4⟩
  · have g2 := H.2 h2
    exact ⟨([.b false, .a, .a, .a, .a, .a, .a, .a, .a, .a] : List Dec), _, by kernel_rfl, g2⟩
end Go.Proofs.YtgfmjbfjodidpaaDoor
end
/- Contracts of both Places. -/
section
namespace Go.Proofs.YtgfmjbfjodidpaaDoor
open Go.RowKit

/-- a node's place -/
def placeF (n d a b : Int) : Int := if (ringB n d && (nodeB n a && nodeB n b)) = true then (if d = 0 then (b - a) % n else (a + 1 - b) % n) else -1
def plF : List AV → AV
  | [.c (.v (.int .i64 n)), .c (.v (.int .u8 d)), .c (.v (.int .i64 a)), .c (.v (.int .i64 b))] => i64 (placeF n d a b)
  | _ => i64 0
def ctPlace : CtF := ctRd (pureRd mS (by kernel_rfl)) plF okN4
theorem place0 (n a b : Int) : distF n 0 a b = placeF n 0 a b := by unfold distF placeF; rfl
theorem place1 {n a b x : Int} (hx : x = if (ringB n 0 && nodeB n a) = true then (a + 1) % n else -1) : distF n 1 x b = placeF n 1 a b := by
  unfold placeF
  by_cases h : (ringB n 1 && (nodeB n a && nodeB n b)) = true
  · rw [if_pos h]
    have h' := h
    simp [ringB, nodeB] at h'
    rw [if_pos (by simp [ringB, nodeB]; omega)] at hx
    have m1 := Int.emod_nonneg (a + 1) (show n ≠ 0 by omega)
    have m2 := Int.emod_lt_of_pos (a + 1) (show 0 < n by omega)
    unfold distF
    rw [if_pos (by simp [ringB, nodeB]; omega), if_neg (by decide), if_neg (by decide), hx, Int.emod_sub_emod]
  · rw [if_neg h]
    unfold distF
    refine if_neg ?_
    intro g
    refine h ?_
    simp [ringB, nodeB] at g ⊢
    by_cases hm : (ringB n 0 && nodeB n a) = true
    · simp [ringB, nodeB] at hm
      omega
    · rw [if_neg hm] at hx
      omega
theorem place2 {n d a b x : Int} (hd : 2 ≤ d) : distF n d x b = placeF n d a b := by
  unfold placeF distF
  rw [if_neg (by simp [ringB]; omega), if_neg (by simp [ringB]; omega)]
set_option maxRecDepth 100000 in
theorem ct_place : CtOk Tryd.prog 91 ctPlace := by
  refine ctRd_ofE (E := ENrg Tryd.prog) hENrg (pureRd mS (by kernel_rfl)) (fuel := 300) (str := 10000000000000000000000000000000000000000) ⟨_, _, Tryd.func91, rfl⟩ (fun s => by unfold plF; split <;> rfl) fun s hs => ?_
  unfold okN4 at hs
  split at hs
  · rename_i n d a b
    have hd := of_decide_eq_true hs
    refine (?_ : (∃ p q, plR Tryd.prog 91 n d a b p = some q ∧ GoodF (i64 (placeF n d a b)) q) → _) (plc n d a b _ ?_)
    · rintro ⟨p, q, h1, h2⟩
      exact ⟨p, [], q, h1, h2⟩
    · (repeat' (first | refine ⟨fun h => ?_, fun h => ?_⟩ | fail))
      all_goals (refine ⟨?_, (by first | (unfold lim; omega) | (dsimp only; unfold lim; omega)), ?_, by simp⟩)
      · have hd1 : d = 1 := by simpa using h
        subst hd1
        refine congrArg i64 (place1 ?_)
        unfold turnF
        rfl
      · simp [allT, okN4_eq, hd]; simpa using h

      · rcases dir_cases hd with rfl | rfl | h2
        · exact congrArg i64 (place0 n a b)
        · exact absurd h (by simp)
        · exact congrArg i64 (place2 h2)
      · simp [allT, okN4_eq, hd]; simpa using h
  · cases hs
set_option maxRecDepth 100000 in
theorem ct_rplace : CtOk Tryd.prog 92 ctPlace := by
  refine ctRd_ofE (E := ENrg Tryd.prog) hENrg (pureRd mS (by kernel_rfl)) (fuel := 300) (str := 10000000000000000000000000000000000000000) ⟨_, _, Tryd.func92, rfl⟩ (fun s => by unfold plF; split <;> rfl) fun s hs => ?_
  unfold okN4 at hs
  split at hs
  · rename_i n d a b
    have hd := of_decide_eq_true hs
    refine (?_ : (∃ p q, plR Tryd.prog 92 n d a b p = some q ∧ GoodF (i64 (placeF n d a b)) q) → _) (rplc n d a b _ ?_)
    · rintro ⟨p, q, h1, h2⟩
      exact ⟨p, [], q, h1, h2⟩
    · have w1 : 4 ≤ n → n ≤ 16 → IntKind.wrap IntKind.i64 (n - Int.ofNat 1) = n - 1 := fun _ _ => wrap_nat _ (by simp; omega) (by simp; omega)
      have w2 : 0 ≤ a → a < n → n ≤ 16 → IntKind.wrap IntKind.i64 (a + Int.ofNat 1) = a + 1 := fun _ _ _ => wrap_nat _ (by simp; omega) (by simp; omega)
      have hs1 : 0 < n → (a + 1) % n = if a % n = n - 1 then 0 else a % n + 1 := succ_mod
      (repeat' (first | refine ⟨fun h => ?_, fun h => ?_⟩ | fail))
      all_goals (simp only [decide_eq_true_eq, decide_eq_false_iff_not, Bool.not_eq_true', Bool.not_eq_false', beq_iff_eq, beq_eq_false_iff_ne, ne_eq, Int.ofNat_eq_natCast, Int.cast_ofNat_Int, gt_iff_lt, ge_iff_le] at *)
      all_goals (refine ⟨?_, (by first | (unfold lim; omega) | (dsimp only; unfold lim; omega)), ?_, by simp⟩)
      all_goals first
        | (have hn : ¬ (ringB n d && (nodeB n a && nodeB n b)) = true := (by simp [ringB, nodeB]; omega)
           unfold placeF; rw [if_neg hn]; rfl)
        | (have hd1 : d = 1 := (by omega)
           subst hd1
           refine congrArg i64 (place1 ?_)
           rw [if_pos (by simp [ringB, nodeB]; omega), hs1 (by omega), Int.emod_eq_of_lt (a := a) (by omega) (by omega)]
           first
             | (rw [if_pos (by rw [w1 (by omega) (by omega)] at *; omega)]; done)
             | (rw [w2 (by omega) (by omega) (by omega), if_neg (by rw [w1 (by omega) (by omega)] at *; omega)]; done))
        | (have hd0 : d = 0 := (by omega)
           subst hd0
           exact congrArg i64 (place0 n a b))
        | (try simp only [okN4_eq]; (simp only [allT, List.forall_mem_cons, List.not_mem_nil, false_implies, implies_true, and_true, true_and, cfgK_t, netK_t, intsOk_ints, stsOk_sts, intsOk_s, stsOk_s, beq_iff_eq, decide_eq_true_eq, decide_eq_false_iff_not, beq_eq_false_iff_ne, bne_iff_ne, bne_eq_false_iff_eq, Bool.not_eq_true', Bool.not_eq_false', ne_eq, Int.ofNat_eq_natCast, Int.cast_ofNat_Int, gt_iff_lt, ge_iff_le]; omega))
  · cases hs
end Go.Proofs.YtgfmjbfjodidpaaDoor
end
/- Contracts of clocks.Of, clocks.Age. -/
section
namespace Go.Proofs.YtgfmjbfjodidpaaDoor
open Go.RowKit

abbrev ckM : Int := 1099511627776
def ckIn (a : Int) : Prop := 0 ≤ a ∧ a ≤ ckM
instance (a : Int) : Decidable (ckIn a) := by unfold ckIn; infer_instance
/-- the age of a time -/
def agOk (c : Cfg) (x y z : Int) : Prop := 0 ≤ x ∧ x ≤ ckM ∧ 0 ≤ y ∧ y < c.ns ∧ 0 ≤ z ∧ z < c.long ∧ x * (c.ns * c.long) + y * c.long + z ≤ ckM
instance (c : Cfg) (x y z : Int) : Decidable (agOk c x y z) := by unfold agOk; infer_instance
end Go.Proofs.YtgfmjbfjodidpaaDoor
end
/- clocks.Ahead, sennitref06: as the evaluator runs them. -/
section
namespace Go.Proofs.YtgfmjbfjodidpaaDoor
open Go.RowKit

/-- a function of a config and plain values -/
def cfE (E : Env) (f : FuncId) (c : Cfg) (r : List AV) (path : List Dec) (lp : List (Option LSum)) : Option VF := viewF [] (fCallF E (fC E 300) f (.agg (cfgC c) :: r) 1000 10000000000000000000000000000000000000000 (stA (cfgM c) path lp))
abbrev tmB (x y z : Int) : ABlk := ⟨true, false, 112, 0, .lit [.v (.int .i64 x), .v (.int .i64 y), .v (.int .i64 z)]⟩
abbrev roV (l : Int) : List AV := [.c (.ptr 1000 0 0), .c (.ptr 1001 0 0), .c (.ptr 1022 0 0), i64 l]
abbrev roB (c : Cfg) (t : Int) (k : Nat) : List ABlk := [cfgB c, tmB 0 0 0, tmB t (Int.ofNat k) 0]
def roR (P : Program) (c : Cfg) (t l : Int) (k : Nat) (path : List Dec) : Option VC :=
  view ([2, 4, 6, 7] ++ []) [1000, 1001, 1022] (fC (E1 P) 100 (loopAt P 56 0) 1000000000000000000000000000000000000000000 10000000000000000000000000000000000000000 (stH 42 [2, 4, 6, 7] [1000, 1001, 1022] (roV l) (roB c t k) path []))
theorem ro (c : Cfg) (t l : Int) (k : Nat) (Q : VC → Prop) (H : (((decide (l ≥ c.long)) = true → Q (Exit.normal, [some (lkA (List.zip [2, 4, 6, 7] (roV l)) (0 + 1 + 1)), some (lkA (List.zip [2, 4, 6, 7] (roV l)) (0 + 1 + 1 + 1 + 1)), some (lkA (List.zip [2, 4, 6, 7] (roV l)) (0 + 1 + 1 + 1 + 1 + 1 + 1)), some (.c (.v (.int .i64 (IntKind.wrap .i64 (l - c.long)))))], [some (ABlk.mk true false 25 0 (Cs.lit [.v (.int .i64 (c.nodes)), AC.sl 0 0 0 (c.np) none, AC.sl 1 0 0 (c.ns) none, .v (.int .i64 (c.long)), AC.sl 2 0 0 (c.nb) none, AC.sl 3 0 0 (c.nt) none, .v (.int .i64 (c.miss)), .v (.int .i64 (c.good)), .v (.int .i64 (c.fresh))])), some (ABlk.mk true false 112 0 (Cs.lit [.v (.int .i64 (Int.ofNat 0)), .v (.int .i64 (Int.ofNat 0)), .v (.int .i64 (Int.ofNat 0))])), some (ABlk.mk true false 112 0 (Cs.lit [.v (.int .i64 t), .v (.int .i64 (IntKind.wrap .i64 (Int.ofNat k + Int.ofNat 1))), .v (.int .i64 (Int.ofNat 0))]))], 42, 1000000000000000000000000000000000000000014, [true, true, true, true, true, decide (l ≥ c.long) == true, true, true], [])) ∧ ((decide (l ≥ c.long)) = false → Q (Exit.exit 0, [some (lkA (List.zip [2, 4, 6, 7] (roV l)) (0 + 1 + 1)), some (lkA (List.zip [2, 4, 6, 7] (roV l)) (0 + 1 + 1 + 1 + 1)), some (lkA (List.zip [2, 4, 6, 7] (roV l)) (0 + 1 + 1 + 1 + 1 + 1 + 1)), some (lkA (List.zip [2, 4, 6, 7] (roV l)) (0 + 1 + 1 + 1 + 1 + 1 + 1 + 1))], [some (ABlk.mk true false 25 0 (Cs.lit [.v (.int .i64 (c.nodes)), AC.sl 0 0 0 (c.np) none, AC.sl 1 0 0 (c.ns) none, .v (.int .i64 (c.long)), AC.sl 2 0 0 (c.nb) none, AC.sl 3 0 0 (c.nt) none, .v (.int .i64 (c.miss)), .v (.int .i64 (c.good)), .v (.int .i64 (c.fresh))])), some (ABlk.mk true false 112 0 (Cs.lit [.v (.int .i64 (Int.ofNat 0)), .v (.int .i64 (Int.ofNat 0)), .v (.int .i64 (Int.ofNat 0))])), some (ABlk.mk true false 112 0 (Cs.lit [.v (.int .i64 t), .v (.int .i64 (Int.ofNat k)), .v (.int .i64 (Int.ofNat 0))]))], 42, 1000000000000000000000000000000000000000004, [decide (l ≥ c.long) == false, true, true], [])))) :
    ∃ p r, roR Tryd.prog c t l k p = some r ∧ Q r := by
  rcases Bool.eq_false_or_eq_true (decide (l ≥ c.long)) with h2 | h2
  · have g2 := H.1 h2
    exact ⟨([.b true] : List Dec), _, by kernel_rfl, g2⟩
  · have g2 := H.2 h2
    exact ⟨([.b false] : List Dec), _, by kernel_rfl, g2⟩
end Go.Proofs.YtgfmjbfjodidpaaDoor
end
/- windows.Of, Guards, Over, sennitref10.Of: as the evaluator runs them. -/
section
namespace Go.Proofs.YtgfmjbfjodidpaaDoor
open Go.RowKit

def ctsWi : List (FuncId × CtF) := [(37, ctNet1 headN), (40, ctRoundN), (87, ctStepD), (91, ctPlace), (92, ctPlace)]
theorem ctsWi_ok : ∀ f g, (f, g) ∈ ctsWi → CtOk Tryd.prog f g := by
  intro f g h
  simp only [ctsWi, List.mem_cons, Prod.mk.injEq, List.not_mem_nil, or_false] at h
  rcases h with ⟨rfl, rfl⟩ | ⟨rfl, rfl⟩ | ⟨rfl, rfl⟩ | ⟨rfl, rfl⟩ | ⟨rfl, rfl⟩
  · exact ct_first
  · exact ct_round
  · exact ct_stepD
  · exact ct_place
  · exact ct_rplace
def ENwi (P : Program) : Env := ⟨P, ctsWi⟩
theorem hENwi : EnvOk (ENwi Tryd.prog) := envOk ctsWi_ok (by kernel_rfl) (by kernel_rfl)
/-- a function of a net and plain values, with these variables -/
def ntGE (G : AMem) (E : Env) (f : FuncId) (c : Cfg) (nq : Nat) (fq : Nat → Int) (r : List AV) (path : List Dec) (lp : List (Option LSum)) : Option VF := viewF [] (fCallF E (fC E 300) f (.c (.ptr 5 0 0) :: r) 1000 10000000000000000000000000000000000000000 (stA (G ++ netL c nq fq) path lp))
def wiOfE (P : Program) (c : Cfg) (nq : Nat) (fq : Nat → Int) (d o k : Int) (path : List Dec) : Option VF := ntGE mSR (ENwi P) 44 c nq fq [u8A d, i64 o, i64 k] path []
def wiGdE (P : Program) (c : Cfg) (nq : Nat) (fq : Nat → Int) (o : Int) (path : List Dec) : Option VF := ntGE mSR (ENwi P) 49 c nq fq [i64 o] path []
def wiOvE (P : Program) (c : Cfg) (nq : Nat) (fq : Nat → Int) (path : List Dec) : Option VF := ntGE mSR (ENwi P) 43 c nq fq [] path []
theorem wiOf (c : Cfg) (nq : Nat) (fq : Nat → Int) (d o k : Int) (Q : VF → Prop) (H : (((decide (placeF (c.nodes) d (headN c nq fq (List.headD [o] (Int.ofNat 0))) k < Int.ofNat 0)) = true → Q (.tup [.agg [.v (.int .u8 (Int.ofNat 0)), .v (.int .i64 (Int.ofNat 0)), .v (.int .i64 (Int.ofNat 0)), .v (.int .i64 (Int.ofNat 0))], .c (.v (.int .i64 (Int.ofNat 1)))], [], 120000000000000000000000000000000000001009, [true, true, true, true, true, true, decide (placeF (c.nodes) d (headN c nq fq (List.headD [o] (Int.ofNat 0))) k < Int.ofNat 0) == true, true, okN4 [.c (.v (.int .i64 (c.nodes))), .c (.v (.int .u8 d)), .c (.v (.int .i64 (headN c nq fq (List.headD [o] (Int.ofNat 0))))), .c (.v (.int .i64 k))], netK c nq fq, true, true, true, (roundN c nq == Int.ofNat 0) == false, netK c nq fq, true], [])) ∧ ((decide (placeF (c.nodes) d (headN c nq fq (List.headD [o] (Int.ofNat 0))) k < Int.ofNat 0)) = false → (((decide (placeF (c.nodes) d (headN c nq fq (List.headD [o] (Int.ofNat 0))) k < Int.ofNat 3)) = true → Q (.tup [.agg [.v (.int .u8 (asI (List.getD [.v (.int .u8 (Int.ofNat 1)), .v (.int .u8 (Int.ofNat 1)), .v (.int .u8 (Int.ofNat 2))] (0 + Int.toNat (placeF (c.nodes) d (headN c nq fq (List.headD [o] (Int.ofNat 0))) k) * 1) nov))), .v (.int .i64 (placeF (c.nodes) d (headN c nq fq (List.headD [o] (Int.ofNat 0))) k)), .v (.int .i64 (IntKind.wrap .i64 (Int.ofNat 1 + placeF (c.nodes) d (headN c nq fq (List.headD [o] (Int.ofNat 0))) k))), .v (.int .i64 (IntKind.wrap .i64 (IntKind.wrap .i64 (Int.ofNat 1 + placeF (c.nodes) d (headN c nq fq (List.headD [o] (Int.ofNat 0))) k) + Int.ofNat 114)))], .c (.v (.int .i64 (Int.ofNat 0)))], [], 120000000000000000000000000000000000001025, [true, true, true, true, true, true, true, true, true, true, true, true, ABlk.inb (ABlk.mk false false 149 0 (Cs.lit [.v (.int .u8 (Int.ofNat 1)), .v (.int .u8 (Int.ofNat 1)), .v (.int .u8 (Int.ofNat 2))])) 0 (0 + Int.toNat (placeF (c.nodes) d (headN c nq fq (List.headD [o] (Int.ofNat 0))) k) * 1 + 1), okl (Kd.i .u8) (List.getD [.v (.int .u8 (Int.ofNat 1)), .v (.int .u8 (Int.ofNat 1)), .v (.int .u8 (Int.ofNat 2))] (0 + Int.toNat (placeF (c.nodes) d (headN c nq fq (List.headD [o] (Int.ofNat 0))) k) * 1) nov), decide (Int.ofNat 0 ≤ placeF (c.nodes) d (headN c nq fq (List.headD [o] (Int.ofNat 0))) k ∧ placeF (c.nodes) d (headN c nq fq (List.headD [o] (Int.ofNat 0))) k < Int.ofNat 3), decide (placeF (c.nodes) d (headN c nq fq (List.headD [o] (Int.ofNat 0))) k < Int.ofNat 3) == true, true, decide (placeF (c.nodes) d (headN c nq fq (List.headD [o] (Int.ofNat 0))) k < Int.ofNat 0) == false, true, okN4 [.c (.v (.int .i64 (c.nodes))), .c (.v (.int .u8 d)), .c (.v (.int .i64 (headN c nq fq (List.headD [o] (Int.ofNat 0))))), .c (.v (.int .i64 k))], netK c nq fq, true, true, true, (roundN c nq == Int.ofNat 0) == false, netK c nq fq, true], [])) ∧ ((decide (placeF (c.nodes) d (headN c nq fq (List.headD [o] (Int.ofNat 0))) k < Int.ofNat 3)) = false → Q (.tup [.agg [.v (.int .u8 (Int.ofNat 3)), .v (.int .i64 (placeF (c.nodes) d (headN c nq fq (List.headD [o] (Int.ofNat 0))) k)), .v (.int .i64 (IntKind.wrap .i64 (Int.ofNat 1 + placeF (c.nodes) d (headN c nq fq (List.headD [o] (Int.ofNat 0))) k))), .v (.int .i64 (IntKind.wrap .i64 (IntKind.wrap .i64 (Int.ofNat 1 + placeF (c.nodes) d (headN c nq fq (List.headD [o] (Int.ofNat 0))) k) + Int.ofNat 114)))], .c (.v (.int .i64 (Int.ofNat 0)))], [], 120000000000000000000000000000000000001020, [true, true, true, true, true, true, true, true, true, true, true, decide (placeF (c.nodes) d (headN c nq fq (List.headD [o] (Int.ofNat 0))) k < Int.ofNat 3) == false, true, decide (placeF (c.nodes) d (headN c nq fq (List.headD [o] (Int.ofNat 0))) k < Int.ofNat 0) == false, true, okN4 [.c (.v (.int .i64 (c.nodes))), .c (.v (.int .u8 d)), .c (.v (.int .i64 (headN c nq fq (List.headD [o] (Int.ofNat 0))))), .c (.v (.int .i64 k))], netK c nq fq, true, true, true, (roundN c nq == Int.ofNat 0) == false, netK c nq fq, true], [])))))) :
    ∃ p r, wiOfE Tryd.prog c nq fq d o k p = some r ∧ Q r := by
  rcases Bool.eq_false_or_eq_true (decide (placeF (c.nodes) d (headN c nq fq (List.headD [o] (Int.ofNat 0))) k < Int.ofNat 0)) with h2 | h2
  · have g2 := H.1 h2
    exact ⟨([.b false, .b true] : List Dec), _, by kernel_rfl, g2⟩
  · have g2 := H.2 h2
    rcases Bool.eq_false_or_eq_true (decide (placeF (c.nodes) d (headN c nq fq (List.headD [o] (Int.ofNat 0))) k < Int.ofNat 3)) with h4 | h4
    · have g4 := g2.1 h4
      exact ⟨([.b false, .b false, .b true] : List Dec), _, by kernel_rfl, g4⟩
    · have g4 := g2.2 h4
      exact ⟨([.b false, .b false, .b false] : List Dec), _, by kernel_rfl, g4⟩
theorem wiGd (c : Cfg) (nq : Nat) (fq : Nat → Int) (o : Int) (Q : VF → Prop) (H : (((headN c nq fq (List.headD [o] (Int.ofNat 0)) == Int.negSucc 0) = true → Q (.tup [.c (.v (.int .i64 (Int.negSucc 0))), .c (.v (.int .i64 (Int.negSucc 0)))], [], 1009, [(headN c nq fq (List.headD [o] (Int.ofNat 0)) == Int.negSucc 0) == true, netK c nq fq, true], [])) ∧ ((headN c nq fq (List.headD [o] (Int.ofNat 0)) == Int.negSucc 0) = false → Q (.tup [.c (.v (.int .i64 (turnF (c.nodes) (Int.ofNat 0) (headN c nq fq (List.headD [o] (Int.ofNat 0))) (Int.ofNat 2)))), .c (.v (.int .i64 (turnF (c.nodes) (Int.ofNat 1) (headN c nq fq (List.headD [o] (Int.ofNat 0))) (Int.ofNat 1))))], [], 160000000000000000000000000000000000001007, [true, true, true, true, true, true, true, true, (headN c nq fq (List.headD [o] (Int.ofNat 0)) == Int.negSucc 0) == false, netK c nq fq, true], [])))) :
    ∃ p r, wiGdE Tryd.prog c nq fq o p = some r ∧ Q r := by
  rcases Bool.eq_false_or_eq_true (headN c nq fq (List.headD [o] (Int.ofNat 0)) == Int.negSucc 0) with h2 | h2
  · have g2 := H.1 h2
    exact ⟨([.b true] : List Dec), _, by kernel_rfl, g2⟩
  · have g2 := H.2 h2
    exact ⟨([.b false] : List Dec), _, by kernel_rfl, g2⟩
theorem wiOv (c : Cfg) (nq : Nat) (fq : Nat → Int) (Q : VF → Prop) (H : Q (.c (.v (.int .i64 (IntKind.wrap .i64 (IntKind.wrap .i64 (IntKind.wrap .i64 (Int.ofNat 1 + c.nodes) - Int.ofNat 1) + Int.ofNat 114)))), [], 1012, [true, true, (roundN c nq == Int.ofNat 0) == false, netK c nq fq, true], [])) :
    ∃ p r, wiOvE Tryd.prog c nq fq p = some r ∧ Q r := by
  exact ⟨([.b false] : List Dec), _, by kernel_rfl, H⟩
theorem rwOf (c : Cfg) (d o k : Int) (Q : VF → Prop) (H : (((decide (d > Int.ofNat 1)) = true → Q (.tup [.agg [.v (.int .i64 (Int.ofNat 0)), .v (.int .i64 (Int.ofNat 0)), .v (.int .i64 (Int.ofNat 0)), .v (.int .i64 (Int.ofNat 0))], .c (.v (.int .i64 (Int.ofNat 1)))], [], 1016, [true, true, true, true, true, true, decide (d > Int.ofNat 1) == true], [])) ∧ ((decide (d > Int.ofNat 1)) = false → (((decide (o < Int.ofNat 0)) = true → Q (.tup [.agg [.v (.int .i64 (Int.ofNat 0)), .v (.int .i64 (Int.ofNat 0)), .v (.int .i64 (Int.ofNat 0)), .v (.int .i64 (Int.ofNat 0))], .c (.v (.int .i64 (Int.ofNat 1)))], [], 1018, [true, true, true, true, true, true, decide (o < Int.ofNat 0) == true, decide (d > Int.ofNat 1) == false], [])) ∧ ((decide (o < Int.ofNat 0)) = false → (((decide (o ≥ ↑(c.np))) = true → Q (.tup [.agg [.v (.int .i64 (Int.ofNat 0)), .v (.int .i64 (Int.ofNat 0)), .v (.int .i64 (Int.ofNat 0)), .v (.int .i64 (Int.ofNat 0))], .c (.v (.int .i64 (Int.ofNat 1)))], [], 1023, [true, true, true, true, true, true, decide (o ≥ ↑(c.np)) == true, true, decide (o < Int.ofNat 0) == false, decide (d > Int.ofNat 1) == false], [])) ∧ ((decide (o ≥ ↑(c.np))) = false → (((decide (k < Int.ofNat 0)) = true → Q (.tup [.agg [.v (.int .i64 (Int.ofNat 0)), .v (.int .i64 (Int.ofNat 0)), .v (.int .i64 (Int.ofNat 0)), .v (.int .i64 (Int.ofNat 0))], .c (.v (.int .i64 (Int.ofNat 1)))], [], 1025, [true, true, true, true, true, true, decide (k < Int.ofNat 0) == true, decide (o ≥ ↑(c.np)) == false, true, decide (o < Int.ofNat 0) == false, decide (d > Int.ofNat 1) == false], [])) ∧ ((decide (k < Int.ofNat 0)) = false → (((decide (k ≥ c.nodes)) = true → Q (.tup [.agg [.v (.int .i64 (Int.ofNat 0)), .v (.int .i64 (Int.ofNat 0)), .v (.int .i64 (Int.ofNat 0)), .v (.int .i64 (Int.ofNat 0))], .c (.v (.int .i64 (Int.ofNat 1)))], [], 1029, [true, true, true, true, true, true, decide (k ≥ c.nodes) == true, true, true, decide (k < Int.ofNat 0) == false, decide (o ≥ ↑(c.np)) == false, true, decide (o < Int.ofNat 0) == false, decide (d > Int.ofNat 1) == false], [])) ∧ ((decide (k ≥ c.nodes)) = false → (((decide (placeF (c.nodes) d (c.fp (0 + Int.toNat o)) k < Int.ofNat 2)) = true → (((placeF (c.nodes) d (c.fp (0 + Int.toNat o)) k == Int.ofNat 2) = true → Q (.tup [.agg [.v (.int .i64 (Int.ofNat 2)), .v (.int .i64 (placeF (c.nodes) d (c.fp (0 + Int.toNat o)) k)), .v (.int .i64 (IntKind.wrap .i64 (Int.ofNat 1 + placeF (c.nodes) d (c.fp (0 + Int.toNat o)) k))), .v (.int .i64 (IntKind.wrap .i64 (IntKind.wrap .i64 (Int.ofNat 1 + placeF (c.nodes) d (c.fp (0 + Int.toNat o)) k) + Int.ofNat 114)))], .c (.v (.int .i64 (Int.ofNat 0)))], [], 110000000000000000000000000000000000001043, [true, true, true, true, true, true, (placeF (c.nodes) d (c.fp (0 + Int.toNat o)) k == Int.ofNat 2) == true, decide (placeF (c.nodes) d (c.fp (0 + Int.toNat o)) k < Int.ofNat 2) == true, true, okN4 [.c (.v (.int .i64 (c.nodes))), .c (.v (.int .u8 d)), .c (.v (.int .i64 (c.fp (0 + Int.toNat o)))), .c (.v (.int .i64 k))], ABlk.inb (ABlk.mk false false 3 1 (Cs.arr (c.np) fun k => List.map AC.v ((fun i => [Value.int .i64 (c.fp i)]) k))) (0 + Int.toNat o) 1, true, decide (Int.ofNat 0 ≤ o ∧ o < ↑(c.np)), true, true, true, decide (k ≥ c.nodes) == false, true, true, decide (k < Int.ofNat 0) == false, decide (o ≥ ↑(c.np)) == false, true, decide (o < Int.ofNat 0) == false, decide (d > Int.ofNat 1) == false], [])) ∧ ((placeF (c.nodes) d (c.fp (0 + Int.toNat o)) k == Int.ofNat 2) = false → Q (.tup [.agg [.v (.int .i64 (Int.ofNat 1)), .v (.int .i64 (placeF (c.nodes) d (c.fp (0 + Int.toNat o)) k)), .v (.int .i64 (IntKind.wrap .i64 (Int.ofNat 1 + placeF (c.nodes) d (c.fp (0 + Int.toNat o)) k))), .v (.int .i64 (IntKind.wrap .i64 (IntKind.wrap .i64 (Int.ofNat 1 + placeF (c.nodes) d (c.fp (0 + Int.toNat o)) k) + Int.ofNat 114)))], .c (.v (.int .i64 (Int.ofNat 0)))], [], 110000000000000000000000000000000000001042, [true, true, true, true, true, true, (placeF (c.nodes) d (c.fp (0 + Int.toNat o)) k == Int.ofNat 2) == false, decide (placeF (c.nodes) d (c.fp (0 + Int.toNat o)) k < Int.ofNat 2) == true, true, okN4 [.c (.v (.int .i64 (c.nodes))), .c (.v (.int .u8 d)), .c (.v (.int .i64 (c.fp (0 + Int.toNat o)))), .c (.v (.int .i64 k))], ABlk.inb (ABlk.mk false false 3 1 (Cs.arr (c.np) fun k => List.map AC.v ((fun i => [Value.int .i64 (c.fp i)]) k))) (0 + Int.toNat o) 1, true, decide (Int.ofNat 0 ≤ o ∧ o < ↑(c.np)), true, true, true, decide (k ≥ c.nodes) == false, true, true, decide (k < Int.ofNat 0) == false, decide (o ≥ ↑(c.np)) == false, true, decide (o < Int.ofNat 0) == false, decide (d > Int.ofNat 1) == false], [])))) ∧ ((decide (placeF (c.nodes) d (c.fp (0 + Int.toNat o)) k < Int.ofNat 2)) = false → (((placeF (c.nodes) d (c.fp (0 + Int.toNat o)) k == Int.ofNat 2) = true → Q (.tup [.agg [.v (.int .i64 (Int.ofNat 2)), .v (.int .i64 (placeF (c.nodes) d (c.fp (0 + Int.toNat o)) k)), .v (.int .i64 (IntKind.wrap .i64 (Int.ofNat 1 + placeF (c.nodes) d (c.fp (0 + Int.toNat o)) k))), .v (.int .i64 (IntKind.wrap .i64 (IntKind.wrap .i64 (Int.ofNat 1 + placeF (c.nodes) d (c.fp (0 + Int.toNat o)) k) + Int.ofNat 114)))], .c (.v (.int .i64 (Int.ofNat 0)))], [], 110000000000000000000000000000000000001042, [true, true, true, true, true, true, (placeF (c.nodes) d (c.fp (0 + Int.toNat o)) k == Int.ofNat 2) == true, decide (placeF (c.nodes) d (c.fp (0 + Int.toNat o)) k < Int.ofNat 2) == false, true, okN4 [.c (.v (.int .i64 (c.nodes))), .c (.v (.int .u8 d)), .c (.v (.int .i64 (c.fp (0 + Int.toNat o)))), .c (.v (.int .i64 k))], ABlk.inb (ABlk.mk false false 3 1 (Cs.arr (c.np) fun k => List.map AC.v ((fun i => [Value.int .i64 (c.fp i)]) k))) (0 + Int.toNat o) 1, true, decide (Int.ofNat 0 ≤ o ∧ o < ↑(c.np)), true, true, true, decide (k ≥ c.nodes) == false, true, true, decide (k < Int.ofNat 0) == false, decide (o ≥ ↑(c.np)) == false, true, decide (o < Int.ofNat 0) == false, decide (d > Int.ofNat 1) == false], [])) ∧ ((placeF (c.nodes) d (c.fp (0 + Int.toNat o)) k == Int.ofNat 2) = false → Q (.tup [.agg [.v (.int .i64 (Int.ofNat 3)), .v (.int .i64 (placeF (c.nodes) d (c.fp (0 + Int.toNat o)) k)), .v (.int .i64 (IntKind.wrap .i64 (Int.ofNat 1 + placeF (c.nodes) d (c.fp (0 + Int.toNat o)) k))), .v (.int .i64 (IntKind.wrap .i64 (IntKind.wrap .i64 (Int.ofNat 1 + placeF (c.nodes) d (c.fp (0 + Int.toNat o)) k) + Int.ofNat 114)))], .c (.v (.int .i64 (Int.ofNat 0)))], [], 110000000000000000000000000000000000001041, [true, true, true, true, true, true, (placeF (c.nodes) d (c.fp (0 + Int.toNat o)) k == Int.ofNat 2) == false, decide (placeF (c.nodes) d (c.fp (0 + Int.toNat o)) k < Int.ofNat 2) == false, true, okN4 [.c (.v (.int .i64 (c.nodes))), .c (.v (.int .u8 d)), .c (.v (.int .i64 (c.fp (0 + Int.toNat o)))), .c (.v (.int .i64 k))], ABlk.inb (ABlk.mk false false 3 1 (Cs.arr (c.np) fun k => List.map AC.v ((fun i => [Value.int .i64 (c.fp i)]) k))) (0 + Int.toNat o) 1, true, decide (Int.ofNat 0 ≤ o ∧ o < ↑(c.np)), true, true, true, decide (k ≥ c.nodes) == false, true, true, decide (k < Int.ofNat 0) == false, decide (o ≥ ↑(c.np)) == false, true, decide (o < Int.ofNat 0) == false, decide (d > Int.ofNat 1) == false], [])))))))))))))))) :
    ∃ p r, cfE (ENwi Tryd.prog) 45 c [u8A d, i64 o, i64 k] p [] = some r ∧ Q r := by
  rcases Bool.eq_false_or_eq_true (decide (d > Int.ofNat 1)) with h2 | h2
  · have g2 := H.1 h2
    exact ⟨([.b true, .a, .a, .a, .a, .a, .a, .a, .a, .a, .a, .a, .a, .a] : List Dec), _, by kernel_rfl, g2⟩
  · have g2 := H.2 h2
    rcases Bool.eq_false_or_eq_true (decide (o < Int.ofNat 0)) with h4 | h4
    · have g4 := g2.1 h4
      exact ⟨([.b false, .a, .b true, .a, .a, .a, .a, .a, .a, .a, .a, .a, .a, .a] : List Dec), _, by kernel_rfl, g4⟩
    · have g4 := g2.2 h4
      rcases Bool.eq_false_or_eq_true (decide (o ≥ ↑(c.np))) with h6 | h6
      · have g6 := g4.1 h6
        exact ⟨([.b false, .a, .b false, .a, .a, .a, .a, .b true, .a, .a, .a, .a, .a, .a] : List Dec), _, by kernel_rfl, g6⟩
      · have g6 := g4.2 h6
        rcases Bool.eq_false_or_eq_true (decide (k < Int.ofNat 0)) with h8 | h8
        · have g8 := g6.1 h8
          exact ⟨([.b false, .a, .b false, .a, .a, .a, .a, .b false, .a, .b true, .a, .a, .a, .a] : List Dec), _, by kernel_rfl, g8⟩
        · have g8 := g6.2 h8
          rcases Bool.eq_false_or_eq_true (decide (k ≥ c.nodes)) with h10 | h10
          · have g10 := g8.1 h10
            exact ⟨([.b false, .a, .b false, .a, .a, .a, .a, .b false, .a, .b false, .a, .a, .a, .b true] : List Dec), _, by kernel_rfl, g10⟩
          · have g10 := g8.2 h10
            rcases Bool.eq_false_or_eq_true (decide (placeF (c.nodes) d (c.fp (0 + Int.toNat o)) k < Int.ofNat 2)) with h12 | h12
            · have g12 := g10.1 h12
              rcases Bool.eq_false_or_eq_true (placeF (c.nodes) d (c.fp (0 + Int.toNat o)) k == Int.ofNat 2) with h14 | h14
              · have g14 := g12.1 h14
                exact ⟨([.b false, .a, .b false, .a, .a, .a, .a, .b false, .a, .b false, .a, .a, .a, .b false, .b true, .b true] : List Dec), _, by kernel_rfl, g14⟩
              · have g14 := g12.2 h14
                exact ⟨([.b false, .a, .b false, .a, .a, .a, .a, .b false, .a, .b false, .a, .a, .a, .b false, .b true, .b false] : List Dec), _, by kernel_rfl, g14⟩
            · have g12 := g10.2 h12
              rcases Bool.eq_false_or_eq_true (placeF (c.nodes) d (c.fp (0 + Int.toNat o)) k == Int.ofNat 2) with h14 | h14
              · have g14 := g12.1 h14
                exact ⟨([.b false, .a, .b false, .a, .a, .a, .a, .b false, .a, .b false, .a, .a, .a, .b false, .b false, .b true] : List Dec), _, by kernel_rfl, g14⟩
              · have g14 := g12.2 h14
                exact ⟨([.b false, .a, .b false, .a, .a, .a, .a, .b false, .a, .b false, .a, .a, .a, .b false, .b false, .b false] : List Dec), _, by kernel_rfl, g14⟩
abbrev winA (k : IntKind) (r p b e : Int) : AV := .agg [.v (.int k r), .v (.int .i64 p), .v (.int .i64 b), .v (.int .i64 e)]
def wiAtE (P : Program) (r p b e x : Int) (path : List Dec) : Option VF := viewF [] (fCallF (E1 P) (fC (E1 P) 300) 47 [winA .u8 r p b e, i64 x] 1000 10000000000000000000000000000000000000000 (stA [] path []))
theorem wiAt (y z b e x : Int) (Q : VF → Prop) (H : (((eqF [some .u8, some .i64, some .i64, some .i64] [.v (.int .u8 y), .v (.int .i64 z), .v (.int .i64 b), .v (.int .i64 e)] [.v (.int .u8 (Int.ofNat 0)), .v (.int .i64 (Int.ofNat 0)), .v (.int .i64 (Int.ofNat 0)), .v (.int .i64 (Int.ofNat 0))]) = true → Q (.tup [.c (.v (.int .i64 (Int.ofNat 0))), .c (.v (.bool false))], [], 1012, [eqF [some .u8, some .i64, some .i64, some .i64] [.v (.int .u8 y), .v (.int .i64 z), .v (.int .i64 b), .v (.int .i64 e)] [.v (.int .u8 (Int.ofNat 0)), .v (.int .i64 (Int.ofNat 0)), .v (.int .i64 (Int.ofNat 0)), .v (.int .i64 (Int.ofNat 0))] == true, true, true, true, true, true, true, true, true, true, true, true, true, true], [])) ∧ ((eqF [some .u8, some .i64, some .i64, some .i64] [.v (.int .u8 y), .v (.int .i64 z), .v (.int .i64 b), .v (.int .i64 e)] [.v (.int .u8 (Int.ofNat 0)), .v (.int .i64 (Int.ofNat 0)), .v (.int .i64 (Int.ofNat 0)), .v (.int .i64 (Int.ofNat 0))]) = false → (((decide (x < b)) = true → Q (.tup [.c (.v (.int .i64 (Int.ofNat 0))), .c (.v (.bool false))], [], 1016, [decide (x < b) == true, true, true, eqF [some .u8, some .i64, some .i64, some .i64] [.v (.int .u8 y), .v (.int .i64 z), .v (.int .i64 b), .v (.int .i64 e)] [.v (.int .u8 (Int.ofNat 0)), .v (.int .i64 (Int.ofNat 0)), .v (.int .i64 (Int.ofNat 0)), .v (.int .i64 (Int.ofNat 0))] == false, true, true, true, true, true, true, true, true, true, true, true, true, true], [])) ∧ ((decide (x < b)) = false → (((decide (x ≥ e)) = true → Q (.tup [.c (.v (.int .i64 (Int.ofNat 0))), .c (.v (.bool false))], [], 1020, [decide (x ≥ e) == true, true, true, decide (x < b) == false, true, true, eqF [some .u8, some .i64, some .i64, some .i64] [.v (.int .u8 y), .v (.int .i64 z), .v (.int .i64 b), .v (.int .i64 e)] [.v (.int .u8 (Int.ofNat 0)), .v (.int .i64 (Int.ofNat 0)), .v (.int .i64 (Int.ofNat 0)), .v (.int .i64 (Int.ofNat 0))] == false, true, true, true, true, true, true, true, true, true, true, true, true, true], [])) ∧ ((decide (x ≥ e)) = false → Q (.tup [.c (.v (.int .i64 (IntKind.wrap .i64 (x - b)))), .c (.v (.bool true))], [], 1024, [true, true, decide (x ≥ e) == false, true, true, decide (x < b) == false, true, true, eqF [some .u8, some .i64, some .i64, some .i64] [.v (.int .u8 y), .v (.int .i64 z), .v (.int .i64 b), .v (.int .i64 e)] [.v (.int .u8 (Int.ofNat 0)), .v (.int .i64 (Int.ofNat 0)), .v (.int .i64 (Int.ofNat 0)), .v (.int .i64 (Int.ofNat 0))] == false, true, true, true, true, true, true, true, true, true, true, true, true, true], [])))))))) :
    ∃ p r, wiAtE Tryd.prog y z b e x p = some r ∧ Q r := by
  rcases Bool.eq_false_or_eq_true (eqF [some .u8, some .i64, some .i64, some .i64] [.v (.int .u8 y), .v (.int .i64 z), .v (.int .i64 b), .v (.int .i64 e)] [.v (.int .u8 (Int.ofNat 0)), .v (.int .i64 (Int.ofNat 0)), .v (.int .i64 (Int.ofNat 0)), .v (.int .i64 (Int.ofNat 0))]) with h2 | h2
  · have g2 := H.1 h2
    exact ⟨([.b true, .a, .a, .a, .a, .a, .a, .a, .a] : List Dec), _, by kernel_rfl, g2⟩
  · have g2 := H.2 h2
    rcases Bool.eq_false_or_eq_true (decide (x < b)) with h4 | h4
    · have g4 := g2.1 h4
      exact ⟨([.b false, .a, .a, .a, .b true, .a, .a, .a, .a] : List Dec), _, by kernel_rfl, g4⟩
    · have g4 := g2.2 h4
      rcases Bool.eq_false_or_eq_true (decide (x ≥ e)) with h6 | h6
      · have g6 := g4.1 h6
        exact ⟨([.b false, .a, .a, .a, .b false, .a, .a, .a, .b true] : List Dec), _, by kernel_rfl, g6⟩
      · have g6 := g4.2 h6
        exact ⟨([.b false, .a, .a, .a, .b false, .a, .a, .a, .b false] : List Dec), _, by kernel_rfl, g6⟩
abbrev waV (x : Int) (i : Nat) : List AV := [i64 x, .c (.ptr 1000 0 0), i64 (Int.ofNat i)]
abbrev waB (r p b e : Int) : ABlk := ⟨true, false, 93, 0, .lit [.v (.int .i64 r), .v (.int .i64 p), .v (.int .i64 b), .v (.int .i64 e)]⟩
def waR (P : Program) (r p b e x : Int) (i : Nat) (path : List Dec) : Option VC :=
  view ([1, 2, 6] ++ [4, 5]) [1000] (fC (E1 P) 100 (loopAt P 48 0) 1000000000000000000000000000000000000000000 10000000000000000000000000000000000000000 (stH 23 [1, 2, 6] [1000] (waV x i) [waB r p b e] path []))
theorem wa (y z b e x : Int) (i : Nat) (Q : VC → Prop) (H : (((decide (Int.ofNat i < IntKind.wrap .i64 (e - b))) = true → (((IntKind.wrap .i64 (b + Int.ofNat i) == x) = true → Q (Exit.ret, [some (lkA (List.zip [1, 2, 6] (waV x i)) (0 + 1)), some (lkA (List.zip [1, 2, 6] (waV x i)) (0 + 1 + 1)), some (lkA (List.zip [1, 2, 6] (waV x i)) (0 + 1 + 1 + 1 + 1 + 1 + 1)), some (.c (.v (.int .i64 (Int.ofNat i)))), some (.c (.v (.bool true)))], [some (ABlk.mk true false 93 0 (Cs.lit [.v (.int .i64 y), .v (.int .i64 z), .v (.int .i64 b), .v (.int .i64 e)]))], 23, 1000000000000000000000000000000000000000016, [(IntKind.wrap .i64 (b + Int.ofNat i) == x) == true, true, true, decide (Int.ofNat i < IntKind.wrap .i64 (e - b)) == true, true, true, true, true], [])) ∧ ((IntKind.wrap .i64 (b + Int.ofNat i) == x) = false → Q (Exit.normal, [some (lkA (List.zip [1, 2, 6] (waV x i)) (0 + 1)), some (lkA (List.zip [1, 2, 6] (waV x i)) (0 + 1 + 1)), some (.c (.v (.int .i64 (IntKind.wrap .i64 (Int.ofNat i + Int.ofNat 1))))), some (lkA (List.zip [1, 2, 6] (waV x i)) (0 + 1 + 1 + 1 + 1)), some (lkA (List.zip [1, 2, 6] (waV x i)) (0 + 1 + 1 + 1 + 1 + 1))], [some (ABlk.mk true false 93 0 (Cs.lit [.v (.int .i64 y), .v (.int .i64 z), .v (.int .i64 b), .v (.int .i64 e)]))], 23, 1000000000000000000000000000000000000000016, [(IntKind.wrap .i64 (b + Int.ofNat i) == x) == false, true, true, decide (Int.ofNat i < IntKind.wrap .i64 (e - b)) == true, true, true, true, true], [])))) ∧ ((decide (Int.ofNat i < IntKind.wrap .i64 (e - b))) = false → Q (Exit.exit 0, [some (lkA (List.zip [1, 2, 6] (waV x i)) (0 + 1)), some (lkA (List.zip [1, 2, 6] (waV x i)) (0 + 1 + 1)), some (lkA (List.zip [1, 2, 6] (waV x i)) (0 + 1 + 1 + 1 + 1 + 1 + 1)), some (lkA (List.zip [1, 2, 6] (waV x i)) (0 + 1 + 1 + 1 + 1)), some (lkA (List.zip [1, 2, 6] (waV x i)) (0 + 1 + 1 + 1 + 1 + 1))], [some (ABlk.mk true false 93 0 (Cs.lit [.v (.int .i64 y), .v (.int .i64 z), .v (.int .i64 b), .v (.int .i64 e)]))], 23, 1000000000000000000000000000000000000000007, [decide (Int.ofNat i < IntKind.wrap .i64 (e - b)) == false, true, true, true, true], [])))) :
    ∃ p r, waR Tryd.prog y z b e x i p = some r ∧ Q r := by
  rcases Bool.eq_false_or_eq_true (decide (Int.ofNat i < IntKind.wrap .i64 (e - b))) with h2 | h2
  · have g2 := H.1 h2
    rcases Bool.eq_false_or_eq_true (IntKind.wrap .i64 (b + Int.ofNat i) == x) with h4 | h4
    · have g4 := g2.1 h4
      exact ⟨([.b true, .b true] : List Dec), _, by kernel_rfl, g4⟩
    · have g4 := g2.2 h4
      exact ⟨([.b true, .b false] : List Dec), _, by kernel_rfl, g4⟩
  · have g2 := H.2 h2
    exact ⟨([.b false] : List Dec), _, by kernel_rfl, g2⟩
def rwAtE (P : Program) (r p b e x : Int) (l : List (Option LSum)) (path : List Dec) : Option VF := viewF [] (fCallF (E1 P) (fC (E1 P) 300) 48 [winA .i64 r p b e, i64 x] 1000 10000000000000000000000000000000000000000 (stA [] path l))
theorem rwAt0 (y z b e x : Int) (Q : VF → Prop) (H : Q (.tup [.c (.v (.int .i64 (Int.ofNat 0))), .c (.v (.bool false))], [], 100000000000000000000000000000000000000000000000002, [], [LoopV Tryd.prog (loopAt Tryd.prog 48 0) [1, 2, 6] [1000] [some (.c (.v (.int .i64 x))), some (.c (.ptr 1000 0 0)), some (.c (.v (.int .i64 (Int.ofNat 0))))] [some (ABlk.mk true false 93 0 (Cs.lit [.v (.int .i64 y), .v (.int .i64 z), .v (.int .i64 b), .v (.int .i64 e)]))] 23 1004 (mkFr 23 []) [] 100000000000000000000000000000000000000000000000000 (Exit.exit 0) none])) :
    ∃ p r, rwAtE Tryd.prog y z b e x [some ⟨[1, 2, 6], [1000], mkFr 23 [], [], 100000000000000000000000000000000000000000000000000, .exit 0⟩] p = some r ∧ Q r := by
  exact ⟨([] : List Dec), _, by kernel_rfl, H⟩
theorem rwAt1 (y z b e x : Int) (i : Nat) (Q : VF → Prop) (H : Q (.tup [.c (.v (.int .i64 (Int.ofNat i))), .c (.v (.bool true))], [], 100000000000000000000000000000000000000000000000000, [], [LoopV Tryd.prog (loopAt Tryd.prog 48 0) [1, 2, 6] [1000] [some (.c (.v (.int .i64 x))), some (.c (.ptr 1000 0 0)), some (.c (.v (.int .i64 (Int.ofNat 0))))] [some (ABlk.mk true false 93 0 (Cs.lit [.v (.int .i64 y), .v (.int .i64 z), .v (.int .i64 b), .v (.int .i64 e)]))] 23 1004 (mkFr 23 [(4, i64 (Int.ofNat i)), (5, bo true)]) [] 100000000000000000000000000000000000000000000000000 Exit.ret none])) :
    ∃ p r, rwAtE Tryd.prog y z b e x [some ⟨[1, 2, 6], [1000], mkFr 23 [(4, i64 (Int.ofNat i)), (5, bo true)], [], 100000000000000000000000000000000000000000000000000, .ret⟩] p = some r ∧ Q r := by
  exact ⟨([] : List Dec), _, by kernel_rfl, H⟩
end Go.Proofs.YtgfmjbfjodidpaaDoor
end
/- Contracts of windows.Of, Guards, Over, sennitref10.Of. -/
section
namespace Go.Proofs.YtgfmjbfjodidpaaDoor
open Go.RowKit

/-- a node's place in an owner's slot; -1: none -/
def wiP (c : Cfg) (d o k : Int) : Int := placeF c.nodes d (atF c.fp c.np o) k
def wE (p : Int) : Int := if p < 0 then 1 else 0
def wR (p : Int) : Int := if p < 0 then 0 else if p < 2 then 1 else if p = 2 then 2 else 3
def wP (p : Int) : Int := if p < 0 then 0 else p
def wB (p : Int) : Int := if p < 0 then 0 else 1 + p
def wN (p : Int) : Int := if p < 0 then 0 else 115 + p
def headsOk (c : Cfg) : Bool := decide (4 ≤ c.nodes) && (decide (c.nodes ≤ 16) && (List.range c.np).all fun i => decide (0 ≤ c.fp i ∧ c.fp i < c.nodes))
def wiPre (c : Cfg) (nq : Nat) : Bool := ckPre c nq && headsOk c
theorem heads_ok {c : Cfg} (h : headsOk c = true) : 4 ≤ c.nodes ∧ c.nodes ≤ 16 ∧ ∀ i, i < c.np → 0 ≤ c.fp i ∧ c.fp i < c.nodes := by
  simp only [headsOk, Bool.and_eq_true, decide_eq_true_eq] at h
  refine ⟨h.1, h.2.1, fun i hi => ?_⟩
  have := List.all_eq_true.1 h.2.2 i (by simpa using hi)
  simpa using this
theorem place_in {n d a b : Int} : -1 ≤ placeF n d a b ∧ placeF n d a b < 16 ∧ (placeF n d a b < 0 ∨ placeF n d a b < n) := by
  unfold placeF
  split
  · rename_i h
    simp [ringB, nodeB] at h
    have m1 := Int.emod_nonneg (b - a) (show n ≠ 0 by omega)
    have m2 := Int.emod_lt_of_pos (b - a) (show 0 < n by omega)
    have m3 := Int.emod_nonneg (a + 1 - b) (show n ≠ 0 by omega)
    have m4 := Int.emod_lt_of_pos (a + 1 - b) (show 0 < n by omega)
    split <;> omega
  · omega
theorem head_at {c : Cfg} {nq : Nat} {fq : Nat → Int} (h : 0 < nq) (o : Int) : headN c nq fq o = atF c.fp c.np o := by
  unfold headN
  rw [if_neg (by omega)]
def wnR : NetS → AV
  | ⟨c, _, _, [.c (.v (.int .u8 d)), .c (.v (.int .i64 o)), .c (.v (.int .i64 k))]⟩ => .tup [winA .u8 (wR (wiP c d o k)) (wP (wiP c d o k)) (wB (wiP c d o k)) (wN (wiP c d o k)), i64 (wE (wiP c d o k))]
  | _ => i64 0
def wnQ : NetS → Bool
  | ⟨c, nq, _, [.c (.v (.int .u8 d)), .c (.v (.int .i64 _)), .c (.v (.int .i64 _))]⟩ => wiPre c nq && decide (0 ≤ d)
  | _ => false
theorem wnQ_eq (c : Cfg) (nq : Nat) (fq : Nat → Int) (d o k : Int) : wnQ ⟨c, nq, fq, [.c (.v (.int .u8 d)), .c (.v (.int .i64 o)), .c (.v (.int .i64 k))]⟩ = (wiPre c nq && decide (0 ≤ d)) := rfl
theorem mSR_g : (mSR.all fun p => Nat.ble lim p.1) = true := by kernel_rfl
def ctWiOf : CtF := ctRd (netRdG mSR mSR_g) wnR wnQ
theorem roles_at {p : Int} (h0 : 0 ≤ p) (h1 : p < 3) : (List.getD [AC.v (Value.int IntKind.u8 1), AC.v (Value.int IntKind.u8 1), AC.v (Value.int IntKind.u8 2)] (0 + Int.toNat p * 1) nov) = .v (.int .u8 (wR p)) := by
  have h : p = 0 ∨ p = 1 ∨ p = 2 := by omega
  rcases h with rfl | rfl | rfl <;> rfl
set_option maxRecDepth 100000 in
theorem ct_wiOf : CtOk Tryd.prog 44 ctWiOf := by
  refine ctRd_ofE (E := ENwi Tryd.prog) hENwi (netRdG mSR mSR_g) (fuel := 300) (str := 10000000000000000000000000000000000000000) ⟨_, _, Tryd.func44, rfl⟩ (fun s => by unfold wnR; split <;> rfl) fun s hs => ?_
  unfold wnQ at hs
  split at hs
  · rename_i c nq fq d o k
    simp only [wiPre, Bool.and_eq_true] at hs
    obtain ⟨⟨h1, h2⟩, h3⟩ := hs
    refine (?_ : (∃ p q, wiOfE Tryd.prog c nq fq d o k p = some q ∧ GoodF (.tup [winA .u8 (wR (wiP c d o k)) (wP (wiP c d o k)) (wB (wiP c d o k)) (wN (wiP c d o k)), i64 (wE (wiP c d o k))]) q) → _) (wiOf c nq fq d o k _ ?_)
    · rintro ⟨p, q, h1, h2⟩
      exact ⟨p, [], q, h1, h2⟩
    · obtain ⟨e, r1, r2, q1, q2, q3, q4, q5⟩ := ck_round h1
      rw [e]
      simp only [List.headD_cons, head_at q1, okN4_eq]
      have hP : placeF c.nodes d (atF c.fp c.np o) k = wiP c d o k := rfl
      obtain ⟨b1, b2, b3⟩ := place_in (n := c.nodes) (d := d) (a := atF c.fp c.np o) (b := k)
      rw [hP] at b1 b2 b3
      simp only [hP]
      obtain ⟨p, hp⟩ : ∃ p, wiP c d o k = p := ⟨_, rfl⟩
      rw [hp] at b1 b2 b3
      simp only [hp]
      obtain ⟨R, hR⟩ : ∃ R : Int, (c.ns : Int) * c.long = R := ⟨_, rfl⟩
      rw [hR] at r1 r2
      simp only [hR]
      have w1 : IntKind.wrap IntKind.i64 (Int.ofNat 1 + p) = 1 + p := by rw [wrap_nat _ (by simp; omega) (by simp; omega)]; simp
      have w2 : IntKind.wrap IntKind.i64 (1 + p + Int.ofNat 114) = 115 + p := by rw [wrap_nat _ (by simp; omega) (by simp; omega)]; simp; omega
      simp only [w1, w2]
      (repeat' (first | refine ⟨fun h => ?_, fun h => ?_⟩ | fail))
      all_goals (simp only [decide_eq_true_eq, decide_eq_false_iff_not, Int.ofNat_eq_natCast, Int.cast_ofNat_Int, gt_iff_lt, ge_iff_le] at *)
      all_goals (refine ⟨?_, (by first | (unfold lim; omega) | (dsimp only; unfold lim; omega)), ?_, by simp⟩)
      all_goals first
        | (simp [wR, wP, wB, wN, wE, i64, show p < 0 by omega]; done)
        | (have hh := roles_at (p := p) (by omega) (by omega)
           simp only [wP, wB, wN, wE, i64, if_neg (show ¬ p < 0 by omega), hh]; rfl)
        | (simp [wR, wP, wB, wN, wE, i64, show ¬ p < 0 by omega, show ¬ p < 2 by omega, show ¬ p = 2 by omega]; done)
        | (simp only [allT, List.forall_mem_cons, List.not_mem_nil, false_implies, implies_true, and_true, true_and, cfgK_t, netK_t, intsOk_ints, stsOk_sts, intsOk_s, stsOk_s, beq_iff_eq, decide_eq_true_eq, decide_eq_false_iff_not, beq_eq_false_iff_ne, bne_iff_ne, bne_eq_false_iff_eq, Bool.not_eq_true', Bool.not_eq_false', ne_eq, Int.ofNat_eq_natCast, Int.cast_ofNat_Int, gt_iff_lt, ge_iff_le]; omega)
        | (have hh := roles_at (p := p) (by omega) (by omega)
           simp only [allT, List.forall_mem_cons, hh, inb_lit, okl]
           simp [netK_t]
           omega)
  · cases hs
def cwR : CfgS → AV
  | ⟨c, [.c (.v (.int .u8 d)), .c (.v (.int .i64 o)), .c (.v (.int .i64 k))]⟩ => .tup [winA .i64 (wR (wiP c d o k)) (wP (wiP c d o k)) (wB (wiP c d o k)) (wN (wiP c d o k)), i64 (wE (wiP c d o k))]
  | _ => i64 0
def cwQ : CfgS → Bool
  | ⟨c, [.c (.v (.int .u8 d)), .c (.v (.int .i64 _)), .c (.v (.int .i64 _))]⟩ => wiPre c 1 && decide (0 ≤ d)
  | _ => false
theorem cwQ_eq (c : Cfg) (d o k : Int) : cwQ ⟨c, [.c (.v (.int .u8 d)), .c (.v (.int .i64 o)), .c (.v (.int .i64 k))]⟩ = (wiPre c 1 && decide (0 ≤ d)) := rfl
def ctRwOf : CtF := ctRd cfgRd cwR cwQ
set_option maxRecDepth 100000 in
theorem ct_rwOf : CtOk Tryd.prog 45 ctRwOf := by
  refine ctRd_ofE (E := ENwi Tryd.prog) hENwi cfgRd (fuel := 300) (str := 10000000000000000000000000000000000000000) ⟨_, _, Tryd.func45, rfl⟩ (fun s => by unfold cwR; split <;> rfl) fun s hs => ?_
  unfold cwQ at hs
  split at hs
  · rename_i c d o k
    simp only [wiPre, Bool.and_eq_true, decide_eq_true_eq] at hs
    obtain ⟨⟨h1, h2⟩, h3⟩ := hs
    refine (?_ : (∃ p q, cfE (ENwi Tryd.prog) 45 c [u8A d, i64 o, i64 k] p [] = some q ∧ GoodF (.tup [winA .i64 (wR (wiP c d o k)) (wP (wiP c d o k)) (wB (wiP c d o k)) (wN (wiP c d o k)), i64 (wE (wiP c d o k))]) q) → _) (rwOf c d o k _ ?_)
    · rintro ⟨p, q, h1, h2⟩
      exact ⟨p, [], q, h1, h2⟩
    · obtain ⟨n4, n16, hf⟩ := heads_ok h2
      have hbad : (1 < d ∨ o < 0 ∨ (c.np : Int) ≤ o ∨ k < 0 ∨ c.nodes ≤ k) → wiP c d o k = -1 := by
        intro h
        unfold wiP placeF
        refine if_neg ?_
        unfold atF
        simp [ringB, nodeB]
        intro g1 g2 g3 g4 g5
        split at g4
        · omega
        · omega
      have hgood : d ≤ 1 → 0 ≤ o → o < c.np → 0 ≤ k → k < c.nodes → placeF c.nodes d (c.fp (0 + o.toNat)) k = wiP c d o k ∧ 0 ≤ wiP c d o k ∧ wiP c d o k < 16 := by
        intro g1 g2 g3 g4 g5
        have e : c.fp (0 + o.toNat) = atF c.fp c.np o := by unfold atF; rw [if_pos ⟨g2, g3⟩, Nat.zero_add]
        have i1 := hf o.toNat (by omega)
        rw [Nat.zero_add] at e
        rw [e] at i1
        rw [Nat.zero_add, e]
        refine ⟨rfl, ?_⟩
        unfold wiP placeF
        rw [if_pos (by simp [ringB, nodeB]; omega)]
        have m1 := Int.emod_nonneg (k - atF c.fp c.np o) (show c.nodes ≠ 0 by omega)
        have m2 := Int.emod_lt_of_pos (k - atF c.fp c.np o) (show 0 < c.nodes by omega)
        have m3 := Int.emod_nonneg (atF c.fp c.np o + 1 - k) (show c.nodes ≠ 0 by omega)
        have m4 := Int.emod_lt_of_pos (atF c.fp c.np o + 1 - k) (show 0 < c.nodes by omega)
        split <;> omega
      obtain ⟨p, hp⟩ : ∃ p, wiP c d o k = p := ⟨_, rfl⟩
      obtain ⟨z, hz⟩ : ∃ z, placeF c.nodes d (c.fp (0 + o.toNat)) k = z := ⟨_, rfl⟩
      rw [hp] at hbad hgood
      rw [hz] at hgood
      simp only [hp, hz, okN4_eq]
      have w1 : 0 ≤ z → z < 16 → IntKind.wrap IntKind.i64 (Int.ofNat 1 + z) = 1 + z := fun _ _ => by rw [wrap_nat _ (by simp; omega) (by simp; omega)]; simp
      have w2 : 0 ≤ z → z < 16 → IntKind.wrap IntKind.i64 (1 + z + Int.ofNat 114) = 115 + z := fun _ _ => by rw [wrap_nat _ (by simp; omega) (by simp; omega)]; simp; omega
      (repeat' (first | refine ⟨fun h => ?_, fun h => ?_⟩ | fail))
      all_goals (simp only [decide_eq_true_eq, decide_eq_false_iff_not, beq_iff_eq, beq_eq_false_iff_ne, ne_eq, Int.ofNat_eq_natCast, Int.cast_ofNat_Int, gt_iff_lt, ge_iff_le] at *)
      all_goals (refine ⟨?_, (by first | (unfold lim; omega) | (dsimp only; unfold lim; omega)), ?_, by simp⟩)
      all_goals first
        | (have := hbad (by omega)
           subst this
           rfl)
        | (obtain ⟨rfl, g1, g2⟩ := hgood (by omega) (by omega) (by omega) (by omega) (by omega)
           rw [w1 g1 g2, w2 g1 g2]
           first
             | (simp [wR, wP, wB, wN, wE, i64, show ¬ z < 0 by omega, show z < 2 by omega]; done)
             | (simp [wR, wP, wB, wN, wE, i64, show z = 2 by omega]; done)
             | (simp [wR, wP, wB, wN, wE, i64, show ¬ z < 0 by omega, show ¬ z < 2 by omega, show ¬ z = 2 by omega]; done))
        | (simp only [allT, List.forall_mem_cons, List.not_mem_nil, false_implies, implies_true, and_true, true_and, cfgK_t, netK_t, intsOk_ints, stsOk_sts, intsOk_s, stsOk_s, beq_iff_eq, decide_eq_true_eq, decide_eq_false_iff_not, beq_eq_false_iff_ne, bne_iff_ne, bne_eq_false_iff_eq, Bool.not_eq_true', Bool.not_eq_false', ne_eq, Int.ofNat_eq_natCast, Int.cast_ofNat_Int, gt_iff_lt, ge_iff_le]; omega)
        | (simp only [allT, List.forall_mem_cons, inb_arr]
           simp
           omega)
  · cases hs
/-- an owner's guards -/
def gdC (c : Cfg) (o : Int) : Int := if 0 ≤ o ∧ o < c.np then (atF c.fp c.np o + 2) % c.nodes else -1
def gdW (c : Cfg) (o : Int) : Int := if 0 ≤ o ∧ o < c.np then (atF c.fp c.np o - 1) % c.nodes else -1
def gdR : NetS → AV
  | ⟨c, _, _, [.c (.v (.int .i64 o))]⟩ => .tup [i64 (gdC c o), i64 (gdW c o)]
  | _ => i64 0
def gdQ : NetS → Bool
  | ⟨c, nq, _, [.c (.v (.int .i64 _))]⟩ => wiPre c nq
  | _ => false
theorem gdQ_eq (c : Cfg) (nq : Nat) (fq : Nat → Int) (o : Int) : gdQ ⟨c, nq, fq, [.c (.v (.int .i64 o))]⟩ = wiPre c nq := rfl
def ctWiGd : CtF := ctRd (netRdG mSR mSR_g) gdR gdQ
set_option maxRecDepth 100000 in
theorem ct_wiGd : CtOk Tryd.prog 49 ctWiGd := by
  refine ctRd_ofE (E := ENwi Tryd.prog) hENwi (netRdG mSR mSR_g) (fuel := 300) (str := 10000000000000000000000000000000000000000) ⟨_, _, Tryd.func49, rfl⟩ (fun s => by unfold gdR; split <;> rfl) fun s hs => ?_
  unfold gdQ at hs
  split at hs
  · rename_i c nq fq o
    simp only [wiPre, Bool.and_eq_true] at hs
    obtain ⟨h1, h2⟩ := hs
    refine (?_ : (∃ p q, wiGdE Tryd.prog c nq fq o p = some q ∧ GoodF (.tup [i64 (gdC c o), i64 (gdW c o)]) q) → _) (wiGd c nq fq o _ ?_)
    · rintro ⟨p, q, h1, h2⟩
      exact ⟨p, [], q, h1, h2⟩
    · obtain ⟨e, r1, r2, q1, q2, q3, q4, q5⟩ := ck_round h1
      obtain ⟨n4, n16, hf⟩ := heads_ok h2
      simp only [List.headD_cons, head_at q1, okN4_eq]
      have hh : (0 ≤ o ∧ o < c.np ∧ 0 ≤ atF c.fp c.np o ∧ atF c.fp c.np o < c.nodes) ∨ (¬ (0 ≤ o ∧ o < c.np) ∧ atF c.fp c.np o = -1) := by
        by_cases g : 0 ≤ o ∧ o < c.np
        · have i1 := hf o.toNat (by omega)
          have e : atF c.fp c.np o = c.fp o.toNat := by unfold atF; rw [if_pos g]
          rw [e]
          exact .inl ⟨g.1, g.2, i1⟩
        · refine .inr ⟨g, ?_⟩
          unfold atF; rw [if_neg g]
      unfold gdC gdW
      obtain ⟨a, ha⟩ : ∃ a, atF c.fp c.np o = a := ⟨_, rfl⟩
      rw [ha] at hh
      simp only [ha]
      have t0 : 0 ≤ a → a < c.nodes → turnF c.nodes 0 a 2 = (a + 2) % c.nodes := fun g1 g2 => by
        unfold turnF; rw [if_pos (by simp [ringB, nodeB]; omega)]; rfl
      have t1 : 0 ≤ a → a < c.nodes → turnF c.nodes 1 a 1 = (a - 1) % c.nodes := fun g1 g2 => by
        unfold turnF; rw [if_pos (by simp [ringB, nodeB]; omega)]; rfl
      have m1 : Int.negSucc 0 = -1 := rfl
      (repeat' (first | refine ⟨fun h => ?_, fun h => ?_⟩ | fail))
      all_goals (simp only [m1, beq_iff_eq, beq_eq_false_iff_ne, ne_eq, Int.ofNat_eq_natCast, Int.cast_ofNat_Int] at *)
      all_goals (refine ⟨?_, (by first | (unfold lim; omega) | (dsimp only; unfold lim; omega)), ?_, by simp⟩)
      · simp [show ¬ (0 ≤ o ∧ o < c.np) by omega, i64]
      · (simp only [allT, List.forall_mem_cons, List.not_mem_nil, false_implies, implies_true, and_true, true_and, cfgK_t, netK_t, intsOk_ints, stsOk_sts, intsOk_s, stsOk_s, beq_iff_eq, decide_eq_true_eq, decide_eq_false_iff_not, beq_eq_false_iff_ne, bne_iff_ne, bne_eq_false_iff_eq, Bool.not_eq_true', Bool.not_eq_false', ne_eq, Int.ofNat_eq_natCast, Int.cast_ofNat_Int, gt_iff_lt, ge_iff_le]; omega)
      · simp [show (0 ≤ o ∧ o < c.np) by omega, i64, t0 (by omega) (by omega), t1 (by omega) (by omega)]
      · (simp only [allT, List.forall_mem_cons, List.not_mem_nil, false_implies, implies_true, and_true, true_and, cfgK_t, netK_t, intsOk_ints, stsOk_sts, intsOk_s, stsOk_s, beq_iff_eq, decide_eq_true_eq, decide_eq_false_iff_not, beq_eq_false_iff_ne, bne_iff_ne, bne_eq_false_iff_eq, Bool.not_eq_true', Bool.not_eq_false', ne_eq, Int.ofNat_eq_natCast, Int.cast_ofNat_Int, gt_iff_lt, ge_iff_le]; omega)
  · cases hs
def ovR : NetS → AV
  | ⟨c, _, _, []⟩ => i64 (c.nodes + 114)
  | _ => i64 0
def ovQ : NetS → Bool
  | ⟨c, nq, _, []⟩ => wiPre c nq
  | _ => false
theorem ovQ_eq (c : Cfg) (nq : Nat) (fq : Nat → Int) : ovQ ⟨c, nq, fq, []⟩ = wiPre c nq := rfl
def ctWiOv : CtF := ctRd (netRdG mSR mSR_g) ovR ovQ
set_option maxRecDepth 100000 in
theorem ct_wiOv : CtOk Tryd.prog 43 ctWiOv := by
  refine ctRd_ofE (E := ENwi Tryd.prog) hENwi (netRdG mSR mSR_g) (fuel := 300) (str := 10000000000000000000000000000000000000000) ⟨_, _, Tryd.func43, rfl⟩ (fun s => by unfold ovR; split <;> rfl) fun s hs => ?_
  unfold ovQ at hs
  split at hs
  · rename_i c nq fq
    simp only [wiPre, Bool.and_eq_true] at hs
    obtain ⟨h1, h2⟩ := hs
    refine (?_ : (∃ p q, wiOvE Tryd.prog c nq fq p = some q ∧ GoodF (i64 (c.nodes + 114)) q) → _) (wiOv c nq fq _ ?_)
    · rintro ⟨p, q, h1, h2⟩
      exact ⟨p, [], q, h1, h2⟩
    · obtain ⟨e, r1, r2, q1, q2, q3, q4, q5⟩ := ck_round h1
      obtain ⟨n4, n16, hf⟩ := heads_ok h2
      rw [e]
      obtain ⟨R, hR⟩ : ∃ R : Int, (c.ns : Int) * c.long = R := ⟨_, rfl⟩
      rw [hR] at r1 r2
      simp only [hR]
      refine ⟨?_, (by first | (unfold lim; omega) | (dsimp only; unfold lim; omega)), ?_, by simp⟩
      · refine congrArg i64 ?_
        rw [wrap_nat (Int.ofNat 1 + c.nodes) (by simp; omega) (by simp; omega), wrap_nat (Int.ofNat 1 + c.nodes - Int.ofNat 1) (by simp; omega) (by simp; omega), wrap_nat _ (by simp; omega) (by simp; omega)]
        simp
        omega
      · (simp only [allT, List.forall_mem_cons, List.not_mem_nil, false_implies, implies_true, and_true, true_and, cfgK_t, netK_t, intsOk_ints, stsOk_sts, intsOk_s, stsOk_s, beq_iff_eq, decide_eq_true_eq, decide_eq_false_iff_not, beq_eq_false_iff_ne, bne_iff_ne, bne_eq_false_iff_eq, Bool.not_eq_true', Bool.not_eq_false', ne_eq, Int.ofNat_eq_natCast, Int.cast_ofNat_Int, gt_iff_lt, ge_iff_le]; omega)
  · cases hs
end Go.Proofs.YtgfmjbfjodidpaaDoor
end
/- Contracts of (Window).At, sennitref10.At. -/
section
namespace Go.Proofs.YtgfmjbfjodidpaaDoor
open Go.RowKit

/-- which tick of a window a place is -/
def atB (b e x : Int) : Bool := decide (b ≤ x) && decide (x < e)
def atI (b e x : Int) : Int := if atB b e x = true then x - b else 0
def smallB (z : Int) : Bool := decide (0 ≤ z) && decide (z ≤ 1000)
def atR : List AV → AV
  | [.agg [.v (.int .u8 _), .v (.int .i64 _), .v (.int .i64 b), .v (.int .i64 e)], .c (.v (.int .i64 x))] => .tup [i64 (atI b e x), bo (atB b e x)]
  | _ => i64 0
def atQ : List AV → Bool
  | [.agg [.v (.int .u8 _), .v (.int .i64 _), .v (.int .i64 b), .v (.int .i64 e)], .c (.v (.int .i64 _))] => smallB b && smallB e
  | _ => false
theorem atQ_eq (r p b e x : Int) : atQ [.agg [.v (.int .u8 r), .v (.int .i64 p), .v (.int .i64 b), .v (.int .i64 e)], .c (.v (.int .i64 x))] = (smallB b && smallB e) := rfl
def ctWiAt : CtF := ctRd (pureRd [] rfl) atR atQ
set_option maxRecDepth 100000 in
theorem ct_wiAt : CtOk Tryd.prog 47 ctWiAt := by
  refine ctRd_ofE (E := E1 Tryd.prog) hE1 (pureRd [] rfl) (fuel := 300) (str := 10000000000000000000000000000000000000000) ⟨_, _, Tryd.func47, rfl⟩ (fun s => by unfold atR; split <;> rfl) fun s hs => ?_
  unfold atQ at hs
  split at hs
  · rename_i r p b e x
    simp only [smallB, Bool.and_eq_true, decide_eq_true_eq] at hs
    refine (?_ : (∃ y q, wiAtE Tryd.prog r p b e x y = some q ∧ GoodF (.tup [i64 (atI b e x), bo (atB b e x)]) q) → _) (wiAt r p b e x _ ?_)
    · rintro ⟨y, q, h1, h2⟩
      exact ⟨y, [], q, h1, h2⟩
    · have w1 : b ≤ x → x < e → IntKind.wrap IntKind.i64 (x - b) = x - b := fun _ _ => wrap_nat _ (by omega) (by omega)
      have hno : ¬ (b ≤ x ∧ x < e) → atB b e x = false ∧ atI b e x = 0 := fun h => by
        have : atB b e x = false := by simp [atB]; omega
        exact ⟨this, by simp [atI, this]⟩
      have hye : (b ≤ x ∧ x < e) → atB b e x = true ∧ atI b e x = x - b := fun h => by
        have : atB b e x = true := by simp [atB]; omega
        exact ⟨this, by simp [atI, this]⟩
      (repeat' (first | refine ⟨fun h => ?_, fun h => ?_⟩ | fail))
      all_goals (refine ⟨?_, (by first | (unfold lim; omega) | (dsimp only; unfold lim; omega)), ?_, by simp⟩)
      all_goals first
        | (obtain ⟨g1, g2⟩ := hno (by simp [eqF, asI] at *; omega)
           rw [g1, g2]; rfl)
        | (obtain ⟨g1, g2⟩ := hye (by simp [eqF, asI] at *; omega)
           rw [g1, g2, w1 (by simp [eqF, asI] at *; omega) (by simp [eqF, asI] at *; omega)]; rfl)
        | (simp only [allT, List.forall_mem_cons]; simp_all)
  · cases hs
def ratR : List AV → AV
  | [.agg [.v (.int .i64 _), .v (.int .i64 _), .v (.int .i64 b), .v (.int .i64 e)], .c (.v (.int .i64 x))] => .tup [i64 (atI b e x), bo (atB b e x)]
  | _ => i64 0
def ratQ : List AV → Bool
  | [.agg [.v (.int .i64 _), .v (.int .i64 _), .v (.int .i64 b), .v (.int .i64 e)], .c (.v (.int .i64 _))] => smallB b && smallB e
  | _ => false
def ctRwAt : CtF := ctRd (pureRd [] rfl) ratR ratQ
/-- the loop that looks for a place, up to where it stops -/
theorem wa_sum (r p b e x : Int) (hb : 0 ≤ b) (hb2 : b ≤ 1000) (he : 0 ≤ e) (he2 : e ≤ 1000) (n0 : Nat) (hn0 : 1001 ≤ n0) (hn1 : n0 ≤ 1000000000000000000000000000000000000000000) (j : Nat) (hj : j ≤ 1000) (hmin : ∀ i : Nat, i < j → (i : Int) < e - b ∧ b + i ≠ x) (hstop : ¬ ((j : Int) < e - b) ∨ b + j = x) {ex : Exit} {out : List (Nat × AV)}
    (hF : ((j : Int) < e - b → ex = .ret ∧ out = [(4, i64 (Int.ofNat j)), (5, bo true)]) ∧ (¬ (j : Int) < e - b → ex = .exit 0 ∧ out = [])) :
    LoopV Tryd.prog (loopAt Tryd.prog 48 0) [1, 2, 6] [1000] ((waV x 0).map some) ([waB r p b e].map some) 23 n0 (mkFr 23 out) [] 100000000000000000000000000000000000000000000000000 ex none := by
  refine scan_ob hE1 (fuel := 100) (str := 10000000000000000000000000000000000000000) (nh := 1000000000000000000000000000000000000000000) [1, 2, 6] [4, 5] [1000] (waV x) [waB r p b e] j hn1 (by decide) (by unfold lim; omega) ?_ (fun _ => ⟨rfl, rfl⟩) ?_ ?_ ?_ ?_ ?_
  · by_cases h : (j : Int) < e - b
    · rw [(hF.1 h).1]; simp
    · rw [(hF.2 h).1]; simp
  · simp [keptB]; omega
  · intro k _
    simp [okV, lowV, lowC, notAny, i64]; omega
  · intro q hq
    rw [List.mem_singleton.1 hq]
    exact low_lit rfl
  · intro k hk
    obtain ⟨m1, m2⟩ := hmin k hk
    have w1 : IntKind.wrap IntKind.i64 (e - b) = e - b := wrap_nat _ (by omega) (by omega)
    have w2 : IntKind.wrap IntKind.i64 (b + Int.ofNat k) = b + k := wrap_nat _ (by simp; omega) (by simp; omega)
    refine wa r p b e x k _ ?_
    simp only [w1, w2, wrap_nat1 k (show k ≤ 1000000 by omega)]
    (repeat' (first | refine ⟨fun h => ?_, fun h => ?_⟩ | fail))
    all_goals (first | (exfalso; simp at *; omega) | skip)
    refine ⟨⟨?_, rfl, by dsimp only; omega, rfl⟩, rfl, rfl, BL.refl _⟩
    simp [allT]
    omega
  · have w1 : IntKind.wrap IntKind.i64 (e - b) = e - b := wrap_nat _ (by omega) (by omega)
    have w2 : IntKind.wrap IntKind.i64 (b + Int.ofNat j) = b + j := wrap_nat _ (by simp; omega) (by simp; omega)
    refine wa r p b e x j _ ?_
    simp only [w1, w2]
    by_cases h : (j : Int) < e - b
    · obtain ⟨rfl, rfl⟩ := hF.1 h
      (repeat' (first | refine ⟨fun h => ?_, fun h => ?_⟩ | fail))
      all_goals (first | (exfalso; simp at *; omega) | skip)
      refine ⟨⟨?_, rfl, by dsimp only; omega, rfl⟩, rfl, fun q hq => ?_, fun p hp => (by cases hp)⟩
      · simp [allT]
        omega
      · simp only [List.mem_cons, List.not_mem_nil, or_false] at hq
        rcases hq with rfl | rfl
        · exact ⟨rfl, by simp [i64]⟩
        · exact ⟨rfl, by simp [bo]⟩
    · obtain ⟨rfl, rfl⟩ := hF.2 h
      (repeat' (first | refine ⟨fun h => ?_, fun h => ?_⟩ | fail))
      all_goals (first | (exfalso; simp at *; omega) | skip)
      exact EndV_nil ⟨by simp [allT]; omega, rfl, by dsimp only; omega, rfl⟩ rfl
set_option maxRecDepth 100000 in
theorem ct_rwAt : CtOk Tryd.prog 48 ctRwAt := by
  refine ctRd_ofE (E := E1 Tryd.prog) hE1 (pureRd [] rfl) (fuel := 300) (str := 10000000000000000000000000000000000000000) ⟨_, _, Tryd.func48, rfl⟩ (fun s => by unfold ratR; split <;> rfl) fun s hs => ?_
  unfold ratQ at hs
  split at hs
  · rename_i r p b e x
    simp only [smallB, Bool.and_eq_true, decide_eq_true_eq] at hs
    obtain ⟨⟨b0, b1⟩, e0, e1⟩ := hs
    by_cases hin : b ≤ x ∧ x < e
    · have g1 : atB b e x = true := by simp [atB]; omega
      have g2 : atI b e x = x - b := by simp [atI, g1]
      rw [show ratR [.agg [.v (.int .i64 r), .v (.int .i64 p), .v (.int .i64 b), .v (.int .i64 e)], .c (.v (.int .i64 x))] = .tup [i64 (x - b), bo true] by show AV.tup [i64 (atI b e x), bo (atB b e x)] = _; rw [g1, g2]]
      refine (?_ : (∃ y q, rwAtE Tryd.prog r p b e x [some ⟨[1, 2, 6], [1000], mkFr 23 [(4, i64 (Int.ofNat (x - b).toNat)), (5, bo true)], [], 100000000000000000000000000000000000000000000000000, .ret⟩] y = some q ∧ GoodF (.tup [i64 (x - b), bo true]) q) → _) (rwAt1 r p b e x (x - b).toNat _ ?_)
      · rintro ⟨y, q, h1, h2⟩
        exact ⟨y, [some ⟨[1, 2, 6], [1000], mkFr 23 [(4, i64 (Int.ofNat (x - b).toNat)), (5, bo true)], [], 100000000000000000000000000000000000000000000000000, .ret⟩], q, h1, h2⟩
      · refine ⟨?_, (by first | (unfold lim; omega) | (dsimp only; unfold lim; omega)), by simp [allT], fun q hq => ?_⟩
        · have : Int.ofNat (x - b).toNat = x - b := Int.toNat_of_nonneg (by omega)
          simp only [this]; rfl
        · rw [List.mem_singleton.1 hq]
          exact wa_sum r p b e x b0 b1 e0 e1 _ (by omega) (by omega) (x - b).toNat (by omega) (fun i hi => by omega) (.inr (by omega)) ⟨fun _ => ⟨rfl, rfl⟩, fun h => absurd (show (((x - b).toNat : Nat) : Int) < e - b by omega) h⟩
    · have g1 : atB b e x = false := by simp [atB]; omega
      have g2 : atI b e x = 0 := by simp [atI, g1]
      rw [show ratR [.agg [.v (.int .i64 r), .v (.int .i64 p), .v (.int .i64 b), .v (.int .i64 e)], .c (.v (.int .i64 x))] = .tup [i64 0, bo false] by show AV.tup [i64 (atI b e x), bo (atB b e x)] = _; rw [g1, g2]]
      refine (?_ : (∃ y q, rwAtE Tryd.prog r p b e x [some ⟨[1, 2, 6], [1000], mkFr 23 [], [], 100000000000000000000000000000000000000000000000000, .exit 0⟩] y = some q ∧ GoodF (.tup [i64 0, bo false]) q) → _) (rwAt0 r p b e x _ ?_)
      · rintro ⟨y, q, h1, h2⟩
        exact ⟨y, [some ⟨[1, 2, 6], [1000], mkFr 23 [], [], 100000000000000000000000000000000000000000000000000, .exit 0⟩], q, h1, h2⟩
      · refine ⟨rfl, (by first | (unfold lim; omega) | (dsimp only; unfold lim; omega)), by simp [allT], fun q hq => ?_⟩
        rw [List.mem_singleton.1 hq]
        exact wa_sum r p b e x b0 b1 e0 e1 _ (by omega) (by omega) (e - b).toNat (by omega) (fun i hi => by omega) (.inl (by omega)) ⟨fun h => absurd h (by omega), fun _ => ⟨rfl, rfl⟩⟩
  · cases hs
end Go.Proofs.YtgfmjbfjodidpaaDoor
end
/- (Window).Pass, sennitref10.Guards, sennitref10.Over: as the evaluator runs them. -/
section
namespace Go.Proofs.YtgfmjbfjodidpaaDoor
open Go.RowKit

def ENat (P : Program) : Env := ⟨P, [(47, ctWiAt)]⟩
theorem hENat : EnvOk (ENat Tryd.prog) := by
  refine envOk (fun f g h => ?_) (by kernel_rfl) (by kernel_rfl)
  simp only [ENat, List.mem_cons, Prod.mk.injEq, List.not_mem_nil, or_false] at h
  obtain ⟨rfl, rfl⟩ := h
  exact ct_wiAt
def wiPsE (P : Program) (r p b e x s : Int) (path : List Dec) : Option VF := viewF [] (fCallF (ENat P) (fC (ENat P) 300) 51 [winA .u8 r p b e, i64 x, u8A s] 1000 10000000000000000000000000000000000000000 (stA [] path []))
theorem wiPs (y z b e x s : Int) (Q : VF → Prop) (H : (((!atB b e x) = true → Q (.c (.v (.int .u8 (Int.ofNat 0))), [], 1012, [(!atB b e x) == true, true, atQ [.agg [.v (.int .u8 y), .v (.int .i64 z), .v (.int .i64 b), .v (.int .i64 e)], .c (.v (.int .i64 x))], true, true, true, true, true], [])) ∧ ((!atB b e x) = false → Q (.c (.v (.int .u8 s)), [], 1013, [(!atB b e x) == false, true, atQ [.agg [.v (.int .u8 y), .v (.int .i64 z), .v (.int .i64 b), .v (.int .i64 e)], .c (.v (.int .i64 x))], true, true, true, true, true], [])))) :
    ∃ p r, wiPsE Tryd.prog y z b e x s p = some r ∧ Q r := by
  rcases Bool.eq_false_or_eq_true (!atB b e x) with h2 | h2
  · have g2 := H.1 h2
    exact ⟨([.b true] : List Dec), _, by kernel_rfl, g2⟩
  · have g2 := H.2 h2
    exact ⟨([.b false] : List Dec), _, by kernel_rfl, g2⟩
def ENrw (P : Program) : Env := ⟨P, [(45, ctRwOf)]⟩
theorem hENrw : EnvOk (ENrw Tryd.prog) := by
  refine envOk (fun f g h => ?_) (by kernel_rfl) (by kernel_rfl)
  simp only [ENrw, List.mem_cons, Prod.mk.injEq, List.not_mem_nil, or_false] at h
  obtain ⟨rfl, rfl⟩ := h
  exact ct_rwOf
abbrev prB (x y : Int) : ABlk := ⟨true, false, 107, 0, .lit [.v (.int .i64 x), .v (.int .i64 y)]⟩
abbrev rgIds : List Nat := [gid 0, 0, 1, 2, 3, 1000, 1004]
abbrev rgBk (c : Cfg) (x y : Int) : List ABlk := [signB, ints 3 c.np c.fp, ints 3 c.ns c.fs, ints 3 c.nb c.fb, sts c.nt c.ft, cfgB c, prB x y]
abbrev rgV (o d : Int) (i : Nat) : List AV := [i64 o, .c (.ptr 1000 0 0), .c (.ptr 1004 0 0), u8A d, i64 (Int.ofNat i)]
def rgR (P : Program) (nh : Nat) (c : Cfg) (x y o d : Int) (i : Nat) (path : List Dec) : Option VC :=
  view ([1, 2, 6, 7, 8] ++ []) rgIds (fC (ENrw P) 100 (loopAt P 50 1) nh 10000000000000000000000000000000000000000 (stH 44 [1, 2, 6, 7, 8] rgIds (rgV o d i) (rgBk c x y) path []))
theorem rg0 (c : Cfg) (x y o : Int) (i : Nat) (Q : VC → Prop) (H : (((decide (Int.ofNat i < c.nodes)) = true → (((wE (wiP c (Int.ofNat 0) o (Int.ofNat i)) == Int.ofNat 0) = true → (((wR (wiP c (Int.ofNat 0) o (Int.ofNat i)) == Int.ofNat 2) = true → Q (Exit.normal, [some (lkA (List.zip [1, 2, 6, 7, 8] (rgV o 0 i)) (0 + 1)), some (lkA (List.zip [1, 2, 6, 7, 8] (rgV o 0 i)) (0 + 1 + 1)), some (lkA (List.zip [1, 2, 6, 7, 8] (rgV o 0 i)) (0 + 1 + 1 + 1 + 1 + 1 + 1)), some (lkA (List.zip [1, 2, 6, 7, 8] (rgV o 0 i)) (0 + 1 + 1 + 1 + 1 + 1 + 1 + 1)), some (.c (.v (.int .i64 (IntKind.wrap .i64 (Int.ofNat i + Int.ofNat 1)))))], [some (ABlk.mk false false 107 0 (Cs.lit [.v (.int .i64 (Int.ofNat 1)), .v (.int .i64 (Int.negSucc 0))])), some (ABlk.mk false false 3 1 (Cs.arr (c.np) fun k => List.map AC.v ((fun i => [Value.int .i64 (c.fp i)]) k))), some (ABlk.mk false false 3 1 (Cs.arr (c.ns) fun k => List.map AC.v ((fun i => [Value.int .i64 (c.fs i)]) k))), some (ABlk.mk false false 3 1 (Cs.arr (c.nb) fun k => List.map AC.v ((fun i => [Value.int .i64 (c.fb i)]) k))), some (ABlk.mk false false 47 3 (Cs.arr (c.nt) fun k => List.map AC.v ((fun i => [Value.int .i64 (Station.node (c.ft i)), Value.int .u32 (Station.safe (c.ft i)), Value.int .i64 (Station.hold (c.ft i))]) k))), some (ABlk.mk true false 25 0 (Cs.lit [.v (.int .i64 (c.nodes)), AC.sl 0 0 0 (c.np) none, AC.sl 1 0 0 (c.ns) none, .v (.int .i64 (c.long)), AC.sl 2 0 0 (c.nb) none, AC.sl 3 0 0 (c.nt) none, .v (.int .i64 (c.miss)), .v (.int .i64 (c.good)), .v (.int .i64 (c.fresh))])), some (ABlk.mk true false 107 0 (Cs.lit [.v (.int .i64 (Int.ofNat i)), .v (.int .i64 y)]))], 44, 1000000000000000000000000000000000000000028, [true, true, (wR (wiP c (Int.ofNat 0) o (Int.ofNat i)) == Int.ofNat 2) == true, true, true, (wE (wiP c (Int.ofNat 0) o (Int.ofNat i)) == Int.ofNat 0) == true, true, cfgK c, cwQ (CfgS.mk c [.c (.v (.int .u8 (Int.ofNat 0))), .c (.v (.int .i64 o)), .c (.v (.int .i64 (Int.ofNat i)))]), true, true, true, true, true, true, decide (Int.ofNat i < c.nodes) == true, true, true], [])) ∧ ((wR (wiP c (Int.ofNat 0) o (Int.ofNat i)) == Int.ofNat 2) = false → Q (Exit.normal, [some (lkA (List.zip [1, 2, 6, 7, 8] (rgV o 0 i)) (0 + 1)), some (lkA (List.zip [1, 2, 6, 7, 8] (rgV o 0 i)) (0 + 1 + 1)), some (lkA (List.zip [1, 2, 6, 7, 8] (rgV o 0 i)) (0 + 1 + 1 + 1 + 1 + 1 + 1)), some (lkA (List.zip [1, 2, 6, 7, 8] (rgV o 0 i)) (0 + 1 + 1 + 1 + 1 + 1 + 1 + 1)), some (.c (.v (.int .i64 (IntKind.wrap .i64 (Int.ofNat i + Int.ofNat 1)))))], [some (ABlk.mk false false 107 0 (Cs.lit [.v (.int .i64 (Int.ofNat 1)), .v (.int .i64 (Int.negSucc 0))])), some (ABlk.mk false false 3 1 (Cs.arr (c.np) fun k => List.map AC.v ((fun i => [Value.int .i64 (c.fp i)]) k))), some (ABlk.mk false false 3 1 (Cs.arr (c.ns) fun k => List.map AC.v ((fun i => [Value.int .i64 (c.fs i)]) k))), some (ABlk.mk false false 3 1 (Cs.arr (c.nb) fun k => List.map AC.v ((fun i => [Value.int .i64 (c.fb i)]) k))), some (ABlk.mk false false 47 3 (Cs.arr (c.nt) fun k => List.map AC.v ((fun i => [Value.int .i64 (Station.node (c.ft i)), Value.int .u32 (Station.safe (c.ft i)), Value.int .i64 (Station.hold (c.ft i))]) k))), some (ABlk.mk true false 25 0 (Cs.lit [.v (.int .i64 (c.nodes)), AC.sl 0 0 0 (c.np) none, AC.sl 1 0 0 (c.ns) none, .v (.int .i64 (c.long)), AC.sl 2 0 0 (c.nb) none, AC.sl 3 0 0 (c.nt) none, .v (.int .i64 (c.miss)), .v (.int .i64 (c.good)), .v (.int .i64 (c.fresh))])), some (ABlk.mk true false 107 0 (Cs.lit [.v (.int .i64 x), .v (.int .i64 y)]))], 44, 1000000000000000000000000000000000000000024, [(wR (wiP c (Int.ofNat 0) o (Int.ofNat i)) == Int.ofNat 2) == false, true, true, (wE (wiP c (Int.ofNat 0) o (Int.ofNat i)) == Int.ofNat 0) == true, true, cfgK c, cwQ (CfgS.mk c [.c (.v (.int .u8 (Int.ofNat 0))), .c (.v (.int .i64 o)), .c (.v (.int .i64 (Int.ofNat i)))]), true, true, true, true, true, true, decide (Int.ofNat i < c.nodes) == true, true, true], [])))) ∧ ((wE (wiP c (Int.ofNat 0) o (Int.ofNat i)) == Int.ofNat 0) = false → Q (Exit.normal, [some (lkA (List.zip [1, 2, 6, 7, 8] (rgV o 0 i)) (0 + 1)), some (lkA (List.zip [1, 2, 6, 7, 8] (rgV o 0 i)) (0 + 1 + 1)), some (lkA (List.zip [1, 2, 6, 7, 8] (rgV o 0 i)) (0 + 1 + 1 + 1 + 1 + 1 + 1)), some (lkA (List.zip [1, 2, 6, 7, 8] (rgV o 0 i)) (0 + 1 + 1 + 1 + 1 + 1 + 1 + 1)), some (.c (.v (.int .i64 (IntKind.wrap .i64 (Int.ofNat i + Int.ofNat 1)))))], [some (ABlk.mk false false 107 0 (Cs.lit [.v (.int .i64 (Int.ofNat 1)), .v (.int .i64 (Int.negSucc 0))])), some (ABlk.mk false false 3 1 (Cs.arr (c.np) fun k => List.map AC.v ((fun i => [Value.int .i64 (c.fp i)]) k))), some (ABlk.mk false false 3 1 (Cs.arr (c.ns) fun k => List.map AC.v ((fun i => [Value.int .i64 (c.fs i)]) k))), some (ABlk.mk false false 3 1 (Cs.arr (c.nb) fun k => List.map AC.v ((fun i => [Value.int .i64 (c.fb i)]) k))), some (ABlk.mk false false 47 3 (Cs.arr (c.nt) fun k => List.map AC.v ((fun i => [Value.int .i64 (Station.node (c.ft i)), Value.int .u32 (Station.safe (c.ft i)), Value.int .i64 (Station.hold (c.ft i))]) k))), some (ABlk.mk true false 25 0 (Cs.lit [.v (.int .i64 (c.nodes)), AC.sl 0 0 0 (c.np) none, AC.sl 1 0 0 (c.ns) none, .v (.int .i64 (c.long)), AC.sl 2 0 0 (c.nb) none, AC.sl 3 0 0 (c.nt) none, .v (.int .i64 (c.miss)), .v (.int .i64 (c.good)), .v (.int .i64 (c.fresh))])), some (ABlk.mk true false 107 0 (Cs.lit [.v (.int .i64 x), .v (.int .i64 y)]))], 44, 1000000000000000000000000000000000000000021, [(wE (wiP c (Int.ofNat 0) o (Int.ofNat i)) == Int.ofNat 0) == false, true, cfgK c, cwQ (CfgS.mk c [.c (.v (.int .u8 (Int.ofNat 0))), .c (.v (.int .i64 o)), .c (.v (.int .i64 (Int.ofNat i)))]), true, true, true, true, true, true, decide (Int.ofNat i < c.nodes) == true, true, true], [])))) ∧ ((decide (Int.ofNat i < c.nodes)) = false → Q (Exit.exit 2, [some (lkA (List.zip [1, 2, 6, 7, 8] (rgV o 0 i)) (0 + 1)), some (lkA (List.zip [1, 2, 6, 7, 8] (rgV o 0 i)) (0 + 1 + 1)), some (lkA (List.zip [1, 2, 6, 7, 8] (rgV o 0 i)) (0 + 1 + 1 + 1 + 1 + 1 + 1)), some (lkA (List.zip [1, 2, 6, 7, 8] (rgV o 0 i)) (0 + 1 + 1 + 1 + 1 + 1 + 1 + 1)), some (lkA (List.zip [1, 2, 6, 7, 8] (rgV o 0 i)) (0 + 1 + 1 + 1 + 1 + 1 + 1 + 1 + 1))], [some (ABlk.mk false false 107 0 (Cs.lit [.v (.int .i64 (Int.ofNat 1)), .v (.int .i64 (Int.negSucc 0))])), some (ABlk.mk false false 3 1 (Cs.arr (c.np) fun k => List.map AC.v ((fun i => [Value.int .i64 (c.fp i)]) k))), some (ABlk.mk false false 3 1 (Cs.arr (c.ns) fun k => List.map AC.v ((fun i => [Value.int .i64 (c.fs i)]) k))), some (ABlk.mk false false 3 1 (Cs.arr (c.nb) fun k => List.map AC.v ((fun i => [Value.int .i64 (c.fb i)]) k))), some (ABlk.mk false false 47 3 (Cs.arr (c.nt) fun k => List.map AC.v ((fun i => [Value.int .i64 (Station.node (c.ft i)), Value.int .u32 (Station.safe (c.ft i)), Value.int .i64 (Station.hold (c.ft i))]) k))), some (ABlk.mk true false 25 0 (Cs.lit [.v (.int .i64 (c.nodes)), AC.sl 0 0 0 (c.np) none, AC.sl 1 0 0 (c.ns) none, .v (.int .i64 (c.long)), AC.sl 2 0 0 (c.nb) none, AC.sl 3 0 0 (c.nt) none, .v (.int .i64 (c.miss)), .v (.int .i64 (c.good)), .v (.int .i64 (c.fresh))])), some (ABlk.mk true false 107 0 (Cs.lit [.v (.int .i64 x), .v (.int .i64 y)]))], 44, 1000000000000000000000000000000000000000004, [decide (Int.ofNat i < c.nodes) == false, true, true], [])))) :
    ∃ p r, rgR Tryd.prog 1000000000000000000000000000000000000000000 c x y o 0 i p = some r ∧ Q r := by
  rcases Bool.eq_false_or_eq_true (decide (Int.ofNat i < c.nodes)) with h2 | h2
  · have g2 := H.1 h2
    rcases Bool.eq_false_or_eq_true (wE (wiP c (Int.ofNat 0) o (Int.ofNat i)) == Int.ofNat 0) with h4 | h4
    · have g4 := g2.1 h4
      rcases Bool.eq_false_or_eq_true (wR (wiP c (Int.ofNat 0) o (Int.ofNat i)) == Int.ofNat 2) with h6 | h6
      · have g6 := g4.1 h6
        exact ⟨([.b true, .b true, .a, .a, .b true] : List Dec), _, by kernel_rfl, g6⟩
      · have g6 := g4.2 h6
        exact ⟨([.b true, .b true, .a, .a, .b false] : List Dec), _, by kernel_rfl, g6⟩
    · have g4 := g2.2 h4
      exact ⟨([.b true, .b false, .a, .a, .a] : List Dec), _, by kernel_rfl, g4⟩
  · have g2 := H.2 h2
    exact ⟨([.b false] : List Dec), _, by kernel_rfl, g2⟩
theorem rg1 (c : Cfg) (x y o : Int) (i : Nat) (Q : VC → Prop) (H : (((decide (Int.ofNat i < c.nodes)) = true → (((wE (wiP c (Int.ofNat 1) o (Int.ofNat i)) == Int.ofNat 0) = true → (((wR (wiP c (Int.ofNat 1) o (Int.ofNat i)) == Int.ofNat 2) = true → Q (Exit.normal, [some (lkA (List.zip [1, 2, 6, 7, 8] (rgV o 1 i)) (0 + 1)), some (lkA (List.zip [1, 2, 6, 7, 8] (rgV o 1 i)) (0 + 1 + 1)), some (lkA (List.zip [1, 2, 6, 7, 8] (rgV o 1 i)) (0 + 1 + 1 + 1 + 1 + 1 + 1)), some (lkA (List.zip [1, 2, 6, 7, 8] (rgV o 1 i)) (0 + 1 + 1 + 1 + 1 + 1 + 1 + 1)), some (.c (.v (.int .i64 (IntKind.wrap .i64 (Int.ofNat i + Int.ofNat 1)))))], [some (ABlk.mk false false 107 0 (Cs.lit [.v (.int .i64 (Int.ofNat 1)), .v (.int .i64 (Int.negSucc 0))])), some (ABlk.mk false false 3 1 (Cs.arr (c.np) fun k => List.map AC.v ((fun i => [Value.int .i64 (c.fp i)]) k))), some (ABlk.mk false false 3 1 (Cs.arr (c.ns) fun k => List.map AC.v ((fun i => [Value.int .i64 (c.fs i)]) k))), some (ABlk.mk false false 3 1 (Cs.arr (c.nb) fun k => List.map AC.v ((fun i => [Value.int .i64 (c.fb i)]) k))), some (ABlk.mk false false 47 3 (Cs.arr (c.nt) fun k => List.map AC.v ((fun i => [Value.int .i64 (Station.node (c.ft i)), Value.int .u32 (Station.safe (c.ft i)), Value.int .i64 (Station.hold (c.ft i))]) k))), some (ABlk.mk true false 25 0 (Cs.lit [.v (.int .i64 (c.nodes)), AC.sl 0 0 0 (c.np) none, AC.sl 1 0 0 (c.ns) none, .v (.int .i64 (c.long)), AC.sl 2 0 0 (c.nb) none, AC.sl 3 0 0 (c.nt) none, .v (.int .i64 (c.miss)), .v (.int .i64 (c.good)), .v (.int .i64 (c.fresh))])), some (ABlk.mk true false 107 0 (Cs.lit [.v (.int .i64 x), .v (.int .i64 (Int.ofNat i))]))], 44, 1000000000000000000000000000000000000000000000000028, [true, true, (wR (wiP c (Int.ofNat 1) o (Int.ofNat i)) == Int.ofNat 2) == true, true, true, (wE (wiP c (Int.ofNat 1) o (Int.ofNat i)) == Int.ofNat 0) == true, true, cfgK c, cwQ (CfgS.mk c [.c (.v (.int .u8 (Int.ofNat 1))), .c (.v (.int .i64 o)), .c (.v (.int .i64 (Int.ofNat i)))]), true, true, true, true, true, true, decide (Int.ofNat i < c.nodes) == true, true, true], [])) ∧ ((wR (wiP c (Int.ofNat 1) o (Int.ofNat i)) == Int.ofNat 2) = false → Q (Exit.normal, [some (lkA (List.zip [1, 2, 6, 7, 8] (rgV o 1 i)) (0 + 1)), some (lkA (List.zip [1, 2, 6, 7, 8] (rgV o 1 i)) (0 + 1 + 1)), some (lkA (List.zip [1, 2, 6, 7, 8] (rgV o 1 i)) (0 + 1 + 1 + 1 + 1 + 1 + 1)), some (lkA (List.zip [1, 2, 6, 7, 8] (rgV o 1 i)) (0 + 1 + 1 + 1 + 1 + 1 + 1 + 1)), some (.c (.v (.int .i64 (IntKind.wrap .i64 (Int.ofNat i + Int.ofNat 1)))))], [some (ABlk.mk false false 107 0 (Cs.lit [.v (.int .i64 (Int.ofNat 1)), .v (.int .i64 (Int.negSucc 0))])), some (ABlk.mk false false 3 1 (Cs.arr (c.np) fun k => List.map AC.v ((fun i => [Value.int .i64 (c.fp i)]) k))), some (ABlk.mk false false 3 1 (Cs.arr (c.ns) fun k => List.map AC.v ((fun i => [Value.int .i64 (c.fs i)]) k))), some (ABlk.mk false false 3 1 (Cs.arr (c.nb) fun k => List.map AC.v ((fun i => [Value.int .i64 (c.fb i)]) k))), some (ABlk.mk false false 47 3 (Cs.arr (c.nt) fun k => List.map AC.v ((fun i => [Value.int .i64 (Station.node (c.ft i)), Value.int .u32 (Station.safe (c.ft i)), Value.int .i64 (Station.hold (c.ft i))]) k))), some (ABlk.mk true false 25 0 (Cs.lit [.v (.int .i64 (c.nodes)), AC.sl 0 0 0 (c.np) none, AC.sl 1 0 0 (c.ns) none, .v (.int .i64 (c.long)), AC.sl 2 0 0 (c.nb) none, AC.sl 3 0 0 (c.nt) none, .v (.int .i64 (c.miss)), .v (.int .i64 (c.good)), .v (.int .i64 (c.fresh))])), some (ABlk.mk true false 107 0 (Cs.lit [.v (.int .i64 x), .v (.int .i64 y)]))], 44, 1000000000000000000000000000000000000000000000000024, [(wR (wiP c (Int.ofNat 1) o (Int.ofNat i)) == Int.ofNat 2) == false, true, true, (wE (wiP c (Int.ofNat 1) o (Int.ofNat i)) == Int.ofNat 0) == true, true, cfgK c, cwQ (CfgS.mk c [.c (.v (.int .u8 (Int.ofNat 1))), .c (.v (.int .i64 o)), .c (.v (.int .i64 (Int.ofNat i)))]), true, true, true, true, true, true, decide (Int.ofNat i < c.nodes) == true, true, true], [])))) ∧ ((wE (wiP c (Int.ofNat 1) o (Int.ofNat i)) == Int.ofNat 0) = false → Q (Exit.normal, [some (lkA (List.zip [1, 2, 6, 7, 8] (rgV o 1 i)) (0 + 1)), some (lkA (List.zip [1, 2, 6, 7, 8] (rgV o 1 i)) (0 + 1 + 1)), some (lkA (List.zip [1, 2, 6, 7, 8] (rgV o 1 i)) (0 + 1 + 1 + 1 + 1 + 1 + 1)), some (lkA (List.zip [1, 2, 6, 7, 8] (rgV o 1 i)) (0 + 1 + 1 + 1 + 1 + 1 + 1 + 1)), some (.c (.v (.int .i64 (IntKind.wrap .i64 (Int.ofNat i + Int.ofNat 1)))))], [some (ABlk.mk false false 107 0 (Cs.lit [.v (.int .i64 (Int.ofNat 1)), .v (.int .i64 (Int.negSucc 0))])), some (ABlk.mk false false 3 1 (Cs.arr (c.np) fun k => List.map AC.v ((fun i => [Value.int .i64 (c.fp i)]) k))), some (ABlk.mk false false 3 1 (Cs.arr (c.ns) fun k => List.map AC.v ((fun i => [Value.int .i64 (c.fs i)]) k))), some (ABlk.mk false false 3 1 (Cs.arr (c.nb) fun k => List.map AC.v ((fun i => [Value.int .i64 (c.fb i)]) k))), some (ABlk.mk false false 47 3 (Cs.arr (c.nt) fun k => List.map AC.v ((fun i => [Value.int .i64 (Station.node (c.ft i)), Value.int .u32 (Station.safe (c.ft i)), Value.int .i64 (Station.hold (c.ft i))]) k))), some (ABlk.mk true false 25 0 (Cs.lit [.v (.int .i64 (c.nodes)), AC.sl 0 0 0 (c.np) none, AC.sl 1 0 0 (c.ns) none, .v (.int .i64 (c.long)), AC.sl 2 0 0 (c.nb) none, AC.sl 3 0 0 (c.nt) none, .v (.int .i64 (c.miss)), .v (.int .i64 (c.good)), .v (.int .i64 (c.fresh))])), some (ABlk.mk true false 107 0 (Cs.lit [.v (.int .i64 x), .v (.int .i64 y)]))], 44, 1000000000000000000000000000000000000000000000000021, [(wE (wiP c (Int.ofNat 1) o (Int.ofNat i)) == Int.ofNat 0) == false, true, cfgK c, cwQ (CfgS.mk c [.c (.v (.int .u8 (Int.ofNat 1))), .c (.v (.int .i64 o)), .c (.v (.int .i64 (Int.ofNat i)))]), true, true, true, true, true, true, decide (Int.ofNat i < c.nodes) == true, true, true], [])))) ∧ ((decide (Int.ofNat i < c.nodes)) = false → Q (Exit.exit 2, [some (lkA (List.zip [1, 2, 6, 7, 8] (rgV o 1 i)) (0 + 1)), some (lkA (List.zip [1, 2, 6, 7, 8] (rgV o 1 i)) (0 + 1 + 1)), some (lkA (List.zip [1, 2, 6, 7, 8] (rgV o 1 i)) (0 + 1 + 1 + 1 + 1 + 1 + 1)), some (lkA (List.zip [1, 2, 6, 7, 8] (rgV o 1 i)) (0 + 1 + 1 + 1 + 1 + 1 + 1 + 1)), some (lkA (List.zip [1, 2, 6, 7, 8] (rgV o 1 i)) (0 + 1 + 1 + 1 + 1 + 1 + 1 + 1 + 1))], [some (ABlk.mk false false 107 0 (Cs.lit [.v (.int .i64 (Int.ofNat 1)), .v (.int .i64 (Int.negSucc 0))])), some (ABlk.mk false false 3 1 (Cs.arr (c.np) fun k => List.map AC.v ((fun i => [Value.int .i64 (c.fp i)]) k))), some (ABlk.mk false false 3 1 (Cs.arr (c.ns) fun k => List.map AC.v ((fun i => [Value.int .i64 (c.fs i)]) k))), some (ABlk.mk false false 3 1 (Cs.arr (c.nb) fun k => List.map AC.v ((fun i => [Value.int .i64 (c.fb i)]) k))), some (ABlk.mk false false 47 3 (Cs.arr (c.nt) fun k => List.map AC.v ((fun i => [Value.int .i64 (Station.node (c.ft i)), Value.int .u32 (Station.safe (c.ft i)), Value.int .i64 (Station.hold (c.ft i))]) k))), some (ABlk.mk true false 25 0 (Cs.lit [.v (.int .i64 (c.nodes)), AC.sl 0 0 0 (c.np) none, AC.sl 1 0 0 (c.ns) none, .v (.int .i64 (c.long)), AC.sl 2 0 0 (c.nb) none, AC.sl 3 0 0 (c.nt) none, .v (.int .i64 (c.miss)), .v (.int .i64 (c.good)), .v (.int .i64 (c.fresh))])), some (ABlk.mk true false 107 0 (Cs.lit [.v (.int .i64 x), .v (.int .i64 y)]))], 44, 1000000000000000000000000000000000000000000000000004, [decide (Int.ofNat i < c.nodes) == false, true, true], [])))) :
    ∃ p r, rgR Tryd.prog 1000000000000000000000000000000000000000000000000000 c x y o 1 i p = some r ∧ Q r := by
  rcases Bool.eq_false_or_eq_true (decide (Int.ofNat i < c.nodes)) with h2 | h2
  · have g2 := H.1 h2
    rcases Bool.eq_false_or_eq_true (wE (wiP c (Int.ofNat 1) o (Int.ofNat i)) == Int.ofNat 0) with h4 | h4
    · have g4 := g2.1 h4
      rcases Bool.eq_false_or_eq_true (wR (wiP c (Int.ofNat 1) o (Int.ofNat i)) == Int.ofNat 2) with h6 | h6
      · have g6 := g4.1 h6
        exact ⟨([.b true, .b true, .a, .a, .b true] : List Dec), _, by kernel_rfl, g6⟩
      · have g6 := g4.2 h6
        exact ⟨([.b true, .b true, .a, .a, .b false] : List Dec), _, by kernel_rfl, g6⟩
    · have g4 := g2.2 h4
      exact ⟨([.b true, .b false, .a, .a, .a] : List Dec), _, by kernel_rfl, g4⟩
  · have g2 := H.2 h2
    exact ⟨([.b false] : List Dec), _, by kernel_rfl, g2⟩
abbrev rgS (c : Cfg) (x y o d : Int) (N : Nat) : LSum := ⟨[1, 2, 6, 7, 8], rgIds, mkFr 44 [(1, i64 o), (2, .c (.ptr 1000 0 0)), (6, .c (.ptr 1004 0 0)), (7, u8A d)], rgIds.zip (rgBk c x y), N, .exit 2⟩
theorem rgF (c : Cfg) (x0 y0 x1 y1 o : Int) (Q : VF → Prop) (H : Q (.tup [.c (.v (.int .i64 x1)), .c (.v (.int .i64 y1))], [], 10000000000060000000000000000000000000000000000000005, [true, true, true, true, true, true, true], [LoopV Tryd.prog (loopAt Tryd.prog 50 1) [1, 2, 6, 7, 8] rgIds [some (.c (.v (.int .i64 o))), some (.c (.ptr 1000 0 0)), some (.c (.ptr 1004 0 0)), some (.c (.v (.int .u8 (Int.ofNat 1)))), some (.c (.v (.int .i64 (Int.ofNat 0))))] [some (ABlk.mk false false 107 0 (Cs.lit [.v (.int .i64 (Int.ofNat 1)), .v (.int .i64 (Int.negSucc 0))])), some (ABlk.mk false false 3 1 (Cs.arr (c.np) fun k => List.map AC.v ((fun i => [Value.int .i64 (c.fp i)]) k))), some (ABlk.mk false false 3 1 (Cs.arr (c.ns) fun k => List.map AC.v ((fun i => [Value.int .i64 (c.fs i)]) k))), some (ABlk.mk false false 3 1 (Cs.arr (c.nb) fun k => List.map AC.v ((fun i => [Value.int .i64 (c.fb i)]) k))), some (ABlk.mk false false 47 3 (Cs.arr (c.nt) fun k => List.map AC.v ((fun i => [Value.int .i64 (Station.node (c.ft i)), Value.int .u32 (Station.safe (c.ft i)), Value.int .i64 (Station.hold (c.ft i))]) k))), some (ABlk.mk true false 25 0 (Cs.lit [.v (.int .i64 (c.nodes)), AC.sl 0 0 0 (c.np) none, AC.sl 1 0 0 (c.ns) none, .v (.int .i64 (c.long)), AC.sl 2 0 0 (c.nb) none, AC.sl 3 0 0 (c.nt) none, .v (.int .i64 (c.miss)), .v (.int .i64 (c.good)), .v (.int .i64 (c.fresh))])), some (ABlk.mk true false 107 0 (Cs.lit [.v (.int .i64 x0), .v (.int .i64 y0)]))] 44 100000000000000000000000000000000000000000000000006 (mkFr 44 [(1, i64 o), (2, .c (.ptr 1000 0 0)), (6, .c (.ptr 1004 0 0)), (7, u8A 1)]) (List.zip rgIds (rgBk c x1 y1)) 10000000000000000000000000000000000000000000000000000 (Exit.exit 2) none, LoopV Tryd.prog (loopAt Tryd.prog 50 1) [1, 2, 6, 7, 8] rgIds [some (.c (.v (.int .i64 o))), some (.c (.ptr 1000 0 0)), some (.c (.ptr 1004 0 0)), some (.c (.v (.int .u8 (Int.ofNat 0)))), some (.c (.v (.int .i64 (Int.ofNat 0))))] [some (ABlk.mk false false 107 0 (Cs.lit [.v (.int .i64 (Int.ofNat 1)), .v (.int .i64 (Int.negSucc 0))])), some (ABlk.mk false false 3 1 (Cs.arr (c.np) fun k => List.map AC.v ((fun i => [Value.int .i64 (c.fp i)]) k))), some (ABlk.mk false false 3 1 (Cs.arr (c.ns) fun k => List.map AC.v ((fun i => [Value.int .i64 (c.fs i)]) k))), some (ABlk.mk false false 3 1 (Cs.arr (c.nb) fun k => List.map AC.v ((fun i => [Value.int .i64 (c.fb i)]) k))), some (ABlk.mk false false 47 3 (Cs.arr (c.nt) fun k => List.map AC.v ((fun i => [Value.int .i64 (Station.node (c.ft i)), Value.int .u32 (Station.safe (c.ft i)), Value.int .i64 (Station.hold (c.ft i))]) k))), some (ABlk.mk true false 25 0 (Cs.lit [.v (.int .i64 (c.nodes)), AC.sl 0 0 0 (c.np) none, AC.sl 1 0 0 (c.ns) none, .v (.int .i64 (c.long)), AC.sl 2 0 0 (c.nb) none, AC.sl 3 0 0 (c.nt) none, .v (.int .i64 (c.miss)), .v (.int .i64 (c.good)), .v (.int .i64 (c.fresh))])), some (ABlk.mk true false 107 0 (Cs.lit [.v (.int .i64 (Int.negSucc 0)), .v (.int .i64 (Int.negSucc 0))]))] 44 1010 (mkFr 44 [(1, i64 o), (2, .c (.ptr 1000 0 0)), (6, .c (.ptr 1004 0 0)), (7, u8A 0)]) (List.zip rgIds (rgBk c x0 y0)) 100000000000000000000000000000000000000000000000000 (Exit.exit 2) none])) :
    ∃ p r, cfE (ENrw Tryd.prog) 50 c [i64 o] p [none, some (rgS c x0 y0 o 0 100000000000000000000000000000000000000000000000000), some (rgS c x1 y1 o 1 10000000000000000000000000000000000000000000000000000)] = some r ∧ Q r := by
  exact ⟨([.a, .a, .a] : List Dec), _, by kernel_rfl, H⟩
abbrev roIds : List Nat := [gid 0, 0, 1, 2, 3, 1000]
abbrev roBk (c : Cfg) : List ABlk := [signB, ints 3 c.np c.fp, ints 3 c.ns c.fs, ints 3 c.nb c.fb, sts c.nt c.ft, cfgB c]
abbrev rvV (x d : Int) (i : Nat) : List AV := [.c (.ptr 1000 0 0), i64 x, u8A d, i64 (Int.ofNat i)]
def rvR (P : Program) (nh : Nat) (c : Cfg) (x d : Int) (i : Nat) (path : List Dec) : Option VC :=
  view ([1, 3, 4, 5] ++ []) roIds (fC (ENrw P) 100 (loopAt P 52 1) nh 10000000000000000000000000000000000000000 (stH 30 [1, 3, 4, 5] roIds (rvV x d i) (roBk c) path []))
theorem rv0 (c : Cfg) (x : Int) (i : Nat) (Q : VC → Prop) (H : (((decide (Int.ofNat i < c.nodes)) = true → Q (Exit.normal, [some (lkA (List.zip [1, 3, 4, 5] (rvV x 0 i)) (0 + 1)), some (.c (.v (.int .i64 (if wN (wiP c (Int.ofNat 0) (Int.ofNat 0) (Int.ofNat i)) > x then wN (wiP c (Int.ofNat 0) (Int.ofNat 0) (Int.ofNat i)) else x)))), some (lkA (List.zip [1, 3, 4, 5] (rvV x 0 i)) (0 + 1 + 1 + 1 + 1)), some (.c (.v (.int .i64 (IntKind.wrap .i64 (Int.ofNat i + Int.ofNat 1)))))], [some (ABlk.mk false false 107 0 (Cs.lit [.v (.int .i64 (Int.ofNat 1)), .v (.int .i64 (Int.negSucc 0))])), some (ABlk.mk false false 3 1 (Cs.arr (c.np) fun k => List.map AC.v ((fun i => [Value.int .i64 (c.fp i)]) k))), some (ABlk.mk false false 3 1 (Cs.arr (c.ns) fun k => List.map AC.v ((fun i => [Value.int .i64 (c.fs i)]) k))), some (ABlk.mk false false 3 1 (Cs.arr (c.nb) fun k => List.map AC.v ((fun i => [Value.int .i64 (c.fb i)]) k))), some (ABlk.mk false false 47 3 (Cs.arr (c.nt) fun k => List.map AC.v ((fun i => [Value.int .i64 (Station.node (c.ft i)), Value.int .u32 (Station.safe (c.ft i)), Value.int .i64 (Station.hold (c.ft i))]) k))), some (ABlk.mk true false 25 0 (Cs.lit [.v (.int .i64 (c.nodes)), AC.sl 0 0 0 (c.np) none, AC.sl 1 0 0 (c.ns) none, .v (.int .i64 (c.long)), AC.sl 2 0 0 (c.nb) none, AC.sl 3 0 0 (c.nt) none, .v (.int .i64 (c.miss)), .v (.int .i64 (c.good)), .v (.int .i64 (c.fresh))]))], 30, 1000000000000000000000000000000000000000021, [true, true, true, cfgK c, cwQ (CfgS.mk c [.c (.v (.int .u8 (Int.ofNat 0))), .c (.v (.int .i64 (Int.ofNat 0))), .c (.v (.int .i64 (Int.ofNat i)))]), true, true, true, true, true, true, decide (Int.ofNat i < c.nodes) == true, true, true], [])) ∧ ((decide (Int.ofNat i < c.nodes)) = false → Q (Exit.exit 2, [some (lkA (List.zip [1, 3, 4, 5] (rvV x 0 i)) (0 + 1)), some (lkA (List.zip [1, 3, 4, 5] (rvV x 0 i)) (0 + 1 + 1 + 1)), some (lkA (List.zip [1, 3, 4, 5] (rvV x 0 i)) (0 + 1 + 1 + 1 + 1)), some (lkA (List.zip [1, 3, 4, 5] (rvV x 0 i)) (0 + 1 + 1 + 1 + 1 + 1))], [some (ABlk.mk false false 107 0 (Cs.lit [.v (.int .i64 (Int.ofNat 1)), .v (.int .i64 (Int.negSucc 0))])), some (ABlk.mk false false 3 1 (Cs.arr (c.np) fun k => List.map AC.v ((fun i => [Value.int .i64 (c.fp i)]) k))), some (ABlk.mk false false 3 1 (Cs.arr (c.ns) fun k => List.map AC.v ((fun i => [Value.int .i64 (c.fs i)]) k))), some (ABlk.mk false false 3 1 (Cs.arr (c.nb) fun k => List.map AC.v ((fun i => [Value.int .i64 (c.fb i)]) k))), some (ABlk.mk false false 47 3 (Cs.arr (c.nt) fun k => List.map AC.v ((fun i => [Value.int .i64 (Station.node (c.ft i)), Value.int .u32 (Station.safe (c.ft i)), Value.int .i64 (Station.hold (c.ft i))]) k))), some (ABlk.mk true false 25 0 (Cs.lit [.v (.int .i64 (c.nodes)), AC.sl 0 0 0 (c.np) none, AC.sl 1 0 0 (c.ns) none, .v (.int .i64 (c.long)), AC.sl 2 0 0 (c.nb) none, AC.sl 3 0 0 (c.nt) none, .v (.int .i64 (c.miss)), .v (.int .i64 (c.good)), .v (.int .i64 (c.fresh))]))], 30, 1000000000000000000000000000000000000000004, [decide (Int.ofNat i < c.nodes) == false, true, true], [])))) :
    ∃ p r, rvR Tryd.prog 1000000000000000000000000000000000000000000 c x 0 i p = some r ∧ Q r := by
  rcases Bool.eq_false_or_eq_true (decide (Int.ofNat i < c.nodes)) with h2 | h2
  · have g2 := H.1 h2
    exact ⟨([.b true] : List Dec), _, by kernel_rfl, g2⟩
  · have g2 := H.2 h2
    exact ⟨([.b false] : List Dec), _, by kernel_rfl, g2⟩
theorem rv1 (c : Cfg) (x : Int) (i : Nat) (Q : VC → Prop) (H : (((decide (Int.ofNat i < c.nodes)) = true → Q (Exit.normal, [some (lkA (List.zip [1, 3, 4, 5] (rvV x 1 i)) (0 + 1)), some (.c (.v (.int .i64 (if wN (wiP c (Int.ofNat 1) (Int.ofNat 0) (Int.ofNat i)) > x then wN (wiP c (Int.ofNat 1) (Int.ofNat 0) (Int.ofNat i)) else x)))), some (lkA (List.zip [1, 3, 4, 5] (rvV x 1 i)) (0 + 1 + 1 + 1 + 1)), some (.c (.v (.int .i64 (IntKind.wrap .i64 (Int.ofNat i + Int.ofNat 1)))))], [some (ABlk.mk false false 107 0 (Cs.lit [.v (.int .i64 (Int.ofNat 1)), .v (.int .i64 (Int.negSucc 0))])), some (ABlk.mk false false 3 1 (Cs.arr (c.np) fun k => List.map AC.v ((fun i => [Value.int .i64 (c.fp i)]) k))), some (ABlk.mk false false 3 1 (Cs.arr (c.ns) fun k => List.map AC.v ((fun i => [Value.int .i64 (c.fs i)]) k))), some (ABlk.mk false false 3 1 (Cs.arr (c.nb) fun k => List.map AC.v ((fun i => [Value.int .i64 (c.fb i)]) k))), some (ABlk.mk false false 47 3 (Cs.arr (c.nt) fun k => List.map AC.v ((fun i => [Value.int .i64 (Station.node (c.ft i)), Value.int .u32 (Station.safe (c.ft i)), Value.int .i64 (Station.hold (c.ft i))]) k))), some (ABlk.mk true false 25 0 (Cs.lit [.v (.int .i64 (c.nodes)), AC.sl 0 0 0 (c.np) none, AC.sl 1 0 0 (c.ns) none, .v (.int .i64 (c.long)), AC.sl 2 0 0 (c.nb) none, AC.sl 3 0 0 (c.nt) none, .v (.int .i64 (c.miss)), .v (.int .i64 (c.good)), .v (.int .i64 (c.fresh))]))], 30, 1000000000000000000000000000000000000000000000000021, [true, true, true, cfgK c, cwQ (CfgS.mk c [.c (.v (.int .u8 (Int.ofNat 1))), .c (.v (.int .i64 (Int.ofNat 0))), .c (.v (.int .i64 (Int.ofNat i)))]), true, true, true, true, true, true, decide (Int.ofNat i < c.nodes) == true, true, true], [])) ∧ ((decide (Int.ofNat i < c.nodes)) = false → Q (Exit.exit 2, [some (lkA (List.zip [1, 3, 4, 5] (rvV x 1 i)) (0 + 1)), some (lkA (List.zip [1, 3, 4, 5] (rvV x 1 i)) (0 + 1 + 1 + 1)), some (lkA (List.zip [1, 3, 4, 5] (rvV x 1 i)) (0 + 1 + 1 + 1 + 1)), some (lkA (List.zip [1, 3, 4, 5] (rvV x 1 i)) (0 + 1 + 1 + 1 + 1 + 1))], [some (ABlk.mk false false 107 0 (Cs.lit [.v (.int .i64 (Int.ofNat 1)), .v (.int .i64 (Int.negSucc 0))])), some (ABlk.mk false false 3 1 (Cs.arr (c.np) fun k => List.map AC.v ((fun i => [Value.int .i64 (c.fp i)]) k))), some (ABlk.mk false false 3 1 (Cs.arr (c.ns) fun k => List.map AC.v ((fun i => [Value.int .i64 (c.fs i)]) k))), some (ABlk.mk false false 3 1 (Cs.arr (c.nb) fun k => List.map AC.v ((fun i => [Value.int .i64 (c.fb i)]) k))), some (ABlk.mk false false 47 3 (Cs.arr (c.nt) fun k => List.map AC.v ((fun i => [Value.int .i64 (Station.node (c.ft i)), Value.int .u32 (Station.safe (c.ft i)), Value.int .i64 (Station.hold (c.ft i))]) k))), some (ABlk.mk true false 25 0 (Cs.lit [.v (.int .i64 (c.nodes)), AC.sl 0 0 0 (c.np) none, AC.sl 1 0 0 (c.ns) none, .v (.int .i64 (c.long)), AC.sl 2 0 0 (c.nb) none, AC.sl 3 0 0 (c.nt) none, .v (.int .i64 (c.miss)), .v (.int .i64 (c.good)), .v (.int .i64 (c.fresh))]))], 30, 1000000000000000000000000000000000000000000000000004, [decide (Int.ofNat i < c.nodes) == false, true, true], [])))) :
    ∃ p r, rvR Tryd.prog 1000000000000000000000000000000000000000000000000000 c x 1 i p = some r ∧ Q r := by
  rcases Bool.eq_false_or_eq_true (decide (Int.ofNat i < c.nodes)) with h2 | h2
  · have g2 := H.1 h2
    exact ⟨([.b true] : List Dec), _, by kernel_rfl, g2⟩
  · have g2 := H.2 h2
    exact ⟨([.b false] : List Dec), _, by kernel_rfl, g2⟩
abbrev rvS (c : Cfg) (x d : Int) (N : Nat) : LSum := ⟨[1, 3, 4, 5], roIds, mkFr 30 [(1, .c (.ptr 1000 0 0)), (3, i64 x), (4, u8A d)], roIds.zip (roBk c), N, .exit 2⟩
theorem rvF (c : Cfg) (x0 x1 : Int) (Q : VF → Prop) (H : Q (.c (.v (.int .i64 x1)), [], 10000000000000000000000000000000000000000000000000007, [], [LoopV Tryd.prog (loopAt Tryd.prog 52 1) [1, 3, 4, 5] roIds [some (.c (.ptr 1000 0 0)), some (.c (.v (.int .i64 x0))), some (.c (.v (.int .u8 (Int.ofNat 1)))), some (.c (.v (.int .i64 (Int.ofNat 0))))] [some (ABlk.mk false false 107 0 (Cs.lit [.v (.int .i64 (Int.ofNat 1)), .v (.int .i64 (Int.negSucc 0))])), some (ABlk.mk false false 3 1 (Cs.arr (c.np) fun k => List.map AC.v ((fun i => [Value.int .i64 (c.fp i)]) k))), some (ABlk.mk false false 3 1 (Cs.arr (c.ns) fun k => List.map AC.v ((fun i => [Value.int .i64 (c.fs i)]) k))), some (ABlk.mk false false 3 1 (Cs.arr (c.nb) fun k => List.map AC.v ((fun i => [Value.int .i64 (c.fb i)]) k))), some (ABlk.mk false false 47 3 (Cs.arr (c.nt) fun k => List.map AC.v ((fun i => [Value.int .i64 (Station.node (c.ft i)), Value.int .u32 (Station.safe (c.ft i)), Value.int .i64 (Station.hold (c.ft i))]) k))), some (ABlk.mk true false 25 0 (Cs.lit [.v (.int .i64 (c.nodes)), AC.sl 0 0 0 (c.np) none, AC.sl 1 0 0 (c.ns) none, .v (.int .i64 (c.long)), AC.sl 2 0 0 (c.nb) none, AC.sl 3 0 0 (c.nt) none, .v (.int .i64 (c.miss)), .v (.int .i64 (c.good)), .v (.int .i64 (c.fresh))]))] 30 100000000000000000000000000000000000000000000000006 (mkFr 30 [(1, .c (.ptr 1000 0 0)), (3, i64 x1), (4, u8A 1)]) (List.zip roIds (roBk c)) 10000000000000000000000000000000000000000000000000000 (Exit.exit 2) none, LoopV Tryd.prog (loopAt Tryd.prog 52 1) [1, 3, 4, 5] roIds [some (.c (.ptr 1000 0 0)), some (.c (.v (.int .i64 (Int.ofNat 0)))), some (.c (.v (.int .u8 (Int.ofNat 0)))), some (.c (.v (.int .i64 (Int.ofNat 0))))] [some (ABlk.mk false false 107 0 (Cs.lit [.v (.int .i64 (Int.ofNat 1)), .v (.int .i64 (Int.negSucc 0))])), some (ABlk.mk false false 3 1 (Cs.arr (c.np) fun k => List.map AC.v ((fun i => [Value.int .i64 (c.fp i)]) k))), some (ABlk.mk false false 3 1 (Cs.arr (c.ns) fun k => List.map AC.v ((fun i => [Value.int .i64 (c.fs i)]) k))), some (ABlk.mk false false 3 1 (Cs.arr (c.nb) fun k => List.map AC.v ((fun i => [Value.int .i64 (c.fb i)]) k))), some (ABlk.mk false false 47 3 (Cs.arr (c.nt) fun k => List.map AC.v ((fun i => [Value.int .i64 (Station.node (c.ft i)), Value.int .u32 (Station.safe (c.ft i)), Value.int .i64 (Station.hold (c.ft i))]) k))), some (ABlk.mk true false 25 0 (Cs.lit [.v (.int .i64 (c.nodes)), AC.sl 0 0 0 (c.np) none, AC.sl 1 0 0 (c.ns) none, .v (.int .i64 (c.long)), AC.sl 2 0 0 (c.nb) none, AC.sl 3 0 0 (c.nt) none, .v (.int .i64 (c.miss)), .v (.int .i64 (c.good)), .v (.int .i64 (c.fresh))]))] 30 1007 (mkFr 30 [(1, .c (.ptr 1000 0 0)), (3, i64 x0), (4, u8A 0)]) (List.zip roIds (roBk c)) 100000000000000000000000000000000000000000000000000 (Exit.exit 2) none])) :
    ∃ p r, cfE (ENrw Tryd.prog) 52 c [] p [none, some (rvS c x0 0 100000000000000000000000000000000000000000000000000), some (rvS c x1 1 10000000000000000000000000000000000000000000000000000)] = some r ∧ Q r := by
  exact ⟨([.a, .a, .a] : List Dec), _, by kernel_rfl, H⟩
end Go.Proofs.YtgfmjbfjodidpaaDoor
end
/- sennitref10.Guards, sennitref10.Over, (Window).Pass: sums of loops, contracts. Printed by wip/gen_wie.py. -/
section
namespace Go.Proofs.YtgfmjbfjodidpaaDoor
open Go.RowKit

theorem mod_hit0 {n a i k : Int} (hn : 0 < n) (hi : 0 ≤ i ∧ i < n) (hk : 0 ≤ k ∧ k < n) : (i - a) % n = k ↔ i = (a + k) % n := by
  constructor
  · intro h
    rw [← h, Int.add_comm, Int.emod_add_emod, Int.sub_add_cancel, Int.emod_eq_of_lt hi.1 hi.2]
  · intro h
    rw [h, Int.emod_sub_emod, show a + k - a = k by omega, Int.emod_eq_of_lt hk.1 hk.2]
theorem mod_hit1 {n a i k : Int} (hn : 0 < n) (hi : 0 ≤ i ∧ i < n) (hk : 0 ≤ k ∧ k < n) : (a - i) % n = k ↔ i = (a - k) % n := by
  constructor
  · intro h
    rw [← h, Int.sub_emod, Int.emod_emod_of_dvd _ (Int.dvd_refl n), ← Int.sub_emod, show a - (a - i) = i by omega, Int.emod_eq_of_lt hi.1 hi.2]
  · intro h
    rw [h, Int.sub_emod, Int.emod_emod_of_dvd _ (Int.dvd_refl n), ← Int.sub_emod, show a - (a - k) = k by omega, Int.emod_eq_of_lt hk.1 hk.2]
theorem head_in {c : Cfg} (h : headsOk c = true) (o : Int) : (0 ≤ o ∧ o < c.np ∧ 0 ≤ atF c.fp c.np o ∧ atF c.fp c.np o < c.nodes) ∨ (¬ (0 ≤ o ∧ o < c.np) ∧ atF c.fp c.np o = -1) := by
  obtain ⟨n4, n16, hf⟩ := heads_ok h
  by_cases g : 0 ≤ o ∧ o < c.np
  · have i1 := hf o.toNat (by omega)
    have e : atF c.fp c.np o = c.fp o.toNat := by unfold atF; rw [if_pos g]
    rw [e]
    exact .inl ⟨g.1, g.2, i1⟩
  · refine .inr ⟨g, ?_⟩
    unfold atF; rw [if_neg g]
/-- a place, of a node in a direction: as it is, or none -/
theorem wiP0 {c : Cfg} (h : headsOk c = true) {o i : Int} (hi : 0 ≤ i ∧ i < c.nodes) : wiP c 0 o i = if 0 ≤ o ∧ o < c.np then (i - atF c.fp c.np o) % c.nodes else -1 := by
  obtain ⟨n4, n16, hf⟩ := heads_ok h
  unfold wiP placeF
  rcases head_in h o with ⟨g1, g2, g3, g4⟩ | ⟨g1, g2⟩
  · rw [if_pos (by simp [ringB, nodeB]; omega), if_pos rfl, if_pos ⟨g1, g2⟩]
  · rw [if_neg (by rw [g2]; simp [nodeB]), if_neg g1]
theorem wiP1 {c : Cfg} (h : headsOk c = true) {o i : Int} (hi : 0 ≤ i ∧ i < c.nodes) : wiP c 1 o i = if 0 ≤ o ∧ o < c.np then (atF c.fp c.np o + 1 - i) % c.nodes else -1 := by
  obtain ⟨n4, n16, hf⟩ := heads_ok h
  unfold wiP placeF
  rcases head_in h o with ⟨g1, g2, g3, g4⟩ | ⟨g1, g2⟩
  · rw [if_pos (by simp [ringB, nodeB]; omega), if_neg (by decide), if_pos ⟨g1, g2⟩]
  · rw [if_neg (by rw [g2]; simp [nodeB]), if_neg g1]
theorem gd_hit0 {c : Cfg} (h : headsOk c = true) {o i : Int} (hi : 0 ≤ i ∧ i < c.nodes) : (wE (wiP c 0 o i) = 0 ∧ wR (wiP c 0 o i) = 2) ↔ i = gdC c o := by
  obtain ⟨n4, n16, hf⟩ := heads_ok h
  rw [wiP0 h hi]
  unfold gdC
  by_cases g : 0 ≤ o ∧ o < c.np
  · rw [if_pos g, if_pos g, ← mod_hit0 (a := atF c.fp c.np o) (by omega) hi (k := 2) (by omega)]
    have m1 := Int.emod_nonneg (i - atF c.fp c.np o) (show c.nodes ≠ 0 by omega)
    generalize (i - atF c.fp c.np o) % c.nodes = p at *
    unfold wE wR
    repeat' split
    all_goals omega
  · rw [if_neg g, if_neg g]
    simp [wE]
    omega
theorem gd_hit1 {c : Cfg} (h : headsOk c = true) {o i : Int} (hi : 0 ≤ i ∧ i < c.nodes) : (wE (wiP c 1 o i) = 0 ∧ wR (wiP c 1 o i) = 2) ↔ i = gdW c o := by
  obtain ⟨n4, n16, hf⟩ := heads_ok h
  rw [wiP1 h hi]
  unfold gdW
  by_cases g : 0 ≤ o ∧ o < c.np
  · rw [if_pos g, if_pos g, show atF c.fp c.np o - 1 = atF c.fp c.np o + 1 - 2 by omega, ← mod_hit1 (a := atF c.fp c.np o + 1) (by omega) hi (k := 2) (by omega)]
    have m1 := Int.emod_nonneg (atF c.fp c.np o + 1 - i) (show c.nodes ≠ 0 by omega)
    generalize (atF c.fp c.np o + 1 - i) % c.nodes = p at *
    unfold wE wR
    repeat' split
    all_goals omega
  · rw [if_neg g, if_neg g]
    simp [wE]
    omega
theorem gd_in {c : Cfg} (h : headsOk c = true) (o : Int) : (-1 ≤ gdC c o ∧ gdC c o < c.nodes) ∧ (-1 ≤ gdW c o ∧ gdW c o < c.nodes) := by
  obtain ⟨n4, n16, hf⟩ := heads_ok h
  have m1 := Int.emod_nonneg (atF c.fp c.np o + 2) (show c.nodes ≠ 0 by omega)
  have m2 := Int.emod_lt_of_pos (atF c.fp c.np o + 2) (show 0 < c.nodes by omega)
  have m3 := Int.emod_nonneg (atF c.fp c.np o - 1) (show c.nodes ≠ 0 by omega)
  have m4 := Int.emod_lt_of_pos (atF c.fp c.np o - 1) (show 0 < c.nodes by omega)
  unfold gdC gdW
  refine ⟨?_, ?_⟩ <;> split <;> omega
/-- what was seen up to there -/
def seenF (g : Int) (i : Nat) : Int := if 0 ≤ g ∧ g < i then g else -1
theorem seen_hit {g : Int} {i : Nat} (h : (i : Int) = g) : seenF g (i + 1) = (i : Int) := by unfold seenF; rw [if_pos (by omega)]; omega
theorem seen_no {g : Int} {i : Nat} (h : (i : Int) ≠ g) : seenF g (i + 1) = seenF g i := by
  unfold seenF
  by_cases g1 : 0 ≤ g ∧ g < i
  · rw [if_pos g1, if_pos (by omega)]
  · rw [if_neg g1, if_neg (by omega)]
/-- the greatest number up to there -/
def mxF (x0 : Int) (f : Nat → Int) : Nat → Int
  | 0 => x0
  | k + 1 => if f k > mxF x0 f k then f k else mxF x0 f k
theorem mxF_le {x0 M : Int} {f : Nat → Int} (h0 : x0 ≤ M) : ∀ {n : Nat}, (∀ i, i < n → f i ≤ M) → mxF x0 f n ≤ M
  | 0, _ => h0
  | n + 1, h => by
    have h1 := mxF_le h0 (n := n) fun i hi => h i (by omega)
    have h2 := h n (by omega)
    unfold mxF
    split <;> omega
theorem mxF_ge {x0 : Int} {f : Nat → Int} : ∀ {n : Nat}, x0 ≤ mxF x0 f n ∧ ∀ i, i < n → f i ≤ mxF x0 f n
  | 0 => ⟨Int.le_refl _, fun i hi => absurd hi (by omega)⟩
  | n + 1 => by
    obtain ⟨h1, h2⟩ := mxF_ge (x0 := x0) (f := f) (n := n)
    have key : mxF x0 f n ≤ mxF x0 f (n + 1) ∧ f n ≤ mxF x0 f (n + 1) := by
      show mxF x0 f n ≤ (if f n > mxF x0 f n then f n else mxF x0 f n) ∧ f n ≤ (if f n > mxF x0 f n then f n else mxF x0 f n)
      split <;> omega
    refine ⟨by omega, fun i hi => ?_⟩
    by_cases e : i = n
    · subst e; exact key.2
    · have := h2 i (by omega); omega
theorem mxF_eq {x0 M : Int} {f : Nat → Int} {n : Nat} (h0 : x0 ≤ M) (h : ∀ i, i < n → f i ≤ M) (h1 : x0 = M ∨ ∃ i, i < n ∧ f i = M) : mxF x0 f n = M := by
  have a := mxF_le h0 h
  obtain ⟨b, d⟩ := mxF_ge (x0 := x0) (f := f) (n := n)
  rcases h1 with h1 | ⟨i, hi, h1⟩
  · omega
  · have := d i hi; omega
theorem wN_le {c : Cfg} (h : headsOk c = true) {d o i : Int} : wN (wiP c d o i) ≤ c.nodes + 114 := by
  obtain ⟨n4, n16, hf⟩ := heads_ok h
  obtain ⟨b1, b2, b3⟩ := place_in (n := c.nodes) (d := d) (a := atF c.fp c.np o) (b := i)
  unfold wiP
  generalize placeF c.nodes d (atF c.fp c.np o) i = p at *
  unfold wN
  split <;> omega
/-- there is a last place -/
theorem wN_hit0 {c : Cfg} (h : headsOk c = true) {o : Int} (ho : 0 ≤ o ∧ o < c.np) : ∃ i : Nat, i < c.nodes.toNat ∧ wN (wiP c 0 o (i : Int)) = c.nodes + 114 := by
  obtain ⟨n4, n16, hf⟩ := heads_ok h
  have m1 := Int.emod_nonneg (atF c.fp c.np o + (c.nodes - 1)) (show c.nodes ≠ 0 by omega)
  have m2 := Int.emod_lt_of_pos (atF c.fp c.np o + (c.nodes - 1)) (show 0 < c.nodes by omega)
  refine ⟨((atF c.fp c.np o + (c.nodes - 1)) % c.nodes).toNat, by omega, ?_⟩
  rw [Int.toNat_of_nonneg m1, wiP0 h ⟨m1, m2⟩, if_pos ho, (mod_hit0 (a := atF c.fp c.np o) (k := c.nodes - 1) (by omega) ⟨m1, m2⟩ (by omega)).2 rfl]
  unfold wN
  rw [if_neg (by omega)]
  omega
theorem wN_hit1 {c : Cfg} (h : headsOk c = true) {o : Int} (ho : 0 ≤ o ∧ o < c.np) : ∃ i : Nat, i < c.nodes.toNat ∧ wN (wiP c 1 o (i : Int)) = c.nodes + 114 := by
  obtain ⟨n4, n16, hf⟩ := heads_ok h
  have m1 := Int.emod_nonneg (atF c.fp c.np o + 1 - (c.nodes - 1)) (show c.nodes ≠ 0 by omega)
  have m2 := Int.emod_lt_of_pos (atF c.fp c.np o + 1 - (c.nodes - 1)) (show 0 < c.nodes by omega)
  refine ⟨((atF c.fp c.np o + 1 - (c.nodes - 1)) % c.nodes).toNat, by omega, ?_⟩
  rw [Int.toNat_of_nonneg m1, wiP1 h ⟨m1, m2⟩, if_pos ho, (mod_hit1 (a := atF c.fp c.np o + 1) (k := c.nodes - 1) (by omega) ⟨m1, m2⟩ (by omega)).2 rfl]
  unfold wN
  rw [if_neg (by omega)]
  omega
theorem mx_end {c : Cfg} (h : headsOk c = true) {d o : Int} (hd : d = 0 ∨ d = 1) (ho : 0 ≤ o ∧ o < c.np) {x0 : Int} (hx : x0 ≤ c.nodes + 114) : mxF x0 (fun i => wN (wiP c d o (Int.ofNat i))) c.nodes.toNat = c.nodes + 114 := by
  refine mxF_eq hx (fun i _ => wN_le h) (.inr ?_)
  rcases hd with rfl | rfl
  · exact wN_hit0 h ho
  · exact wN_hit1 h ho
theorem rgBk_low {c : Cfg} {x y : Int} {n : Nat} (hn : 4 ≤ n) : ∀ b ∈ rgBk c x y, lowB n b := by
  intro b hb
  simp only [List.mem_cons, List.not_mem_nil, or_false] at hb
  rcases hb with rfl | rfl | rfl | rfl | rfl | rfl | rfl
  · exact low_lit rfl
  · exact rBlk_low
  · exact rBlk_low
  · exact rBlk_low
  · exact rBlk_low
  · exact cfgB_low hn
  · exact low_lit rfl
theorem roBk_low {c : Cfg} {n : Nat} (hn : 4 ≤ n) : ∀ b ∈ roBk c, lowB n b := by
  intro b hb
  simp only [List.mem_cons, List.not_mem_nil, or_false] at hb
  rcases hb with rfl | rfl | rfl | rfl | rfl | rfl
  · exact low_lit rfl
  · exact rBlk_low
  · exact rBlk_low
  · exact rBlk_low
  · exact rBlk_low
  · exact cfgB_low hn
/-- at the end each block that is looked at stays -/
theorem mem_end {ids : List Nat} {bs : List ABlk} {n n' : Nat} (hk : ids.all (keptB n n') = true) (hl : ∀ b ∈ bs, lowB n b) : ∀ p ∈ ids.zip bs, keptB n n' p.1 = true ∧ lowB n p.2 ∧ ∃ y, (p.1, some y) ∈ ids.zip (bs.map some) ∧ BEq y p.2 := fun p hp =>
  ⟨List.all_eq_true.1 hk _ (List.of_mem_zip hp).1, hl _ (List.of_mem_zip hp).2, p.2, zip_some_mem hp, BEq.refl _⟩
theorem rg_sum0 (c : Cfg) (o : Int) (hp : wiPre c 1 = true) {eblks : List (Option ABlk)} (heb : BL (rgBk c (seenF (gdC c o) 0) (-1)) eblks) :
    LoopV Tryd.prog (loopAt Tryd.prog 50 1) [1, 2, 6, 7, 8] rgIds ((rgV o 0 0).map some) eblks 44 1010 (mkFr 44 [(1, i64 o), (2, .c (.ptr 1000 0 0)), (6, .c (.ptr 1004 0 0)), (7, u8A 0)]) (rgIds.zip (rgBk c (gdC c o) (-1))) 100000000000000000000000000000000000000000000000000 (.exit 2) none := by
  have hh : headsOk c = true := by simp only [wiPre, Bool.and_eq_true] at hp; exact hp.2
  obtain ⟨n4, n16, hf⟩ := heads_ok hh
  refine loop_viewE hENrw (fuel := 100) (str := 10000000000000000000000000000000000000000) (nh := 1000000000000000000000000000000000000000000) (n := 1010) (n' := 100000000000000000000000000000000000000000000000000) (S := Nat) (fun i => i ≤ c.nodes.toNat) (fun i => c.nodes.toNat - i) [1, 2, 6, 7, 8] [] rgIds (fun i => rgV o 0 i) (fun i => rgBk c (seenF (gdC c o) i) (-1)) (by decide) (by decide) (by unfold lim; omega) (s0 := 0) (by omega) (fun _ => ⟨rfl, rfl⟩) (by kernel_rfl) heb (fun i _ => ⟨rfl, rgBk_low (by omega)⟩) ?_
  intro i hi
  refine (?_ : (∃ p r, rgR Tryd.prog 1000000000000000000000000000000000000000000 c (seenF (gdC c o) i) (-1) o 0 i p = some r ∧ _) → _) (rg0 c (seenF (gdC c o) i) (-1) o i (StepV 1010 100000000000000000000000000000000000000000000000000 44 [1, 2, 6, 7, 8] [] rgIds (fun i => i ≤ c.nodes.toNat) (fun i => c.nodes.toNat - i) (fun i => rgV o 0 i) (fun i => rgBk c (seenF (gdC c o) i) (-1)) (.exit 2) [(1, i64 o), (2, .c (.ptr 1000 0 0)), (6, .c (.ptr 1004 0 0)), (7, u8A 0)] (rgIds.zip (rgBk c (gdC c o) (-1))) i) ?_)
  · rintro ⟨p, r, h1, h2⟩
    exact ⟨p, [], r, h1, h2⟩
  · have hw : IntKind.wrap IntKind.i64 (Int.ofNat i + Int.ofNat 1) = Int.ofNat (i + 1) := wrap_nat1 i (by omega)
    have hit := fun h => gd_hit0 hh (o := o) (i := (i : Int)) h
    have hin := gd_in hh o
    simp only [hw]
    (repeat' (first | refine ⟨fun h => ?_, fun h => ?_⟩ | fail))
    all_goals (simp only [decide_eq_true_eq, decide_eq_false_iff_not, beq_iff_eq, beq_eq_false_iff_ne, ne_eq, Int.ofNat_eq_natCast, Int.cast_ofNat_Int] at *)
    · rename_i c1 c2
      have e : (i : Int) = gdC c o := (hit (by omega)).1 ⟨c2, h⟩
      have hs := seen_hit e
      refine ⟨?_, rfl, by dsimp only; omega, rfl, .inl ⟨rfl, i + 1, by omega, by show c.nodes.toNat - (i + 1) < c.nodes.toNat - i; omega, by simp [rgV, lkA, i64], ?_⟩⟩
      · simp [allT, cfgK_t, cwQ_eq, hp, c1, c2, h]
      · dsimp only
        rw [hs]
        exact BL.refl (rgBk c (i : Int) (-1))
    · rename_i c1 c2
      have e : ¬ (i : Int) = gdC c o := fun e => h ((hit (by omega)).2 e).2
      have hs := seen_no e
      refine ⟨?_, rfl, by dsimp only; omega, rfl, .inl ⟨rfl, i + 1, by omega, by show c.nodes.toNat - (i + 1) < c.nodes.toNat - i; omega, by simp [rgV, lkA, i64], ?_⟩⟩
      · simp [allT, cfgK_t, cwQ_eq, hp, c1, c2, h]
      · dsimp only
        rw [hs]
        exact BL.refl (rgBk c (seenF (gdC c o) i) (-1))
    · rename_i c1
      have e : ¬ (i : Int) = gdC c o := fun e => h ((hit (by omega)).2 e).1
      have hs := seen_no e
      refine ⟨?_, rfl, by dsimp only; omega, rfl, .inl ⟨rfl, i + 1, by omega, by show c.nodes.toNat - (i + 1) < c.nodes.toNat - i; omega, by simp [rgV, lkA, i64], ?_⟩⟩
      · simp [allT, cfgK_t, cwQ_eq, hp, c1, h]
      · dsimp only
        rw [hs]
        exact BL.refl (rgBk c (seenF (gdC c o) i) (-1))
    · have e : seenF (gdC c o) i = gdC c o := by
        unfold seenF
        split <;> omega
      rw [e]
      refine ⟨by simp [allT, h], rfl, by dsimp only; omega, rfl, .inr ⟨by simp, rfl, fun q hq => ?_, mem_end (by kernel_rfl) (rgBk_low (by omega))⟩⟩
      simp only [List.mem_cons, List.not_mem_nil, or_false] at hq
      rcases hq with rfl | rfl | rfl | rfl <;> exact ⟨rfl, by simp [lkA]⟩

theorem rg_sum1 (c : Cfg) (o : Int) (x : Int) (hp : wiPre c 1 = true) {eblks : List (Option ABlk)} (heb : BL (rgBk c x (seenF (gdW c o) 0)) eblks) :
    LoopV Tryd.prog (loopAt Tryd.prog 50 1) [1, 2, 6, 7, 8] rgIds ((rgV o 1 0).map some) eblks 44 100000000000000000000000000000000000000000000000006 (mkFr 44 [(1, i64 o), (2, .c (.ptr 1000 0 0)), (6, .c (.ptr 1004 0 0)), (7, u8A 1)]) (rgIds.zip (rgBk c x (gdW c o))) 10000000000000000000000000000000000000000000000000000 (.exit 2) none := by
  have hh : headsOk c = true := by simp only [wiPre, Bool.and_eq_true] at hp; exact hp.2
  obtain ⟨n4, n16, hf⟩ := heads_ok hh
  refine loop_viewE hENrw (fuel := 100) (str := 10000000000000000000000000000000000000000) (nh := 1000000000000000000000000000000000000000000000000000) (n := 100000000000000000000000000000000000000000000000006) (n' := 10000000000000000000000000000000000000000000000000000) (S := Nat) (fun i => i ≤ c.nodes.toNat) (fun i => c.nodes.toNat - i) [1, 2, 6, 7, 8] [] rgIds (fun i => rgV o 1 i) (fun i => rgBk c x (seenF (gdW c o) i)) (by decide) (by decide) (by unfold lim; omega) (s0 := 0) (by omega) (fun _ => ⟨rfl, rfl⟩) (by kernel_rfl) heb (fun i _ => ⟨rfl, rgBk_low (by omega)⟩) ?_
  intro i hi
  refine (?_ : (∃ p r, rgR Tryd.prog 1000000000000000000000000000000000000000000000000000 c x (seenF (gdW c o) i) o 1 i p = some r ∧ _) → _) (rg1 c x (seenF (gdW c o) i) o i (StepV 100000000000000000000000000000000000000000000000006 10000000000000000000000000000000000000000000000000000 44 [1, 2, 6, 7, 8] [] rgIds (fun i => i ≤ c.nodes.toNat) (fun i => c.nodes.toNat - i) (fun i => rgV o 1 i) (fun i => rgBk c x (seenF (gdW c o) i)) (.exit 2) [(1, i64 o), (2, .c (.ptr 1000 0 0)), (6, .c (.ptr 1004 0 0)), (7, u8A 1)] (rgIds.zip (rgBk c x (gdW c o))) i) ?_)
  · rintro ⟨p, r, h1, h2⟩
    exact ⟨p, [], r, h1, h2⟩
  · have hw : IntKind.wrap IntKind.i64 (Int.ofNat i + Int.ofNat 1) = Int.ofNat (i + 1) := wrap_nat1 i (by omega)
    have hit := fun h => gd_hit1 hh (o := o) (i := (i : Int)) h
    have hin := gd_in hh o
    simp only [hw]
    (repeat' (first | refine ⟨fun h => ?_, fun h => ?_⟩ | fail))
    all_goals (simp only [decide_eq_true_eq, decide_eq_false_iff_not, beq_iff_eq, beq_eq_false_iff_ne, ne_eq, Int.ofNat_eq_natCast, Int.cast_ofNat_Int] at *)
    · rename_i c1 c2
      have e : (i : Int) = gdW c o := (hit (by omega)).1 ⟨c2, h⟩
      have hs := seen_hit e
      refine ⟨?_, rfl, by dsimp only; omega, rfl, .inl ⟨rfl, i + 1, by omega, by show c.nodes.toNat - (i + 1) < c.nodes.toNat - i; omega, by simp [rgV, lkA, i64], ?_⟩⟩
      · simp [allT, cfgK_t, cwQ_eq, hp, c1, c2, h]
      · dsimp only
        rw [hs]
        exact BL.refl (rgBk c x (i : Int))
    · rename_i c1 c2
      have e : ¬ (i : Int) = gdW c o := fun e => h ((hit (by omega)).2 e).2
      have hs := seen_no e
      refine ⟨?_, rfl, by dsimp only; omega, rfl, .inl ⟨rfl, i + 1, by omega, by show c.nodes.toNat - (i + 1) < c.nodes.toNat - i; omega, by simp [rgV, lkA, i64], ?_⟩⟩
      · simp [allT, cfgK_t, cwQ_eq, hp, c1, c2, h]
      · dsimp only
        rw [hs]
        exact BL.refl (rgBk c x (seenF (gdW c o) i))
    · rename_i c1
      have e : ¬ (i : Int) = gdW c o := fun e => h ((hit (by omega)).2 e).1
      have hs := seen_no e
      refine ⟨?_, rfl, by dsimp only; omega, rfl, .inl ⟨rfl, i + 1, by omega, by show c.nodes.toNat - (i + 1) < c.nodes.toNat - i; omega, by simp [rgV, lkA, i64], ?_⟩⟩
      · simp [allT, cfgK_t, cwQ_eq, hp, c1, h]
      · dsimp only
        rw [hs]
        exact BL.refl (rgBk c x (seenF (gdW c o) i))
    · have e : seenF (gdW c o) i = gdW c o := by
        unfold seenF
        split <;> omega
      rw [e]
      refine ⟨by simp [allT, h], rfl, by dsimp only; omega, rfl, .inr ⟨by simp, rfl, fun q hq => ?_, mem_end (by kernel_rfl) (rgBk_low (by omega))⟩⟩
      simp only [List.mem_cons, List.not_mem_nil, or_false] at hq
      rcases hq with rfl | rfl | rfl | rfl <;> exact ⟨rfl, by simp [lkA]⟩

theorem rv_sum0 (c : Cfg) (x : Int) (hp : wiPre c 1 = true) {eblks : List (Option ABlk)} (heb : BL (roBk c) eblks) :
    LoopV Tryd.prog (loopAt Tryd.prog 52 1) [1, 3, 4, 5] roIds ((rvV x 0 0).map some) eblks 30 1007 (mkFr 30 [(1, .c (.ptr 1000 0 0)), (3, i64 (mxF x (fun i => wN (wiP c 0 0 (Int.ofNat i))) c.nodes.toNat)), (4, u8A 0)]) (roIds.zip (roBk c)) 100000000000000000000000000000000000000000000000000 (.exit 2) none := by
  have hh : headsOk c = true := by simp only [wiPre, Bool.and_eq_true] at hp; exact hp.2
  obtain ⟨n4, n16, hf⟩ := heads_ok hh
  refine loop_viewE hENrw (fuel := 100) (str := 10000000000000000000000000000000000000000) (nh := 1000000000000000000000000000000000000000000) (n := 1007) (n' := 100000000000000000000000000000000000000000000000000) (S := Nat) (fun i => i ≤ c.nodes.toNat) (fun i => c.nodes.toNat - i) [1, 3, 4, 5] [] roIds (fun i => rvV (mxF x (fun i => wN (wiP c 0 0 (Int.ofNat i))) i) 0 i) (fun i => roBk c) (by decide) (by decide) (by unfold lim; omega) (s0 := 0) (by omega) (fun _ => ⟨rfl, rfl⟩) (by kernel_rfl) heb (fun i _ => ⟨rfl, roBk_low (by omega)⟩) ?_
  intro i hi
  refine (?_ : (∃ p r, rvR Tryd.prog 1000000000000000000000000000000000000000000 c (mxF x (fun i => wN (wiP c 0 0 (Int.ofNat i))) i) 0 i p = some r ∧ _) → _) (rv0 c (mxF x (fun i => wN (wiP c 0 0 (Int.ofNat i))) i) i (StepV 1007 100000000000000000000000000000000000000000000000000 30 [1, 3, 4, 5] [] roIds (fun i => i ≤ c.nodes.toNat) (fun i => c.nodes.toNat - i) (fun i => rvV (mxF x (fun i => wN (wiP c 0 0 (Int.ofNat i))) i) 0 i) (fun i => roBk c) (.exit 2) [(1, .c (.ptr 1000 0 0)), (3, i64 (mxF x (fun i => wN (wiP c 0 0 (Int.ofNat i))) c.nodes.toNat)), (4, u8A 0)] (roIds.zip (roBk c)) i) ?_)
  · rintro ⟨p, r, h1, h2⟩
    exact ⟨p, [], r, h1, h2⟩
  · have hw : IntKind.wrap IntKind.i64 (Int.ofNat i + Int.ofNat 1) = Int.ofNat (i + 1) := wrap_nat1 i (by omega)
    simp only [hw]
    (repeat' (first | refine ⟨fun h => ?_, fun h => ?_⟩ | fail))
    · have h' : (i : Int) < c.nodes := by simpa using h
      refine ⟨?_, rfl, by dsimp only; omega, rfl, .inl ⟨rfl, i + 1, by omega, by show c.nodes.toNat - (i + 1) < c.nodes.toNat - i; omega, rfl, BL.refl (roBk c)⟩⟩
      simp [allT, cfgK_t, cwQ_eq, hp, h']
    · have h' : ¬ (i : Int) < c.nodes := by simpa using h
      obtain rfl : i = c.nodes.toNat := by omega
      refine ⟨by simp [allT]; omega, rfl, by dsimp only; omega, rfl, .inr ⟨by simp, rfl, fun q hq => ?_, mem_end (by kernel_rfl) (roBk_low (by omega))⟩⟩
      simp only [List.mem_cons, List.not_mem_nil, or_false] at hq
      rcases hq with rfl | rfl | rfl <;> exact ⟨rfl, by simp [lkA]⟩

theorem rv_sum1 (c : Cfg) (x : Int) (hp : wiPre c 1 = true) {eblks : List (Option ABlk)} (heb : BL (roBk c) eblks) :
    LoopV Tryd.prog (loopAt Tryd.prog 52 1) [1, 3, 4, 5] roIds ((rvV x 1 0).map some) eblks 30 100000000000000000000000000000000000000000000000006 (mkFr 30 [(1, .c (.ptr 1000 0 0)), (3, i64 (mxF x (fun i => wN (wiP c 1 0 (Int.ofNat i))) c.nodes.toNat)), (4, u8A 1)]) (roIds.zip (roBk c)) 10000000000000000000000000000000000000000000000000000 (.exit 2) none := by
  have hh : headsOk c = true := by simp only [wiPre, Bool.and_eq_true] at hp; exact hp.2
  obtain ⟨n4, n16, hf⟩ := heads_ok hh
  refine loop_viewE hENrw (fuel := 100) (str := 10000000000000000000000000000000000000000) (nh := 1000000000000000000000000000000000000000000000000000) (n := 100000000000000000000000000000000000000000000000006) (n' := 10000000000000000000000000000000000000000000000000000) (S := Nat) (fun i => i ≤ c.nodes.toNat) (fun i => c.nodes.toNat - i) [1, 3, 4, 5] [] roIds (fun i => rvV (mxF x (fun i => wN (wiP c 1 0 (Int.ofNat i))) i) 1 i) (fun i => roBk c) (by decide) (by decide) (by unfold lim; omega) (s0 := 0) (by omega) (fun _ => ⟨rfl, rfl⟩) (by kernel_rfl) heb (fun i _ => ⟨rfl, roBk_low (by omega)⟩) ?_
  intro i hi
  refine (?_ : (∃ p r, rvR Tryd.prog 1000000000000000000000000000000000000000000000000000 c (mxF x (fun i => wN (wiP c 1 0 (Int.ofNat i))) i) 1 i p = some r ∧ _) → _) (rv1 c (mxF x (fun i => wN (wiP c 1 0 (Int.ofNat i))) i) i (StepV 100000000000000000000000000000000000000000000000006 10000000000000000000000000000000000000000000000000000 30 [1, 3, 4, 5] [] roIds (fun i => i ≤ c.nodes.toNat) (fun i => c.nodes.toNat - i) (fun i => rvV (mxF x (fun i => wN (wiP c 1 0 (Int.ofNat i))) i) 1 i) (fun i => roBk c) (.exit 2) [(1, .c (.ptr 1000 0 0)), (3, i64 (mxF x (fun i => wN (wiP c 1 0 (Int.ofNat i))) c.nodes.toNat)), (4, u8A 1)] (roIds.zip (roBk c)) i) ?_)
  · rintro ⟨p, r, h1, h2⟩
    exact ⟨p, [], r, h1, h2⟩
  · have hw : IntKind.wrap IntKind.i64 (Int.ofNat i + Int.ofNat 1) = Int.ofNat (i + 1) := wrap_nat1 i (by omega)
    simp only [hw]
    (repeat' (first | refine ⟨fun h => ?_, fun h => ?_⟩ | fail))
    · have h' : (i : Int) < c.nodes := by simpa using h
      refine ⟨?_, rfl, by dsimp only; omega, rfl, .inl ⟨rfl, i + 1, by omega, by show c.nodes.toNat - (i + 1) < c.nodes.toNat - i; omega, rfl, BL.refl (roBk c)⟩⟩
      simp [allT, cfgK_t, cwQ_eq, hp, h']
    · have h' : ¬ (i : Int) < c.nodes := by simpa using h
      obtain rfl : i = c.nodes.toNat := by omega
      refine ⟨by simp [allT]; omega, rfl, by dsimp only; omega, rfl, .inr ⟨by simp, rfl, fun q hq => ?_, mem_end (by kernel_rfl) (roBk_low (by omega))⟩⟩
      simp only [List.mem_cons, List.not_mem_nil, or_false] at hq
      rcases hq with rfl | rfl | rfl <;> exact ⟨rfl, by simp [lkA]⟩

end Go.Proofs.YtgfmjbfjodidpaaDoor
end
