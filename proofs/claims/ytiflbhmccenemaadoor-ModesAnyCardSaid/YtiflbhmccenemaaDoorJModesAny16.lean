/- Parts, one behind the other. sennitref04.New as the evaluator runs it: a boot, or a station, is wrong. -/
import Derived.Test.YtiflbhmccenemaaDoorJModesAny15
set_option linter.unusedSimpArgs false
set_option linter.unusedVariables false
/- sennitref04.New as the evaluator runs it: a boot, or a station, is wrong. -/
section
namespace Go.Proofs.YtiflbhmccenemaaDoor
open Go.RowKit

abbrev n4S1 (e : Exit) (l : List (Nat × AV)) (mF : AMem) : LSum := ⟨[1, 4], [2, 1000, 3], mkFr 125 l, mF, 100000000000000000000000000000000000000000000000000, e⟩
abbrev n4S2 (e : Exit) (l : List (Nat × AV)) (mF : AMem) : LSum := ⟨[1, 5], [3, 1000], mkFr 125 l, mF, 10000000000000000000000000000000000000000000000000000, e⟩
def n4R (P : Program) (c : Cfg) (lp : List (Option LSum)) (path : List Dec) : Option VF := viewF [] (fCallF (ENq P) (fC (ENq P) 300) 16 [.agg (cfgC c)] 1000 10000000000000000000000000000000000000000 (stA (cfgM c) path lp))
theorem n4A (c : Cfg) (v : Int) (Q : VF → Prop) (H : (((withinF (Cfg.nodes c) (Int.ofNat 4) (Int.ofNat 16) != Int.ofNat 0) = true → Q (AV.c (AC.v (Value.int IntKind.i64 (withinF (Cfg.nodes c) (Int.ofNat 4) (Int.ofNat 16)))), [], 1009, [(withinF (Cfg.nodes c) (Int.ofNat 4) (Int.ofNat 16) != Int.ofNat 0) == true, true, true], [])) ∧ ((withinF (Cfg.nodes c) (Int.ofNat 4) (Int.ofNat 16) != Int.ofNat 0) = false → (((withinF (↑(Cfg.np c)) (Int.ofNat 2) (Int.ofNat 8) != Int.ofNat 0) = true → Q (AV.c (AC.v (Value.int IntKind.i64 (withinF (↑(Cfg.np c)) (Int.ofNat 2) (Int.ofNat 8)))), [], 1015, [(withinF (↑(Cfg.np c)) (Int.ofNat 2) (Int.ofNat 8) != Int.ofNat 0) == true, true, (withinF (Cfg.nodes c) (Int.ofNat 4) (Int.ofNat 16) != Int.ofNat 0) == false, true, true], [])) ∧ ((withinF (↑(Cfg.np c)) (Int.ofNat 2) (Int.ofNat 8) != Int.ofNat 0) = false → (((!pairs4 c) = true → Q (AV.c (AC.v (Value.int IntKind.i64 (Int.ofNat 1))), [], 1016, [(!pairs4 c) == true, cfgK c, okPr c, true, true, true, true, true, true, (withinF (↑(Cfg.np c)) (Int.ofNat 2) (Int.ofNat 8) != Int.ofNat 0) == false, true, (withinF (Cfg.nodes c) (Int.ofNat 4) (Int.ofNat 16) != Int.ofNat 0) == false, true, true], [])) ∧ ((!pairs4 c) = false → (((withinF (↑(Cfg.ns c)) (Int.ofNat 1) (Int.ofNat 16) != Int.ofNat 0) = true → Q (AV.c (AC.v (Value.int IntKind.i64 (withinF (↑(Cfg.ns c)) (Int.ofNat 1) (Int.ofNat 16)))), [], 1023, [(withinF (↑(Cfg.ns c)) (Int.ofNat 1) (Int.ofNat 16) != Int.ofNat 0) == true, true, (!pairs4 c) == false, cfgK c, okPr c, true, true, true, true, true, true, (withinF (↑(Cfg.np c)) (Int.ofNat 2) (Int.ofNat 8) != Int.ofNat 0) == false, true, (withinF (Cfg.nodes c) (Int.ofNat 4) (Int.ofNat 16) != Int.ofNat 0) == false, true, true], [])) ∧ ((withinF (↑(Cfg.ns c)) (Int.ofNat 1) (Int.ofNat 16) != Int.ofNat 0) = false → (((!slots4 c) = true → Q (AV.c (AC.v (Value.int IntKind.i64 (Int.ofNat 1))), [], 1024, [(!slots4 c) == true, cfgK c, okSl c, true, true, true, true, true, true, (withinF (↑(Cfg.ns c)) (Int.ofNat 1) (Int.ofNat 16) != Int.ofNat 0) == false, true, (!pairs4 c) == false, cfgK c, okPr c, true, true, true, true, true, true, (withinF (↑(Cfg.np c)) (Int.ofNat 2) (Int.ofNat 8) != Int.ofNat 0) == false, true, (withinF (Cfg.nodes c) (Int.ofNat 4) (Int.ofNat 16) != Int.ofNat 0) == false, true, true], [])) ∧ ((!slots4 c) = false → (((withinF (Cfg.long c) (if IntKind.wrap IntKind.i64 (Cfg.nodes c + Int.ofNat 116) > IntKind.wrap IntKind.i64 (IntKind.wrap IntKind.i64 (Int.ofNat 3 * Cfg.nodes c) + Int.ofNat 1) then IntKind.wrap IntKind.i64 (Cfg.nodes c + Int.ofNat 116) else IntKind.wrap IntKind.i64 (IntKind.wrap IntKind.i64 (Int.ofNat 3 * Cfg.nodes c) + Int.ofNat 1)) (Int.ofNat 4096) != Int.ofNat 0) = true → Q (AV.c (AC.v (Value.int IntKind.i64 (withinF (Cfg.long c) (if IntKind.wrap IntKind.i64 (Cfg.nodes c + Int.ofNat 116) > IntKind.wrap IntKind.i64 (IntKind.wrap IntKind.i64 (Int.ofNat 3 * Cfg.nodes c) + Int.ofNat 1) then IntKind.wrap IntKind.i64 (Cfg.nodes c + Int.ofNat 116) else IntKind.wrap IntKind.i64 (IntKind.wrap IntKind.i64 (Int.ofNat 3 * Cfg.nodes c) + Int.ofNat 1)) (Int.ofNat 4096)))), [], 1038, [(withinF (Cfg.long c) (if IntKind.wrap IntKind.i64 (Cfg.nodes c + Int.ofNat 116) > IntKind.wrap IntKind.i64 (IntKind.wrap IntKind.i64 (Int.ofNat 3 * Cfg.nodes c) + Int.ofNat 1) then IntKind.wrap IntKind.i64 (Cfg.nodes c + Int.ofNat 116) else IntKind.wrap IntKind.i64 (IntKind.wrap IntKind.i64 (Int.ofNat 3 * Cfg.nodes c) + Int.ofNat 1)) (Int.ofNat 4096) != Int.ofNat 0) == true, true, true, true, true, true, true, (!slots4 c) == false, cfgK c, okSl c, true, true, true, true, true, true, (withinF (↑(Cfg.ns c)) (Int.ofNat 1) (Int.ofNat 16) != Int.ofNat 0) == false, true, (!pairs4 c) == false, cfgK c, okPr c, true, true, true, true, true, true, (withinF (↑(Cfg.np c)) (Int.ofNat 2) (Int.ofNat 8) != Int.ofNat 0) == false, true, (withinF (Cfg.nodes c) (Int.ofNat 4) (Int.ofNat 16) != Int.ofNat 0) == false, true, true], [])) ∧ ((withinF (Cfg.long c) (if IntKind.wrap IntKind.i64 (Cfg.nodes c + Int.ofNat 116) > IntKind.wrap IntKind.i64 (IntKind.wrap IntKind.i64 (Int.ofNat 3 * Cfg.nodes c) + Int.ofNat 1) then IntKind.wrap IntKind.i64 (Cfg.nodes c + Int.ofNat 116) else IntKind.wrap IntKind.i64 (IntKind.wrap IntKind.i64 (Int.ofNat 3 * Cfg.nodes c) + Int.ofNat 1)) (Int.ofNat 4096) != Int.ofNat 0) = false → (((↑(Cfg.nb c) != Cfg.nodes c) = true → Q (AV.c (AC.v (Value.int IntKind.i64 (Int.ofNat 1))), [], 1043, [(↑(Cfg.nb c) != Cfg.nodes c) == true, true, true, true, (withinF (Cfg.long c) (if IntKind.wrap IntKind.i64 (Cfg.nodes c + Int.ofNat 116) > IntKind.wrap IntKind.i64 (IntKind.wrap IntKind.i64 (Int.ofNat 3 * Cfg.nodes c) + Int.ofNat 1) then IntKind.wrap IntKind.i64 (Cfg.nodes c + Int.ofNat 116) else IntKind.wrap IntKind.i64 (IntKind.wrap IntKind.i64 (Int.ofNat 3 * Cfg.nodes c) + Int.ofNat 1)) (Int.ofNat 4096) != Int.ofNat 0) == false, true, true, true, true, true, true, (!slots4 c) == false, cfgK c, okSl c, true, true, true, true, true, true, (withinF (↑(Cfg.ns c)) (Int.ofNat 1) (Int.ofNat 16) != Int.ofNat 0) == false, true, (!pairs4 c) == false, cfgK c, okPr c, true, true, true, true, true, true, (withinF (↑(Cfg.np c)) (Int.ofNat 2) (Int.ofNat 8) != Int.ofNat 0) == false, true, (withinF (Cfg.nodes c) (Int.ofNat 4) (Int.ofNat 16) != Int.ofNat 0) == false, true, true], [])) ∧ ((↑(Cfg.nb c) != Cfg.nodes c) = false → Q (AV.c (AC.v (Value.int IntKind.i64 v)), [], 100000000000000000000000000000000000000000000000000, [(↑(Cfg.nb c) != Cfg.nodes c) == false, true, true, true, (withinF (Cfg.long c) (if IntKind.wrap IntKind.i64 (Cfg.nodes c + Int.ofNat 116) > IntKind.wrap IntKind.i64 (IntKind.wrap IntKind.i64 (Int.ofNat 3 * Cfg.nodes c) + Int.ofNat 1) then IntKind.wrap IntKind.i64 (Cfg.nodes c + Int.ofNat 116) else IntKind.wrap IntKind.i64 (IntKind.wrap IntKind.i64 (Int.ofNat 3 * Cfg.nodes c) + Int.ofNat 1)) (Int.ofNat 4096) != Int.ofNat 0) == false, true, true, true, true, true, true, (!slots4 c) == false, cfgK c, okSl c, true, true, true, true, true, true, (withinF (↑(Cfg.ns c)) (Int.ofNat 1) (Int.ofNat 16) != Int.ofNat 0) == false, true, (!pairs4 c) == false, cfgK c, okPr c, true, true, true, true, true, true, (withinF (↑(Cfg.np c)) (Int.ofNat 2) (Int.ofNat 8) != Int.ofNat 0) == false, true, (withinF (Cfg.nodes c) (Int.ofNat 4) (Int.ofNat 16) != Int.ofNat 0) == false, true, true], [LoopV Tryd.prog (loopAt Tryd.prog 16 0) [1, 4] [2, 1000, 3] [some (AV.c (AC.ptr 1000 0 0)), some (AV.c (AC.v (Value.int IntKind.i64 (Int.ofNat 0))))] [some (ABlk.mk false false 3 1 (Cs.arr (Cfg.nb c) fun k => List.map AC.v ((fun i => [Value.int IntKind.i64 (Cfg.fb c i)]) k))), some (ABlk.mk true false 25 0 (Cs.lit [AC.v (Value.int IntKind.i64 (Cfg.nodes c)), AC.sl 0 0 0 (Cfg.np c) none, AC.sl 1 0 0 (Cfg.ns c) none, AC.v (Value.int IntKind.i64 (Cfg.long c)), AC.sl 2 0 0 (Cfg.nb c) none, AC.sl 3 0 0 (Cfg.nt c) none, AC.v (Value.int IntKind.i64 (Cfg.miss c)), AC.v (Value.int IntKind.i64 (Cfg.good c)), AC.v (Value.int IntKind.i64 (Cfg.fresh c))])), some (ABlk.mk false false 53 3 (Cs.arr (Cfg.nt c) fun k => List.map AC.v ((fun i => [Value.int IntKind.i64 (Station.node (Cfg.ft c i)), Value.int IntKind.u32 (Station.safe (Cfg.ft c i)), Value.int IntKind.i64 (Station.hold (Cfg.ft c i))]) k)))] 125 1043 (mkFr 125 [(2, i64 v)]) [] 100000000000000000000000000000000000000000000000000 Exit.ret none])))))))))))))))) :
    ∃ p r, n4R Tryd.prog c [some (n4S1 .ret [(2, i64 v)] [])] p = some r ∧ Q r := by
  rcases Bool.eq_false_or_eq_true (withinF (Cfg.nodes c) (Int.ofNat 4) (Int.ofNat 16) != Int.ofNat 0) with h2 | h2
  · have g2 := H.1 h2
    exact ⟨([.b true] : List Dec), _, by kernel_rfl, g2⟩
  · have g2 := H.2 h2
    rcases Bool.eq_false_or_eq_true (withinF (↑(Cfg.np c)) (Int.ofNat 2) (Int.ofNat 8) != Int.ofNat 0) with h4 | h4
    · have g4 := g2.1 h4
      exact ⟨([.b false, .b true] : List Dec), _, by kernel_rfl, g4⟩
    · have g4 := g2.2 h4
      rcases Bool.eq_false_or_eq_true (!pairs4 c) with h6 | h6
      · have g6 := g4.1 h6
        exact ⟨([.b false, .b false, .b true] : List Dec), _, by kernel_rfl, g6⟩
      · have g6 := g4.2 h6
        rcases Bool.eq_false_or_eq_true (withinF (↑(Cfg.ns c)) (Int.ofNat 1) (Int.ofNat 16) != Int.ofNat 0) with h8 | h8
        · have g8 := g6.1 h8
          exact ⟨([.b false, .b false, .b false, .b true] : List Dec), _, by kernel_rfl, g8⟩
        · have g8 := g6.2 h8
          rcases Bool.eq_false_or_eq_true (!slots4 c) with h10 | h10
          · have g10 := g8.1 h10
            exact ⟨([.b false, .b false, .b false, .b false, .b true] : List Dec), _, by kernel_rfl, g10⟩
          · have g10 := g8.2 h10
            rcases Bool.eq_false_or_eq_true (withinF (Cfg.long c) (if IntKind.wrap IntKind.i64 (Cfg.nodes c + Int.ofNat 116) > IntKind.wrap IntKind.i64 (IntKind.wrap IntKind.i64 (Int.ofNat 3 * Cfg.nodes c) + Int.ofNat 1) then IntKind.wrap IntKind.i64 (Cfg.nodes c + Int.ofNat 116) else IntKind.wrap IntKind.i64 (IntKind.wrap IntKind.i64 (Int.ofNat 3 * Cfg.nodes c) + Int.ofNat 1)) (Int.ofNat 4096) != Int.ofNat 0) with h12 | h12
            · have g12 := g10.1 h12
              exact ⟨([.b false, .b false, .b false, .b false, .b false, .b true] : List Dec), _, by kernel_rfl, g12⟩
            · have g12 := g10.2 h12
              rcases Bool.eq_false_or_eq_true (↑(Cfg.nb c) != Cfg.nodes c) with h14 | h14
              · have g14 := g12.1 h14
                exact ⟨([.b false, .b false, .b false, .b false, .b false, .b false, .b true] : List Dec), _, by kernel_rfl, g14⟩
              · have g14 := g12.2 h14
                exact ⟨([.b false, .b false, .b false, .b false, .b false, .b false, .b false] : List Dec), _, by kernel_rfl, g14⟩
theorem n4B (c : Cfg) (v : Int) (Q : VF → Prop) (H : (((withinF (Cfg.nodes c) (Int.ofNat 4) (Int.ofNat 16) != Int.ofNat 0) = true → Q (AV.c (AC.v (Value.int IntKind.i64 (withinF (Cfg.nodes c) (Int.ofNat 4) (Int.ofNat 16)))), [], 1009, [(withinF (Cfg.nodes c) (Int.ofNat 4) (Int.ofNat 16) != Int.ofNat 0) == true, true, true], [])) ∧ ((withinF (Cfg.nodes c) (Int.ofNat 4) (Int.ofNat 16) != Int.ofNat 0) = false → (((withinF (↑(Cfg.np c)) (Int.ofNat 2) (Int.ofNat 8) != Int.ofNat 0) = true → Q (AV.c (AC.v (Value.int IntKind.i64 (withinF (↑(Cfg.np c)) (Int.ofNat 2) (Int.ofNat 8)))), [], 1015, [(withinF (↑(Cfg.np c)) (Int.ofNat 2) (Int.ofNat 8) != Int.ofNat 0) == true, true, (withinF (Cfg.nodes c) (Int.ofNat 4) (Int.ofNat 16) != Int.ofNat 0) == false, true, true], [])) ∧ ((withinF (↑(Cfg.np c)) (Int.ofNat 2) (Int.ofNat 8) != Int.ofNat 0) = false → (((!pairs4 c) = true → Q (AV.c (AC.v (Value.int IntKind.i64 (Int.ofNat 1))), [], 1016, [(!pairs4 c) == true, cfgK c, okPr c, true, true, true, true, true, true, (withinF (↑(Cfg.np c)) (Int.ofNat 2) (Int.ofNat 8) != Int.ofNat 0) == false, true, (withinF (Cfg.nodes c) (Int.ofNat 4) (Int.ofNat 16) != Int.ofNat 0) == false, true, true], [])) ∧ ((!pairs4 c) = false → (((withinF (↑(Cfg.ns c)) (Int.ofNat 1) (Int.ofNat 16) != Int.ofNat 0) = true → Q (AV.c (AC.v (Value.int IntKind.i64 (withinF (↑(Cfg.ns c)) (Int.ofNat 1) (Int.ofNat 16)))), [], 1023, [(withinF (↑(Cfg.ns c)) (Int.ofNat 1) (Int.ofNat 16) != Int.ofNat 0) == true, true, (!pairs4 c) == false, cfgK c, okPr c, true, true, true, true, true, true, (withinF (↑(Cfg.np c)) (Int.ofNat 2) (Int.ofNat 8) != Int.ofNat 0) == false, true, (withinF (Cfg.nodes c) (Int.ofNat 4) (Int.ofNat 16) != Int.ofNat 0) == false, true, true], [])) ∧ ((withinF (↑(Cfg.ns c)) (Int.ofNat 1) (Int.ofNat 16) != Int.ofNat 0) = false → (((!slots4 c) = true → Q (AV.c (AC.v (Value.int IntKind.i64 (Int.ofNat 1))), [], 1024, [(!slots4 c) == true, cfgK c, okSl c, true, true, true, true, true, true, (withinF (↑(Cfg.ns c)) (Int.ofNat 1) (Int.ofNat 16) != Int.ofNat 0) == false, true, (!pairs4 c) == false, cfgK c, okPr c, true, true, true, true, true, true, (withinF (↑(Cfg.np c)) (Int.ofNat 2) (Int.ofNat 8) != Int.ofNat 0) == false, true, (withinF (Cfg.nodes c) (Int.ofNat 4) (Int.ofNat 16) != Int.ofNat 0) == false, true, true], [])) ∧ ((!slots4 c) = false → (((withinF (Cfg.long c) (if IntKind.wrap IntKind.i64 (Cfg.nodes c + Int.ofNat 116) > IntKind.wrap IntKind.i64 (IntKind.wrap IntKind.i64 (Int.ofNat 3 * Cfg.nodes c) + Int.ofNat 1) then IntKind.wrap IntKind.i64 (Cfg.nodes c + Int.ofNat 116) else IntKind.wrap IntKind.i64 (IntKind.wrap IntKind.i64 (Int.ofNat 3 * Cfg.nodes c) + Int.ofNat 1)) (Int.ofNat 4096) != Int.ofNat 0) = true → Q (AV.c (AC.v (Value.int IntKind.i64 (withinF (Cfg.long c) (if IntKind.wrap IntKind.i64 (Cfg.nodes c + Int.ofNat 116) > IntKind.wrap IntKind.i64 (IntKind.wrap IntKind.i64 (Int.ofNat 3 * Cfg.nodes c) + Int.ofNat 1) then IntKind.wrap IntKind.i64 (Cfg.nodes c + Int.ofNat 116) else IntKind.wrap IntKind.i64 (IntKind.wrap IntKind.i64 (Int.ofNat 3 * Cfg.nodes c) + Int.ofNat 1)) (Int.ofNat 4096)))), [], 1038, [(withinF (Cfg.long c) (if IntKind.wrap IntKind.i64 (Cfg.nodes c + Int.ofNat 116) > IntKind.wrap IntKind.i64 (IntKind.wrap IntKind.i64 (Int.ofNat 3 * Cfg.nodes c) + Int.ofNat 1) then IntKind.wrap IntKind.i64 (Cfg.nodes c + Int.ofNat 116) else IntKind.wrap IntKind.i64 (IntKind.wrap IntKind.i64 (Int.ofNat 3 * Cfg.nodes c) + Int.ofNat 1)) (Int.ofNat 4096) != Int.ofNat 0) == true, true, true, true, true, true, true, (!slots4 c) == false, cfgK c, okSl c, true, true, true, true, true, true, (withinF (↑(Cfg.ns c)) (Int.ofNat 1) (Int.ofNat 16) != Int.ofNat 0) == false, true, (!pairs4 c) == false, cfgK c, okPr c, true, true, true, true, true, true, (withinF (↑(Cfg.np c)) (Int.ofNat 2) (Int.ofNat 8) != Int.ofNat 0) == false, true, (withinF (Cfg.nodes c) (Int.ofNat 4) (Int.ofNat 16) != Int.ofNat 0) == false, true, true], [])) ∧ ((withinF (Cfg.long c) (if IntKind.wrap IntKind.i64 (Cfg.nodes c + Int.ofNat 116) > IntKind.wrap IntKind.i64 (IntKind.wrap IntKind.i64 (Int.ofNat 3 * Cfg.nodes c) + Int.ofNat 1) then IntKind.wrap IntKind.i64 (Cfg.nodes c + Int.ofNat 116) else IntKind.wrap IntKind.i64 (IntKind.wrap IntKind.i64 (Int.ofNat 3 * Cfg.nodes c) + Int.ofNat 1)) (Int.ofNat 4096) != Int.ofNat 0) = false → (((↑(Cfg.nb c) != Cfg.nodes c) = true → Q (AV.c (AC.v (Value.int IntKind.i64 (Int.ofNat 1))), [], 1043, [(↑(Cfg.nb c) != Cfg.nodes c) == true, true, true, true, (withinF (Cfg.long c) (if IntKind.wrap IntKind.i64 (Cfg.nodes c + Int.ofNat 116) > IntKind.wrap IntKind.i64 (IntKind.wrap IntKind.i64 (Int.ofNat 3 * Cfg.nodes c) + Int.ofNat 1) then IntKind.wrap IntKind.i64 (Cfg.nodes c + Int.ofNat 116) else IntKind.wrap IntKind.i64 (IntKind.wrap IntKind.i64 (Int.ofNat 3 * Cfg.nodes c) + Int.ofNat 1)) (Int.ofNat 4096) != Int.ofNat 0) == false, true, true, true, true, true, true, (!slots4 c) == false, cfgK c, okSl c, true, true, true, true, true, true, (withinF (↑(Cfg.ns c)) (Int.ofNat 1) (Int.ofNat 16) != Int.ofNat 0) == false, true, (!pairs4 c) == false, cfgK c, okPr c, true, true, true, true, true, true, (withinF (↑(Cfg.np c)) (Int.ofNat 2) (Int.ofNat 8) != Int.ofNat 0) == false, true, (withinF (Cfg.nodes c) (Int.ofNat 4) (Int.ofNat 16) != Int.ofNat 0) == false, true, true], [])) ∧ ((↑(Cfg.nb c) != Cfg.nodes c) = false → (((withinF (↑(Cfg.nt c)) (Int.ofNat 0) (Int.ofNat 8) != Int.ofNat 0) = true → Q (AV.c (AC.v (Value.int IntKind.i64 (withinF (↑(Cfg.nt c)) (Int.ofNat 0) (Int.ofNat 8)))), [], 100000000000000000000000000000000000000000000000008, [(withinF (↑(Cfg.nt c)) (Int.ofNat 0) (Int.ofNat 8) != Int.ofNat 0) == true, true, (↑(Cfg.nb c) != Cfg.nodes c) == false, true, true, true, (withinF (Cfg.long c) (if IntKind.wrap IntKind.i64 (Cfg.nodes c + Int.ofNat 116) > IntKind.wrap IntKind.i64 (IntKind.wrap IntKind.i64 (Int.ofNat 3 * Cfg.nodes c) + Int.ofNat 1) then IntKind.wrap IntKind.i64 (Cfg.nodes c + Int.ofNat 116) else IntKind.wrap IntKind.i64 (IntKind.wrap IntKind.i64 (Int.ofNat 3 * Cfg.nodes c) + Int.ofNat 1)) (Int.ofNat 4096) != Int.ofNat 0) == false, true, true, true, true, true, true, (!slots4 c) == false, cfgK c, okSl c, true, true, true, true, true, true, (withinF (↑(Cfg.ns c)) (Int.ofNat 1) (Int.ofNat 16) != Int.ofNat 0) == false, true, (!pairs4 c) == false, cfgK c, okPr c, true, true, true, true, true, true, (withinF (↑(Cfg.np c)) (Int.ofNat 2) (Int.ofNat 8) != Int.ofNat 0) == false, true, (withinF (Cfg.nodes c) (Int.ofNat 4) (Int.ofNat 16) != Int.ofNat 0) == false, true, true], [LoopV Tryd.prog (loopAt Tryd.prog 16 0) [1, 4] [2, 1000, 3] [some (AV.c (AC.ptr 1000 0 0)), some (AV.c (AC.v (Value.int IntKind.i64 (Int.ofNat 0))))] [some (ABlk.mk false false 3 1 (Cs.arr (Cfg.nb c) fun k => List.map AC.v ((fun i => [Value.int IntKind.i64 (Cfg.fb c i)]) k))), some (ABlk.mk true false 25 0 (Cs.lit [AC.v (Value.int IntKind.i64 (Cfg.nodes c)), AC.sl 0 0 0 (Cfg.np c) none, AC.sl 1 0 0 (Cfg.ns c) none, AC.v (Value.int IntKind.i64 (Cfg.long c)), AC.sl 2 0 0 (Cfg.nb c) none, AC.sl 3 0 0 (Cfg.nt c) none, AC.v (Value.int IntKind.i64 (Cfg.miss c)), AC.v (Value.int IntKind.i64 (Cfg.good c)), AC.v (Value.int IntKind.i64 (Cfg.fresh c))])), some (ABlk.mk false false 53 3 (Cs.arr (Cfg.nt c) fun k => List.map AC.v ((fun i => [Value.int IntKind.i64 (Station.node (Cfg.ft c i)), Value.int IntKind.u32 (Station.safe (Cfg.ft c i)), Value.int IntKind.i64 (Station.hold (Cfg.ft c i))]) k)))] 125 1043 (mkFr 125 [(1, AV.c (AC.ptr 1000 0 0))]) [(1000, cfgB c), (3, sts (Cfg.nt c) (Cfg.ft c))] 100000000000000000000000000000000000000000000000000 (Exit.exit 0) none])) ∧ ((withinF (↑(Cfg.nt c)) (Int.ofNat 0) (Int.ofNat 8) != Int.ofNat 0) = false → Q (AV.c (AC.v (Value.int IntKind.i64 v)), [], 10000000000000000000000000000000000000000000000000000, [(withinF (↑(Cfg.nt c)) (Int.ofNat 0) (Int.ofNat 8) != Int.ofNat 0) == false, true, (↑(Cfg.nb c) != Cfg.nodes c) == false, true, true, true, (withinF (Cfg.long c) (if IntKind.wrap IntKind.i64 (Cfg.nodes c + Int.ofNat 116) > IntKind.wrap IntKind.i64 (IntKind.wrap IntKind.i64 (Int.ofNat 3 * Cfg.nodes c) + Int.ofNat 1) then IntKind.wrap IntKind.i64 (Cfg.nodes c + Int.ofNat 116) else IntKind.wrap IntKind.i64 (IntKind.wrap IntKind.i64 (Int.ofNat 3 * Cfg.nodes c) + Int.ofNat 1)) (Int.ofNat 4096) != Int.ofNat 0) == false, true, true, true, true, true, true, (!slots4 c) == false, cfgK c, okSl c, true, true, true, true, true, true, (withinF (↑(Cfg.ns c)) (Int.ofNat 1) (Int.ofNat 16) != Int.ofNat 0) == false, true, (!pairs4 c) == false, cfgK c, okPr c, true, true, true, true, true, true, (withinF (↑(Cfg.np c)) (Int.ofNat 2) (Int.ofNat 8) != Int.ofNat 0) == false, true, (withinF (Cfg.nodes c) (Int.ofNat 4) (Int.ofNat 16) != Int.ofNat 0) == false, true, true], [LoopV Tryd.prog (loopAt Tryd.prog 16 1) [1, 5] [3, 1000] [some (AV.c (AC.ptr 1000 0 0)), some (AV.c (AC.v (Value.int IntKind.i64 (Int.ofNat 0))))] [some (ABlk.mk false false 53 3 (Cs.arr (Cfg.nt c) fun k => List.map AC.v ((fun i => [Value.int IntKind.i64 (Station.node (Cfg.ft c i)), Value.int IntKind.u32 (Station.safe (Cfg.ft c i)), Value.int IntKind.i64 (Station.hold (Cfg.ft c i))]) k))), some (ABlk.mk true false 25 0 (Cs.lit [AC.v (Value.int IntKind.i64 (Cfg.nodes c)), AC.sl 0 0 0 (Cfg.np c) none, AC.sl 1 0 0 (Cfg.ns c) none, AC.v (Value.int IntKind.i64 (Cfg.long c)), AC.sl 2 0 0 (Cfg.nb c) none, AC.sl 3 0 0 (Cfg.nt c) none, AC.v (Value.int IntKind.i64 (Cfg.miss c)), AC.v (Value.int IntKind.i64 (Cfg.good c)), AC.v (Value.int IntKind.i64 (Cfg.fresh c))]))] 125 100000000000000000000000000000000000000000000000007 (mkFr 125 [(2, i64 v)]) [] 10000000000000000000000000000000000000000000000000000 Exit.ret none, LoopV Tryd.prog (loopAt Tryd.prog 16 0) [1, 4] [2, 1000, 3] [some (AV.c (AC.ptr 1000 0 0)), some (AV.c (AC.v (Value.int IntKind.i64 (Int.ofNat 0))))] [some (ABlk.mk false false 3 1 (Cs.arr (Cfg.nb c) fun k => List.map AC.v ((fun i => [Value.int IntKind.i64 (Cfg.fb c i)]) k))), some (ABlk.mk true false 25 0 (Cs.lit [AC.v (Value.int IntKind.i64 (Cfg.nodes c)), AC.sl 0 0 0 (Cfg.np c) none, AC.sl 1 0 0 (Cfg.ns c) none, AC.v (Value.int IntKind.i64 (Cfg.long c)), AC.sl 2 0 0 (Cfg.nb c) none, AC.sl 3 0 0 (Cfg.nt c) none, AC.v (Value.int IntKind.i64 (Cfg.miss c)), AC.v (Value.int IntKind.i64 (Cfg.good c)), AC.v (Value.int IntKind.i64 (Cfg.fresh c))])), some (ABlk.mk false false 53 3 (Cs.arr (Cfg.nt c) fun k => List.map AC.v ((fun i => [Value.int IntKind.i64 (Station.node (Cfg.ft c i)), Value.int IntKind.u32 (Station.safe (Cfg.ft c i)), Value.int IntKind.i64 (Station.hold (Cfg.ft c i))]) k)))] 125 1043 (mkFr 125 [(1, AV.c (AC.ptr 1000 0 0))]) [(1000, cfgB c), (3, sts (Cfg.nt c) (Cfg.ft c))] 100000000000000000000000000000000000000000000000000 (Exit.exit 0) none])))))))))))))))))) :
    ∃ p r, n4R Tryd.prog c [some (n4S1 (.exit 0) [(1, .c (.ptr 1000 0 0))] [(1000, cfgB c), (3, sts c.nt c.ft)]), some (n4S2 .ret [(2, i64 v)] [])] p = some r ∧ Q r := by
  rcases Bool.eq_false_or_eq_true (withinF (Cfg.nodes c) (Int.ofNat 4) (Int.ofNat 16) != Int.ofNat 0) with h2 | h2
  · have g2 := H.1 h2
    exact ⟨([.b true] : List Dec), _, by kernel_rfl, g2⟩
  · have g2 := H.2 h2
    rcases Bool.eq_false_or_eq_true (withinF (↑(Cfg.np c)) (Int.ofNat 2) (Int.ofNat 8) != Int.ofNat 0) with h4 | h4
    · have g4 := g2.1 h4
      exact ⟨([.b false, .b true] : List Dec), _, by kernel_rfl, g4⟩
    · have g4 := g2.2 h4
      rcases Bool.eq_false_or_eq_true (!pairs4 c) with h6 | h6
      · have g6 := g4.1 h6
        exact ⟨([.b false, .b false, .b true] : List Dec), _, by kernel_rfl, g6⟩
      · have g6 := g4.2 h6
        rcases Bool.eq_false_or_eq_true (withinF (↑(Cfg.ns c)) (Int.ofNat 1) (Int.ofNat 16) != Int.ofNat 0) with h8 | h8
        · have g8 := g6.1 h8
          exact ⟨([.b false, .b false, .b false, .b true] : List Dec), _, by kernel_rfl, g8⟩
        · have g8 := g6.2 h8
          rcases Bool.eq_false_or_eq_true (!slots4 c) with h10 | h10
          · have g10 := g8.1 h10
            exact ⟨([.b false, .b false, .b false, .b false, .b true] : List Dec), _, by kernel_rfl, g10⟩
          · have g10 := g8.2 h10
            rcases Bool.eq_false_or_eq_true (withinF (Cfg.long c) (if IntKind.wrap IntKind.i64 (Cfg.nodes c + Int.ofNat 116) > IntKind.wrap IntKind.i64 (IntKind.wrap IntKind.i64 (Int.ofNat 3 * Cfg.nodes c) + Int.ofNat 1) then IntKind.wrap IntKind.i64 (Cfg.nodes c + Int.ofNat 116) else IntKind.wrap IntKind.i64 (IntKind.wrap IntKind.i64 (Int.ofNat 3 * Cfg.nodes c) + Int.ofNat 1)) (Int.ofNat 4096) != Int.ofNat 0) with h12 | h12
            · have g12 := g10.1 h12
              exact ⟨([.b false, .b false, .b false, .b false, .b false, .b true] : List Dec), _, by kernel_rfl, g12⟩
            · have g12 := g10.2 h12
              rcases Bool.eq_false_or_eq_true (↑(Cfg.nb c) != Cfg.nodes c) with h14 | h14
              · have g14 := g12.1 h14
                exact ⟨([.b false, .b false, .b false, .b false, .b false, .b false, .b true] : List Dec), _, by kernel_rfl, g14⟩
              · have g14 := g12.2 h14
                rcases Bool.eq_false_or_eq_true (withinF (↑(Cfg.nt c)) (Int.ofNat 0) (Int.ofNat 8) != Int.ofNat 0) with h16 | h16
                · have g16 := g14.1 h16
                  exact ⟨([.b false, .b false, .b false, .b false, .b false, .b false, .b false, .b true] : List Dec), _, by kernel_rfl, g16⟩
                · have g16 := g14.2 h16
                  exact ⟨([.b false, .b false, .b false, .b false, .b false, .b false, .b false, .b false] : List Dec), _, by kernel_rfl, g16⟩
end Go.Proofs.YtiflbhmccenemaaDoor
end
/- sennitref04.New as the evaluator runs it: neither. -/
section
namespace Go.Proofs.YtiflbhmccenemaaDoor
open Go.RowKit

theorem n4C (c : Cfg) (Q : VF → Prop) (H : (((withinF (Cfg.nodes c) (Int.ofNat 4) (Int.ofNat 16) != Int.ofNat 0) = true → Q (AV.c (AC.v (Value.int IntKind.i64 (withinF (Cfg.nodes c) (Int.ofNat 4) (Int.ofNat 16)))), [], 1009, [(withinF (Cfg.nodes c) (Int.ofNat 4) (Int.ofNat 16) != Int.ofNat 0) == true, true, true], [])) ∧ ((withinF (Cfg.nodes c) (Int.ofNat 4) (Int.ofNat 16) != Int.ofNat 0) = false → (((withinF (↑(Cfg.np c)) (Int.ofNat 2) (Int.ofNat 8) != Int.ofNat 0) = true → Q (AV.c (AC.v (Value.int IntKind.i64 (withinF (↑(Cfg.np c)) (Int.ofNat 2) (Int.ofNat 8)))), [], 1015, [(withinF (↑(Cfg.np c)) (Int.ofNat 2) (Int.ofNat 8) != Int.ofNat 0) == true, true, (withinF (Cfg.nodes c) (Int.ofNat 4) (Int.ofNat 16) != Int.ofNat 0) == false, true, true], [])) ∧ ((withinF (↑(Cfg.np c)) (Int.ofNat 2) (Int.ofNat 8) != Int.ofNat 0) = false → (((!pairs4 c) = true → Q (AV.c (AC.v (Value.int IntKind.i64 (Int.ofNat 1))), [], 1016, [(!pairs4 c) == true, cfgK c, okPr c, true, true, true, true, true, true, (withinF (↑(Cfg.np c)) (Int.ofNat 2) (Int.ofNat 8) != Int.ofNat 0) == false, true, (withinF (Cfg.nodes c) (Int.ofNat 4) (Int.ofNat 16) != Int.ofNat 0) == false, true, true], [])) ∧ ((!pairs4 c) = false → (((withinF (↑(Cfg.ns c)) (Int.ofNat 1) (Int.ofNat 16) != Int.ofNat 0) = true → Q (AV.c (AC.v (Value.int IntKind.i64 (withinF (↑(Cfg.ns c)) (Int.ofNat 1) (Int.ofNat 16)))), [], 1023, [(withinF (↑(Cfg.ns c)) (Int.ofNat 1) (Int.ofNat 16) != Int.ofNat 0) == true, true, (!pairs4 c) == false, cfgK c, okPr c, true, true, true, true, true, true, (withinF (↑(Cfg.np c)) (Int.ofNat 2) (Int.ofNat 8) != Int.ofNat 0) == false, true, (withinF (Cfg.nodes c) (Int.ofNat 4) (Int.ofNat 16) != Int.ofNat 0) == false, true, true], [])) ∧ ((withinF (↑(Cfg.ns c)) (Int.ofNat 1) (Int.ofNat 16) != Int.ofNat 0) = false → (((!slots4 c) = true → Q (AV.c (AC.v (Value.int IntKind.i64 (Int.ofNat 1))), [], 1024, [(!slots4 c) == true, cfgK c, okSl c, true, true, true, true, true, true, (withinF (↑(Cfg.ns c)) (Int.ofNat 1) (Int.ofNat 16) != Int.ofNat 0) == false, true, (!pairs4 c) == false, cfgK c, okPr c, true, true, true, true, true, true, (withinF (↑(Cfg.np c)) (Int.ofNat 2) (Int.ofNat 8) != Int.ofNat 0) == false, true, (withinF (Cfg.nodes c) (Int.ofNat 4) (Int.ofNat 16) != Int.ofNat 0) == false, true, true], [])) ∧ ((!slots4 c) = false → (((withinF (Cfg.long c) (if IntKind.wrap IntKind.i64 (Cfg.nodes c + Int.ofNat 116) > IntKind.wrap IntKind.i64 (IntKind.wrap IntKind.i64 (Int.ofNat 3 * Cfg.nodes c) + Int.ofNat 1) then IntKind.wrap IntKind.i64 (Cfg.nodes c + Int.ofNat 116) else IntKind.wrap IntKind.i64 (IntKind.wrap IntKind.i64 (Int.ofNat 3 * Cfg.nodes c) + Int.ofNat 1)) (Int.ofNat 4096) != Int.ofNat 0) = true → Q (AV.c (AC.v (Value.int IntKind.i64 (withinF (Cfg.long c) (if IntKind.wrap IntKind.i64 (Cfg.nodes c + Int.ofNat 116) > IntKind.wrap IntKind.i64 (IntKind.wrap IntKind.i64 (Int.ofNat 3 * Cfg.nodes c) + Int.ofNat 1) then IntKind.wrap IntKind.i64 (Cfg.nodes c + Int.ofNat 116) else IntKind.wrap IntKind.i64 (IntKind.wrap IntKind.i64 (Int.ofNat 3 * Cfg.nodes c) + Int.ofNat 1)) (Int.ofNat 4096)))), [], 1038, [(withinF (Cfg.long c) (if IntKind.wrap IntKind.i64 (Cfg.nodes c + Int.ofNat 116) > IntKind.wrap IntKind.i64 (IntKind.wrap IntKind.i64 (Int.ofNat 3 * Cfg.nodes c) + Int.ofNat 1) then IntKind.wrap IntKind.i64 (Cfg.nodes c + Int.ofNat 116) else IntKind.wrap IntKind.i64 (IntKind.wrap IntKind.i64 (Int.ofNat 3 * Cfg.nodes c) + Int.ofNat 1)) (Int.ofNat 4096) != Int.ofNat 0) == true, true, true, true, true, true, true, (!slots4 c) == false, cfgK c, okSl c, true, true, true, true, true, true, (withinF (↑(Cfg.ns c)) (Int.ofNat 1) (Int.ofNat 16) != Int.ofNat 0) == false, true, (!pairs4 c) == false, cfgK c, okPr c, true, true, true, true, true, true, (withinF (↑(Cfg.np c)) (Int.ofNat 2) (Int.ofNat 8) != Int.ofNat 0) == false, true, (withinF (Cfg.nodes c) (Int.ofNat 4) (Int.ofNat 16) != Int.ofNat 0) == false, true, true], [])) ∧ ((withinF (Cfg.long c) (if IntKind.wrap IntKind.i64 (Cfg.nodes c + Int.ofNat 116) > IntKind.wrap IntKind.i64 (IntKind.wrap IntKind.i64 (Int.ofNat 3 * Cfg.nodes c) + Int.ofNat 1) then IntKind.wrap IntKind.i64 (Cfg.nodes c + Int.ofNat 116) else IntKind.wrap IntKind.i64 (IntKind.wrap IntKind.i64 (Int.ofNat 3 * Cfg.nodes c) + Int.ofNat 1)) (Int.ofNat 4096) != Int.ofNat 0) = false → (((↑(Cfg.nb c) != Cfg.nodes c) = true → Q (AV.c (AC.v (Value.int IntKind.i64 (Int.ofNat 1))), [], 1043, [(↑(Cfg.nb c) != Cfg.nodes c) == true, true, true, true, (withinF (Cfg.long c) (if IntKind.wrap IntKind.i64 (Cfg.nodes c + Int.ofNat 116) > IntKind.wrap IntKind.i64 (IntKind.wrap IntKind.i64 (Int.ofNat 3 * Cfg.nodes c) + Int.ofNat 1) then IntKind.wrap IntKind.i64 (Cfg.nodes c + Int.ofNat 116) else IntKind.wrap IntKind.i64 (IntKind.wrap IntKind.i64 (Int.ofNat 3 * Cfg.nodes c) + Int.ofNat 1)) (Int.ofNat 4096) != Int.ofNat 0) == false, true, true, true, true, true, true, (!slots4 c) == false, cfgK c, okSl c, true, true, true, true, true, true, (withinF (↑(Cfg.ns c)) (Int.ofNat 1) (Int.ofNat 16) != Int.ofNat 0) == false, true, (!pairs4 c) == false, cfgK c, okPr c, true, true, true, true, true, true, (withinF (↑(Cfg.np c)) (Int.ofNat 2) (Int.ofNat 8) != Int.ofNat 0) == false, true, (withinF (Cfg.nodes c) (Int.ofNat 4) (Int.ofNat 16) != Int.ofNat 0) == false, true, true], [])) ∧ ((↑(Cfg.nb c) != Cfg.nodes c) = false → (((withinF (↑(Cfg.nt c)) (Int.ofNat 0) (Int.ofNat 8) != Int.ofNat 0) = true → Q (AV.c (AC.v (Value.int IntKind.i64 (withinF (↑(Cfg.nt c)) (Int.ofNat 0) (Int.ofNat 8)))), [], 100000000000000000000000000000000000000000000000008, [(withinF (↑(Cfg.nt c)) (Int.ofNat 0) (Int.ofNat 8) != Int.ofNat 0) == true, true, (↑(Cfg.nb c) != Cfg.nodes c) == false, true, true, true, (withinF (Cfg.long c) (if IntKind.wrap IntKind.i64 (Cfg.nodes c + Int.ofNat 116) > IntKind.wrap IntKind.i64 (IntKind.wrap IntKind.i64 (Int.ofNat 3 * Cfg.nodes c) + Int.ofNat 1) then IntKind.wrap IntKind.i64 (Cfg.nodes c + Int.ofNat 116) else IntKind.wrap IntKind.i64 (IntKind.wrap IntKind.i64 (Int.ofNat 3 * Cfg.nodes c) + Int.ofNat 1)) (Int.ofNat 4096) != Int.ofNat 0) == false, true, true, true, true, true, true, (!slots4 c) == false, cfgK c, okSl c, true, true, true, true, true, true, (withinF (↑(Cfg.ns c)) (Int.ofNat 1) (Int.ofNat 16) != Int.ofNat 0) == false, true, (!pairs4 c) == false, cfgK c, okPr c, true, true, true, true, true, true, (withinF (↑(Cfg.np c)) (Int.ofNat 2) (Int.ofNat 8) != Int.ofNat 0) == false, true, (withinF (Cfg.nodes c) (Int.ofNat 4) (Int.ofNat 16) != Int.ofNat 0) == false, true, true], [LoopV Tryd.prog (loopAt Tryd.prog 16 0) [1, 4] [2, 1000, 3] [some (AV.c (AC.ptr 1000 0 0)), some (AV.c (AC.v (Value.int IntKind.i64 (Int.ofNat 0))))] [some (ABlk.mk false false 3 1 (Cs.arr (Cfg.nb c) fun k => List.map AC.v ((fun i => [Value.int IntKind.i64 (Cfg.fb c i)]) k))), some (ABlk.mk true false 25 0 (Cs.lit [AC.v (Value.int IntKind.i64 (Cfg.nodes c)), AC.sl 0 0 0 (Cfg.np c) none, AC.sl 1 0 0 (Cfg.ns c) none, AC.v (Value.int IntKind.i64 (Cfg.long c)), AC.sl 2 0 0 (Cfg.nb c) none, AC.sl 3 0 0 (Cfg.nt c) none, AC.v (Value.int IntKind.i64 (Cfg.miss c)), AC.v (Value.int IntKind.i64 (Cfg.good c)), AC.v (Value.int IntKind.i64 (Cfg.fresh c))])), some (ABlk.mk false false 53 3 (Cs.arr (Cfg.nt c) fun k => List.map AC.v ((fun i => [Value.int IntKind.i64 (Station.node (Cfg.ft c i)), Value.int IntKind.u32 (Station.safe (Cfg.ft c i)), Value.int IntKind.i64 (Station.hold (Cfg.ft c i))]) k)))] 125 1043 (mkFr 125 [(1, AV.c (AC.ptr 1000 0 0))]) [(1000, cfgB c), (3, sts (Cfg.nt c) (Cfg.ft c))] 100000000000000000000000000000000000000000000000000 (Exit.exit 0) none])) ∧ ((withinF (↑(Cfg.nt c)) (Int.ofNat 0) (Int.ofNat 8) != Int.ofNat 0) = false → (((withinF (Cfg.miss c) (Int.ofNat 1) (Int.ofNat 100) != Int.ofNat 0) = true → Q (AV.c (AC.v (Value.int IntKind.i64 (withinF (Cfg.miss c) (Int.ofNat 1) (Int.ofNat 100)))), [], 10000000000000000000000000000000000000000000000000020, [(withinF (Cfg.miss c) (Int.ofNat 1) (Int.ofNat 100) != Int.ofNat 0) == true, true, true, true, true, true, true, true, true, true, (withinF (↑(Cfg.nt c)) (Int.ofNat 0) (Int.ofNat 8) != Int.ofNat 0) == false, true, (↑(Cfg.nb c) != Cfg.nodes c) == false, true, true, true, (withinF (Cfg.long c) (if IntKind.wrap IntKind.i64 (Cfg.nodes c + Int.ofNat 116) > IntKind.wrap IntKind.i64 (IntKind.wrap IntKind.i64 (Int.ofNat 3 * Cfg.nodes c) + Int.ofNat 1) then IntKind.wrap IntKind.i64 (Cfg.nodes c + Int.ofNat 116) else IntKind.wrap IntKind.i64 (IntKind.wrap IntKind.i64 (Int.ofNat 3 * Cfg.nodes c) + Int.ofNat 1)) (Int.ofNat 4096) != Int.ofNat 0) == false, true, true, true, true, true, true, (!slots4 c) == false, cfgK c, okSl c, true, true, true, true, true, true, (withinF (↑(Cfg.ns c)) (Int.ofNat 1) (Int.ofNat 16) != Int.ofNat 0) == false, true, (!pairs4 c) == false, cfgK c, okPr c, true, true, true, true, true, true, (withinF (↑(Cfg.np c)) (Int.ofNat 2) (Int.ofNat 8) != Int.ofNat 0) == false, true, (withinF (Cfg.nodes c) (Int.ofNat 4) (Int.ofNat 16) != Int.ofNat 0) == false, true, true], [LoopV Tryd.prog (loopAt Tryd.prog 16 1) [1, 5] [3, 1000] [some (AV.c (AC.ptr 1000 0 0)), some (AV.c (AC.v (Value.int IntKind.i64 (Int.ofNat 0))))] [some (ABlk.mk false false 53 3 (Cs.arr (Cfg.nt c) fun k => List.map AC.v ((fun i => [Value.int IntKind.i64 (Station.node (Cfg.ft c i)), Value.int IntKind.u32 (Station.safe (Cfg.ft c i)), Value.int IntKind.i64 (Station.hold (Cfg.ft c i))]) k))), some (ABlk.mk true false 25 0 (Cs.lit [AC.v (Value.int IntKind.i64 (Cfg.nodes c)), AC.sl 0 0 0 (Cfg.np c) none, AC.sl 1 0 0 (Cfg.ns c) none, AC.v (Value.int IntKind.i64 (Cfg.long c)), AC.sl 2 0 0 (Cfg.nb c) none, AC.sl 3 0 0 (Cfg.nt c) none, AC.v (Value.int IntKind.i64 (Cfg.miss c)), AC.v (Value.int IntKind.i64 (Cfg.good c)), AC.v (Value.int IntKind.i64 (Cfg.fresh c))]))] 125 100000000000000000000000000000000000000000000000007 (mkFr 125 [(1, AV.c (AC.ptr 1000 0 0))]) [(1000, cfgB c)] 10000000000000000000000000000000000000000000000000000 (Exit.exit 2) none, LoopV Tryd.prog (loopAt Tryd.prog 16 0) [1, 4] [2, 1000, 3] [some (AV.c (AC.ptr 1000 0 0)), some (AV.c (AC.v (Value.int IntKind.i64 (Int.ofNat 0))))] [some (ABlk.mk false false 3 1 (Cs.arr (Cfg.nb c) fun k => List.map AC.v ((fun i => [Value.int IntKind.i64 (Cfg.fb c i)]) k))), some (ABlk.mk true false 25 0 (Cs.lit [AC.v (Value.int IntKind.i64 (Cfg.nodes c)), AC.sl 0 0 0 (Cfg.np c) none, AC.sl 1 0 0 (Cfg.ns c) none, AC.v (Value.int IntKind.i64 (Cfg.long c)), AC.sl 2 0 0 (Cfg.nb c) none, AC.sl 3 0 0 (Cfg.nt c) none, AC.v (Value.int IntKind.i64 (Cfg.miss c)), AC.v (Value.int IntKind.i64 (Cfg.good c)), AC.v (Value.int IntKind.i64 (Cfg.fresh c))])), some (ABlk.mk false false 53 3 (Cs.arr (Cfg.nt c) fun k => List.map AC.v ((fun i => [Value.int IntKind.i64 (Station.node (Cfg.ft c i)), Value.int IntKind.u32 (Station.safe (Cfg.ft c i)), Value.int IntKind.i64 (Station.hold (Cfg.ft c i))]) k)))] 125 1043 (mkFr 125 [(1, AV.c (AC.ptr 1000 0 0))]) [(1000, cfgB c), (3, sts (Cfg.nt c) (Cfg.ft c))] 100000000000000000000000000000000000000000000000000 (Exit.exit 0) none])) ∧ ((withinF (Cfg.miss c) (Int.ofNat 1) (Int.ofNat 100) != Int.ofNat 0) = false → (((withinF (Cfg.good c) (Int.ofNat 1) (Int.ofNat 100) != Int.ofNat 0) = true → Q (AV.c (AC.v (Value.int IntKind.i64 (withinF (Cfg.good c) (Int.ofNat 1) (Int.ofNat 100)))), [], 10000000000000000000000000000000000000000000000000032, [(withinF (Cfg.good c) (Int.ofNat 1) (Int.ofNat 100) != Int.ofNat 0) == true, true, true, true, (withinF (Cfg.miss c) (Int.ofNat 1) (Int.ofNat 100) != Int.ofNat 0) == false, true, true, true, true, true, true, true, true, true, (withinF (↑(Cfg.nt c)) (Int.ofNat 0) (Int.ofNat 8) != Int.ofNat 0) == false, true, (↑(Cfg.nb c) != Cfg.nodes c) == false, true, true, true, (withinF (Cfg.long c) (if IntKind.wrap IntKind.i64 (Cfg.nodes c + Int.ofNat 116) > IntKind.wrap IntKind.i64 (IntKind.wrap IntKind.i64 (Int.ofNat 3 * Cfg.nodes c) + Int.ofNat 1) then IntKind.wrap IntKind.i64 (Cfg.nodes c + Int.ofNat 116) else IntKind.wrap IntKind.i64 (IntKind.wrap IntKind.i64 (Int.ofNat 3 * Cfg.nodes c) + Int.ofNat 1)) (Int.ofNat 4096) != Int.ofNat 0) == false, true, true, true, true, true, true, (!slots4 c) == false, cfgK c, okSl c, true, true, true, true, true, true, (withinF (↑(Cfg.ns c)) (Int.ofNat 1) (Int.ofNat 16) != Int.ofNat 0) == false, true, (!pairs4 c) == false, cfgK c, okPr c, true, true, true, true, true, true, (withinF (↑(Cfg.np c)) (Int.ofNat 2) (Int.ofNat 8) != Int.ofNat 0) == false, true, (withinF (Cfg.nodes c) (Int.ofNat 4) (Int.ofNat 16) != Int.ofNat 0) == false, true, true], [LoopV Tryd.prog (loopAt Tryd.prog 16 1) [1, 5] [3, 1000] [some (AV.c (AC.ptr 1000 0 0)), some (AV.c (AC.v (Value.int IntKind.i64 (Int.ofNat 0))))] [some (ABlk.mk false false 53 3 (Cs.arr (Cfg.nt c) fun k => List.map AC.v ((fun i => [Value.int IntKind.i64 (Station.node (Cfg.ft c i)), Value.int IntKind.u32 (Station.safe (Cfg.ft c i)), Value.int IntKind.i64 (Station.hold (Cfg.ft c i))]) k))), some (ABlk.mk true false 25 0 (Cs.lit [AC.v (Value.int IntKind.i64 (Cfg.nodes c)), AC.sl 0 0 0 (Cfg.np c) none, AC.sl 1 0 0 (Cfg.ns c) none, AC.v (Value.int IntKind.i64 (Cfg.long c)), AC.sl 2 0 0 (Cfg.nb c) none, AC.sl 3 0 0 (Cfg.nt c) none, AC.v (Value.int IntKind.i64 (Cfg.miss c)), AC.v (Value.int IntKind.i64 (Cfg.good c)), AC.v (Value.int IntKind.i64 (Cfg.fresh c))]))] 125 100000000000000000000000000000000000000000000000007 (mkFr 125 [(1, AV.c (AC.ptr 1000 0 0))]) [(1000, cfgB c)] 10000000000000000000000000000000000000000000000000000 (Exit.exit 2) none, LoopV Tryd.prog (loopAt Tryd.prog 16 0) [1, 4] [2, 1000, 3] [some (AV.c (AC.ptr 1000 0 0)), some (AV.c (AC.v (Value.int IntKind.i64 (Int.ofNat 0))))] [some (ABlk.mk false false 3 1 (Cs.arr (Cfg.nb c) fun k => List.map AC.v ((fun i => [Value.int IntKind.i64 (Cfg.fb c i)]) k))), some (ABlk.mk true false 25 0 (Cs.lit [AC.v (Value.int IntKind.i64 (Cfg.nodes c)), AC.sl 0 0 0 (Cfg.np c) none, AC.sl 1 0 0 (Cfg.ns c) none, AC.v (Value.int IntKind.i64 (Cfg.long c)), AC.sl 2 0 0 (Cfg.nb c) none, AC.sl 3 0 0 (Cfg.nt c) none, AC.v (Value.int IntKind.i64 (Cfg.miss c)), AC.v (Value.int IntKind.i64 (Cfg.good c)), AC.v (Value.int IntKind.i64 (Cfg.fresh c))])), some (ABlk.mk false false 53 3 (Cs.arr (Cfg.nt c) fun k => List.map AC.v ((fun i => [Value.int IntKind.i64 (Station.node (Cfg.ft c i)), Value.int IntKind.u32 (Station.safe (Cfg.ft c i)), Value.int IntKind.i64 (Station.hold (Cfg.ft c i))]) k)))] 125 1043 (mkFr 125 [(1, AV.c (AC.ptr 1000 0 0))]) [(1000, cfgB c), (3, sts (Cfg.nt c) (Cfg.ft c))] 100000000000000000000000000000000000000000000000000 (Exit.exit 0) none])) ∧ ((withinF (Cfg.good c) (Int.ofNat 1) (Int.ofNat 100) != Int.ofNat 0) = false → (((withinF (Cfg.fresh c) (Int.ofNat 1) (Int.ofNat 100) != Int.ofNat 0) = true → Q (AV.c (AC.v (Value.int IntKind.i64 (withinF (Cfg.fresh c) (Int.ofNat 1) (Int.ofNat 100)))), [], 10000000000000000000000000000000000000000000000000044, [(withinF (Cfg.fresh c) (Int.ofNat 1) (Int.ofNat 100) != Int.ofNat 0) == true, true, true, true, (withinF (Cfg.good c) (Int.ofNat 1) (Int.ofNat 100) != Int.ofNat 0) == false, true, true, true, (withinF (Cfg.miss c) (Int.ofNat 1) (Int.ofNat 100) != Int.ofNat 0) == false, true, true, true, true, true, true, true, true, true, (withinF (↑(Cfg.nt c)) (Int.ofNat 0) (Int.ofNat 8) != Int.ofNat 0) == false, true, (↑(Cfg.nb c) != Cfg.nodes c) == false, true, true, true, (withinF (Cfg.long c) (if IntKind.wrap IntKind.i64 (Cfg.nodes c + Int.ofNat 116) > IntKind.wrap IntKind.i64 (IntKind.wrap IntKind.i64 (Int.ofNat 3 * Cfg.nodes c) + Int.ofNat 1) then IntKind.wrap IntKind.i64 (Cfg.nodes c + Int.ofNat 116) else IntKind.wrap IntKind.i64 (IntKind.wrap IntKind.i64 (Int.ofNat 3 * Cfg.nodes c) + Int.ofNat 1)) (Int.ofNat 4096) != Int.ofNat 0) == false, true, true, true, true, true, true, (!slots4 c) == false, cfgK c, okSl c, true, true, true, true, true, true, (withinF (↑(Cfg.ns c)) (Int.ofNat 1) (Int.ofNat 16) != Int.ofNat 0) == false, true, (!pairs4 c) == false, cfgK c, okPr c, true, true, true, true, true, true, (withinF (↑(Cfg.np c)) (Int.ofNat 2) (Int.ofNat 8) != Int.ofNat 0) == false, true, (withinF (Cfg.nodes c) (Int.ofNat 4) (Int.ofNat 16) != Int.ofNat 0) == false, true, true], [LoopV Tryd.prog (loopAt Tryd.prog 16 1) [1, 5] [3, 1000] [some (AV.c (AC.ptr 1000 0 0)), some (AV.c (AC.v (Value.int IntKind.i64 (Int.ofNat 0))))] [some (ABlk.mk false false 53 3 (Cs.arr (Cfg.nt c) fun k => List.map AC.v ((fun i => [Value.int IntKind.i64 (Station.node (Cfg.ft c i)), Value.int IntKind.u32 (Station.safe (Cfg.ft c i)), Value.int IntKind.i64 (Station.hold (Cfg.ft c i))]) k))), some (ABlk.mk true false 25 0 (Cs.lit [AC.v (Value.int IntKind.i64 (Cfg.nodes c)), AC.sl 0 0 0 (Cfg.np c) none, AC.sl 1 0 0 (Cfg.ns c) none, AC.v (Value.int IntKind.i64 (Cfg.long c)), AC.sl 2 0 0 (Cfg.nb c) none, AC.sl 3 0 0 (Cfg.nt c) none, AC.v (Value.int IntKind.i64 (Cfg.miss c)), AC.v (Value.int IntKind.i64 (Cfg.good c)), AC.v (Value.int IntKind.i64 (Cfg.fresh c))]))] 125 100000000000000000000000000000000000000000000000007 (mkFr 125 [(1, AV.c (AC.ptr 1000 0 0))]) [(1000, cfgB c)] 10000000000000000000000000000000000000000000000000000 (Exit.exit 2) none, LoopV Tryd.prog (loopAt Tryd.prog 16 0) [1, 4] [2, 1000, 3] [some (AV.c (AC.ptr 1000 0 0)), some (AV.c (AC.v (Value.int IntKind.i64 (Int.ofNat 0))))] [some (ABlk.mk false false 3 1 (Cs.arr (Cfg.nb c) fun k => List.map AC.v ((fun i => [Value.int IntKind.i64 (Cfg.fb c i)]) k))), some (ABlk.mk true false 25 0 (Cs.lit [AC.v (Value.int IntKind.i64 (Cfg.nodes c)), AC.sl 0 0 0 (Cfg.np c) none, AC.sl 1 0 0 (Cfg.ns c) none, AC.v (Value.int IntKind.i64 (Cfg.long c)), AC.sl 2 0 0 (Cfg.nb c) none, AC.sl 3 0 0 (Cfg.nt c) none, AC.v (Value.int IntKind.i64 (Cfg.miss c)), AC.v (Value.int IntKind.i64 (Cfg.good c)), AC.v (Value.int IntKind.i64 (Cfg.fresh c))])), some (ABlk.mk false false 53 3 (Cs.arr (Cfg.nt c) fun k => List.map AC.v ((fun i => [Value.int IntKind.i64 (Station.node (Cfg.ft c i)), Value.int IntKind.u32 (Station.safe (Cfg.ft c i)), Value.int IntKind.i64 (Station.hold (Cfg.ft c i))]) k)))] 125 1043 (mkFr 125 [(1, AV.c (AC.ptr 1000 0 0))]) [(1000, cfgB c), (3, sts (Cfg.nt c) (Cfg.ft c))] 100000000000000000000000000000000000000000000000000 (Exit.exit 0) none])) ∧ ((withinF (Cfg.fresh c) (Int.ofNat 1) (Int.ofNat 100) != Int.ofNat 0) = false → Q (AV.c (AC.v (Value.int IntKind.i64 (Int.ofNat 0))), [], 10000000000000000000000000000000000000000000000000048, [(withinF (Cfg.fresh c) (Int.ofNat 1) (Int.ofNat 100) != Int.ofNat 0) == false, true, true, true, (withinF (Cfg.good c) (Int.ofNat 1) (Int.ofNat 100) != Int.ofNat 0) == false, true, true, true, (withinF (Cfg.miss c) (Int.ofNat 1) (Int.ofNat 100) != Int.ofNat 0) == false, true, true, true, true, true, true, true, true, true, (withinF (↑(Cfg.nt c)) (Int.ofNat 0) (Int.ofNat 8) != Int.ofNat 0) == false, true, (↑(Cfg.nb c) != Cfg.nodes c) == false, true, true, true, (withinF (Cfg.long c) (if IntKind.wrap IntKind.i64 (Cfg.nodes c + Int.ofNat 116) > IntKind.wrap IntKind.i64 (IntKind.wrap IntKind.i64 (Int.ofNat 3 * Cfg.nodes c) + Int.ofNat 1) then IntKind.wrap IntKind.i64 (Cfg.nodes c + Int.ofNat 116) else IntKind.wrap IntKind.i64 (IntKind.wrap IntKind.i64 (Int.ofNat 3 * Cfg.nodes c) + Int.ofNat 1)) (Int.ofNat 4096) != Int.ofNat 0) == false, true, true, true, true, true, true, (!slots4 c) == false, cfgK c, okSl c, true, true, true, true, true, true, (withinF (↑(Cfg.ns c)) (Int.ofNat 1) (Int.ofNat 16) != Int.ofNat 0) == false, true, (!pairs4 c) == false, cfgK c, okPr c, true, true, true, true, true, true, (withinF (↑(Cfg.np c)) (Int.ofNat 2) (Int.ofNat 8) != Int.ofNat 0) == false, true, (withinF (Cfg.nodes c) (Int.ofNat 4) (Int.ofNat 16) != Int.ofNat 0) == false, true, true], [LoopV Tryd.prog (loopAt Tryd.prog 16 1) [1, 5] [3, 1000] [some (AV.c (AC.ptr 1000 0 0)), some (AV.c (AC.v (Value.int IntKind.i64 (Int.ofNat 0))))] [some (ABlk.mk false false 53 3 (Cs.arr (Cfg.nt c) fun k => List.map AC.v ((fun i => [Value.int IntKind.i64 (Station.node (Cfg.ft c i)), Value.int IntKind.u32 (Station.safe (Cfg.ft c i)), Value.int IntKind.i64 (Station.hold (Cfg.ft c i))]) k))), some (ABlk.mk true false 25 0 (Cs.lit [AC.v (Value.int IntKind.i64 (Cfg.nodes c)), AC.sl 0 0 0 (Cfg.np c) none, AC.sl 1 0 0 (Cfg.ns c) none, AC.v (Value.int IntKind.i64 (Cfg.long c)), AC.sl 2 0 0 (Cfg.nb c) none, AC.sl 3 0 0 (Cfg.nt c) none, AC.v (Value.int IntKind.i64 (Cfg.miss c)), AC.v (Value.int IntKind.i64 (Cfg.good c)), AC.v (Value.int IntKind.i64 (Cfg.fresh c))]))] 125 100000000000000000000000000000000000000000000000007 (mkFr 125 [(1, AV.c (AC.ptr 1000 0 0))]) [(1000, cfgB c)] 10000000000000000000000000000000000000000000000000000 (Exit.exit 2) none, LoopV Tryd.prog (loopAt Tryd.prog 16 0) [1, 4] [2, 1000, 3] [some (AV.c (AC.ptr 1000 0 0)), some (AV.c (AC.v (Value.int IntKind.i64 (Int.ofNat 0))))] [some (ABlk.mk false false 3 1 (Cs.arr (Cfg.nb c) fun k => List.map AC.v ((fun i => [Value.int IntKind.i64 (Cfg.fb c i)]) k))), some (ABlk.mk true false 25 0 (Cs.lit [AC.v (Value.int IntKind.i64 (Cfg.nodes c)), AC.sl 0 0 0 (Cfg.np c) none, AC.sl 1 0 0 (Cfg.ns c) none, AC.v (Value.int IntKind.i64 (Cfg.long c)), AC.sl 2 0 0 (Cfg.nb c) none, AC.sl 3 0 0 (Cfg.nt c) none, AC.v (Value.int IntKind.i64 (Cfg.miss c)), AC.v (Value.int IntKind.i64 (Cfg.good c)), AC.v (Value.int IntKind.i64 (Cfg.fresh c))])), some (ABlk.mk false false 53 3 (Cs.arr (Cfg.nt c) fun k => List.map AC.v ((fun i => [Value.int IntKind.i64 (Station.node (Cfg.ft c i)), Value.int IntKind.u32 (Station.safe (Cfg.ft c i)), Value.int IntKind.i64 (Station.hold (Cfg.ft c i))]) k)))] 125 1043 (mkFr 125 [(1, AV.c (AC.ptr 1000 0 0))]) [(1000, cfgB c), (3, sts (Cfg.nt c) (Cfg.ft c))] 100000000000000000000000000000000000000000000000000 (Exit.exit 0) none])))))))))))))))))))))))) :
    ∃ p r, n4R Tryd.prog c [some (n4S1 (.exit 0) [(1, .c (.ptr 1000 0 0))] [(1000, cfgB c), (3, sts c.nt c.ft)]), some (n4S2 (.exit 2) [(1, .c (.ptr 1000 0 0))] [(1000, cfgB c)])] p = some r ∧ Q r := by
  rcases Bool.eq_false_or_eq_true (withinF (Cfg.nodes c) (Int.ofNat 4) (Int.ofNat 16) != Int.ofNat 0) with h2 | h2
  · have g2 := H.1 h2
    exact ⟨([.b true] : List Dec), _, by kernel_rfl, g2⟩
  · have g2 := H.2 h2
    rcases Bool.eq_false_or_eq_true (withinF (↑(Cfg.np c)) (Int.ofNat 2) (Int.ofNat 8) != Int.ofNat 0) with h4 | h4
    · have g4 := g2.1 h4
      exact ⟨([.b false, .b true] : List Dec), _, by kernel_rfl, g4⟩
    · have g4 := g2.2 h4
      rcases Bool.eq_false_or_eq_true (!pairs4 c) with h6 | h6
      · have g6 := g4.1 h6
        exact ⟨([.b false, .b false, .b true] : List Dec), _, by kernel_rfl, g6⟩
      · have g6 := g4.2 h6
        rcases Bool.eq_false_or_eq_true (withinF (↑(Cfg.ns c)) (Int.ofNat 1) (Int.ofNat 16) != Int.ofNat 0) with h8 | h8
        · have g8 := g6.1 h8
          exact ⟨([.b false, .b false, .b false, .b true] : List Dec), _, by kernel_rfl, g8⟩
        · have g8 := g6.2 h8
          rcases Bool.eq_false_or_eq_true (!slots4 c) with h10 | h10
          · have g10 := g8.1 h10
            exact ⟨([.b false, .b false, .b false, .b false, .b true] : List Dec), _, by kernel_rfl, g10⟩
          · have g10 := g8.2 h10
            rcases Bool.eq_false_or_eq_true (withinF (Cfg.long c) (if IntKind.wrap IntKind.i64 (Cfg.nodes c + Int.ofNat 116) > IntKind.wrap IntKind.i64 (IntKind.wrap IntKind.i64 (Int.ofNat 3 * Cfg.nodes c) + Int.ofNat 1) then IntKind.wrap IntKind.i64 (Cfg.nodes c + Int.ofNat 116) else IntKind.wrap IntKind.i64 (IntKind.wrap IntKind.i64 (Int.ofNat 3 * Cfg.nodes c) + Int.ofNat 1)) (Int.ofNat 4096) != Int.ofNat 0) with h12 | h12
            · have g12 := g10.1 h12
              exact ⟨([.b false, .b false, .b false, .b false, .b false, .b true] : List Dec), _, by kernel_rfl, g12⟩
            · have g12 := g10.2 h12
              rcases Bool.eq_false_or_eq_true (↑(Cfg.nb c) != Cfg.nodes c) with h14 | h14
              · have g14 := g12.1 h14
                exact ⟨([.b false, .b false, .b false, .b false, .b false, .b false, .b true] : List Dec), _, by kernel_rfl, g14⟩
              · have g14 := g12.2 h14
                rcases Bool.eq_false_or_eq_true (withinF (↑(Cfg.nt c)) (Int.ofNat 0) (Int.ofNat 8) != Int.ofNat 0) with h16 | h16
                · have g16 := g14.1 h16
                  exact ⟨([.b false, .b false, .b false, .b false, .b false, .b false, .b false, .b true] : List Dec), _, by kernel_rfl, g16⟩
                · have g16 := g14.2 h16
                  rcases Bool.eq_false_or_eq_true (withinF (Cfg.miss c) (Int.ofNat 1) (Int.ofNat 100) != Int.ofNat 0) with h18 | h18
                  · have g18 := g16.1 h18
                    exact ⟨([.b false, .b false, .b false, .b false, .b false, .b false, .b false, .b false, .a, .b true] : List Dec), _, by kernel_rfl, g18⟩
                  · have g18 := g16.2 h18
                    rcases Bool.eq_false_or_eq_true (withinF (Cfg.good c) (Int.ofNat 1) (Int.ofNat 100) != Int.ofNat 0) with h20 | h20
                    · have g20 := g18.1 h20
                      exact ⟨([.b false, .b false, .b false, .b false, .b false, .b false, .b false, .b false, .a, .b false, .a, .b true] : List Dec), _, by kernel_rfl, g20⟩
                    · have g20 := g18.2 h20
                      rcases Bool.eq_false_or_eq_true (withinF (Cfg.fresh c) (Int.ofNat 1) (Int.ofNat 100) != Int.ofNat 0) with h22 | h22
                      · have g22 := g20.1 h22
                        exact ⟨([.b false, .b false, .b false, .b false, .b false, .b false, .b false, .b false, .a, .b false, .a, .b false, .a, .b true] : List Dec), _, by kernel_rfl, g22⟩
                      · have g22 := g20.2 h22
                        exact ⟨([.b false, .b false, .b false, .b false, .b false, .b false, .b false, .b false, .a, .b false, .a, .b false, .a, .b false, .a] : List Dec), _, by kernel_rfl, g22⟩
end Go.Proofs.YtiflbhmccenemaaDoor
end
/- sennitref04.New: its loops' sums. -/
section
namespace Go.Proofs.YtiflbhmccenemaaDoor
open Go.RowKit

theorem ct_within : CtOk Tryd.prog 62 ctWithin := by
  refine ⟨⟨_, _, Tryd.func62, rfl⟩, fun C β m m2 w args ib r news k' ob vs hct ho hs hr hfree hlim hv => ?_⟩
  unfold ctWithin at hct
  split at hct
  · rename_i x lo hi
    simp only [Option.some.injEq, Prod.mk.injEq] at hct
    obtain ⟨rfl, rfl, rfl, rfl⟩ := hct
    cases hv
    have run : ∃ p r, wiR Tryd.prog x lo hi p = some r ∧ (r.1 = i64 (withinF x lo hi) ∧ r.2.2.1 ≤ lim ∧ allT r.2.2.2.1 ∧ ∀ q ∈ r.2.2.2.2, q) := by
      refine wi x lo hi _ ?_
      repeat' (first | refine ⟨fun h => ?_, fun h => ?_⟩ | fail)
      all_goals (refine ⟨?_, (by first | (unfold lim; omega) | (dsimp only; unfold lim; omega)), ?_, by simp⟩)
      all_goals (simp_all [allT, withinF, i64])
      all_goals (try omega)
      all_goals (rw [if_neg (by omega), if_neg (by omega)])
    obtain ⟨p, ⟨v, b', n', ob, po⟩, hrun, hvr, hn, hob, hpo⟩ := run
    obtain ⟨s', r1, r2, r3, r4⟩ := viewF_out hrun
    have hn : n' ≤ lim := hn
    refine (calls_f hE1 r1 ⟨by rw [r3]; exact hob, by rw [r4]; exact hpo⟩ (C := loneC w) (β := fun _ => none) (w := w) (vs := [.int .i64 x, .int .i64 lo, .int .i64 hi]) rfl (rel_nil w) (fun _ _ _ => rfl)).mono ?_
    rintro e w' ⟨β', u, rfl, _, _, hu, hr'⟩
    simp only at hvr
    subst hvr
    cases hu
    exact ⟨β, _, rfl, Ext.refl _, fun _ _ => rfl, rfl, by rw [List.append_nil]; exact hr.below (below_lone hr')⟩
  · cases hct
theorem hENq : EnvOk (ENq Tryd.prog) := by
  refine envOk (fun f g h => ?_) (by kernel_rfl) (by kernel_rfl)
  simp only [ENq, List.mem_cons, Prod.mk.injEq, List.not_mem_nil, or_false] at h
  rcases h with ⟨rfl, rfl⟩ | ⟨rfl, rfl⟩ | ⟨rfl, rfl⟩
  · exact ct_within
  · exact ct_pairs4
  · exact ct_slots4
theorem nb_sum (c : Cfg) (N : Nat) (hN : 1001 ≤ N) (hN2 : N ≤ 1000000000000000000000000000000000000000000) (hn : c.nb ≤ 1000000) (j : Nat) (hj : j ≤ c.nb) (hmin : ∀ i, i < j → withinF (c.fb i) 0 4096 = 0) (hyes : j < c.nb → withinF (c.fb j) 0 4096 ≠ 0) {e : Exit} {out : List (Nat × AV)} {mF : AMem}
    (hF : (j < c.nb → e = .ret ∧ out = [(2, i64 (withinF (c.fb j) 0 4096))] ∧ mF = []) ∧ (j = c.nb → e = .exit 0 ∧ out = [(1, .c (.ptr 1000 0 0))] ∧ mF = [(1000, cfgB c), (3, sts c.nt c.ft)])) :
    LoopV Tryd.prog (loopAt Tryd.prog 16 0) [1, 4] [2, 1000, 3] ((nbV 0).map some) ([ints 3 c.nb c.fb, cfgB c, sts c.nt c.ft].map some) 125 N (mkFr 125 out) mF 100000000000000000000000000000000000000000000000000 e none := by
  refine scan_ob hENq (fuel := 300) (str := 10000000000000000000000000000000000000000) (nh := 1000000000000000000000000000000000000000000) [1, 4] [2] [2, 1000, 3] nbV [ints 3 c.nb c.fb, cfgB c, sts c.nt c.ft] j hN2 (by decide) (by unfold lim; omega) ?_ (fun _ => ⟨rfl, rfl⟩) ?_ ?_ ?_ ?_ ?_
  · rcases Nat.lt_or_ge j c.nb with h | h
    · rw [(hF.1 h).1]; simp
    · rw [(hF.2 (by omega)).1]; simp
  · simp [keptB]; omega
  · intro k _
    simp [okV, lowV, lowC, notAny, i64]; omega
  · intro b hb
    simp only [List.mem_cons, List.not_mem_nil, or_false] at hb
    rcases hb with rfl | rfl | rfl
    · exact ints_low
    · exact cfgB_low (by omega)
    · exact rBlk_low
  · intro k hk
    have hm := hmin k hk
    have hw : IntKind.wrap IntKind.i64 (Int.ofNat k + Int.ofNat 1) = Int.ofNat (k + 1) := by rw [wrap_nat _ (by simp; omega) (by simp; omega)]; rfl
    have ek : 0 + Int.toNat (Int.ofNat k) = k := by simp
    refine nbt c k _ ?_
    simp only [ek]
    refine ⟨fun c1 => ⟨fun c2 => ?_, fun c2 => ?_⟩, fun c1 => ?_⟩
    · exfalso; simp [hm] at c2
    · refine ⟨⟨?_, rfl, by dsimp only; omega, rfl⟩, rfl, ?_, BL.refl _⟩
      · simp only [allT, List.forall_mem_cons, inb_arr, inb_lit]
        simp [hm]; omega
      · dsimp only; rw [hw]; rfl
    · exfalso; simp at c1; omega
  · have ek : 0 + Int.toNat (Int.ofNat j) = j := by simp
    refine nbt c j _ ?_
    simp only [ek]
    refine ⟨fun c1 => ⟨fun c2 => ?_, fun c2 => ?_⟩, fun c1 => ?_⟩
    · have hlt : j < c.nb := by simpa using c1
      obtain ⟨rfl, rfl, rfl⟩ := hF.1 hlt
      refine EndV_one ⟨?_, rfl, by dsimp only; omega, rfl⟩ rfl rfl (by simp [i64])
      have hy := hyes hlt
      simp [allT, inb_arr, inb_lit, hlt, hy]
    · have hlt : j < c.nb := by simpa using c1
      exfalso
      simp [hyes hlt] at c2
    · have hlt : ¬ j < c.nb := by simpa using c1
      obtain ⟨rfl, rfl, rfl⟩ := hF.2 (by omega)
      refine ⟨⟨?_, rfl, by dsimp only; omega, rfl⟩, rfl, fun q hq => ?_, fun p hpp => ?_⟩
      · simp [allT]; omega
      · rw [List.mem_singleton.1 hq]
        exact ⟨by simp [okV, lowV, lowC, notAny]; omega, by simp [lkA]⟩
      · simp only [List.mem_cons, List.not_mem_nil, or_false] at hpp
        rcases hpp with rfl | rfl
        · exact ⟨by simp [keptB]; omega, cfgB_low (by omega), cfgB c, by dsimp only [List.zip, List.zipWith]; exact List.mem_cons_of_mem _ (List.mem_cons_self ..), BEq.refl _⟩
        · exact ⟨by simp [keptB]; omega, rBlk_low, sts c.nt c.ft, by dsimp only [List.zip, List.zipWith]; exact List.mem_cons_of_mem _ (List.mem_cons_of_mem _ (List.mem_cons_self ..)), BEq.refl _⟩
theorem nt_sum (c : Cfg) (N : Nat) (hN : 1001 ≤ N) (hN2 : N ≤ 1000000000000000000000000000000000000000000000000000) (hn : c.nt ≤ 1000000) (j : Nat) (hj : j ≤ c.nt) (hmin : ∀ i, i < j → ruleSt c i = 0) (hyes : j < c.nt → ruleSt c j ≠ 0) {e : Exit} {out : List (Nat × AV)} {mF : AMem}
    (hF : (j < c.nt → e = .ret ∧ out = [(2, i64 (ruleSt c j))] ∧ mF = []) ∧ (j = c.nt → e = .exit 2 ∧ out = [(1, .c (.ptr 1000 0 0))] ∧ mF = [(1000, cfgB c)])) :
    LoopV Tryd.prog (loopAt Tryd.prog 16 1) [1, 5] [3, 1000] ((nbV 0).map some) ([sts c.nt c.ft, cfgB c].map some) 125 N (mkFr 125 out) mF 10000000000000000000000000000000000000000000000000000 e none := by
  refine scan_ob hENq (fuel := 300) (str := 10000000000000000000000000000000000000000) (nh := 1000000000000000000000000000000000000000000000000000) [1, 5] [2] [3, 1000] nbV [sts c.nt c.ft, cfgB c] j hN2 (by decide) (by unfold lim; omega) ?_ (fun _ => ⟨rfl, rfl⟩) ?_ ?_ ?_ ?_ ?_
  · rcases Nat.lt_or_ge j c.nt with h | h
    · rw [(hF.1 h).1]; simp
    · rw [(hF.2 (by omega)).1]; simp
  · simp [keptB]; omega
  · intro k _
    simp [okV, lowV, lowC, notAny, i64]; omega
  · intro b hb
    simp only [List.mem_cons, List.not_mem_nil, or_false] at hb
    rcases hb with rfl | rfl
    · exact rBlk_low
    · exact cfgB_low (by omega)
  · intro k hk
    have hm := hmin k hk
    have hlt : k < c.nt := by omega
    have hw : IntKind.wrap IntKind.i64 (Int.ofNat k + Int.ofNat 1) = Int.ofNat (k + 1) := by rw [wrap_nat _ (by simp; omega) (by simp; omega)]; rfl
    have ek : 0 + Int.toNat (Int.ofNat k) = k := by simp
    have hb : 0 ≤ (c.ft k).node ∧ (c.ft k).node < c.nodes := by
      unfold ruleSt at hm
      split at hm
      · assumption
      · cases hm
    have hh : withinF (c.ft k).hold 1 100 = 0 := by unfold ruleSt at hm; rw [if_pos hb] at hm; exact hm
    refine ntt c k _ ?_
    simp only [ek]
    repeat' (first | refine ⟨fun h => ?_, fun h => ?_⟩ | fail)
    all_goals (first | (exfalso; simp at *; omega) | (exfalso; simp [hh] at h; done) | skip)
    refine ⟨⟨?_, rfl, by dsimp only; omega, rfl⟩, rfl, ?_, BL.refl _⟩
    · simp only [allT, List.forall_mem_cons, inb_arr, inb_lit]
      simp [hh]; omega
    · dsimp only; rw [hw]; rfl
  · have ek : 0 + Int.toNat (Int.ofNat j) = j := by simp
    refine ntt c j _ ?_
    simp only [ek]
    rcases Nat.lt_or_ge j c.nt with hlt | hge
    · obtain ⟨rfl, rfl, rfl⟩ := hF.1 hlt
      have hy := hyes hlt
      unfold ruleSt at hy ⊢
      by_cases hb : 0 ≤ (c.ft j).node ∧ (c.ft j).node < c.nodes
      · rw [if_pos hb] at hy ⊢
        repeat' (first | refine ⟨fun h => ?_, fun h => ?_⟩ | fail)
        all_goals (first | (exfalso; simp at *; omega) | (exfalso; simp [hy] at h; done) | skip)
        refine EndV_one ⟨?_, rfl, by dsimp only; omega, rfl⟩ rfl rfl (by simp [i64])
        simp only [allT, List.forall_mem_cons, inb_arr, inb_lit]
        simp [hy]; omega
      · rw [if_neg hb] at hy ⊢
        repeat' (first | refine ⟨fun h => ?_, fun h => ?_⟩ | fail)
        all_goals (first | (exfalso; simp at *; omega) | skip)
        all_goals (refine EndV_one ⟨?_, rfl, by dsimp only; omega, rfl⟩ rfl rfl (by simp [i64]))
        all_goals (simp only [allT, List.forall_mem_cons, inb_arr, inb_lit]; simp at *; omega)
    · obtain rfl : j = c.nt := by omega
      obtain ⟨rfl, rfl, rfl⟩ := hF.2 rfl
      repeat' (first | refine ⟨fun h => ?_, fun h => ?_⟩ | fail)
      all_goals (first | (exfalso; simp at *; done) | skip)
      refine ⟨⟨?_, rfl, by dsimp only; omega, rfl⟩, rfl, fun q hq => ?_, fun p hpp => ?_⟩
      · simp [allT]
      · rw [List.mem_singleton.1 hq]
        exact ⟨by simp [okV, lowV, lowC, notAny]; omega, by simp [lkA]⟩
      · rw [List.mem_singleton.1 hpp]
        exact ⟨by simp [keptB]; omega, cfgB_low (by omega), cfgB c, by dsimp only [List.zip, List.zipWith]; exact List.mem_cons_of_mem _ (List.mem_cons_self ..), BEq.refl _⟩
end Go.Proofs.YtiflbhmccenemaaDoor
end
/- sennitref04.New: contract. -/
section
namespace Go.Proofs.YtiflbhmccenemaaDoor
open Go.RowKit

def ref4 (c : Cfg) : Int :=
  if rule1 c ≠ 0 then rule1 c else if rule2 c ≠ 0 then rule2 c else if pairs4 c = false then 1 else if rule4 c ≠ 0 then rule4 c else if slots4 c = false then 1 else if rule6 c ≠ 0 then rule6 c else if rule7 c ≠ 0 then rule7 c else if rule8 c ≠ 0 then rule8 c else if rule9 c ≠ 0 then rule9 c else rule10 c
def n4V (c : Cfg) (r : VF) : Prop := r.1 = i64 (ref4 c) ∧ r.2.2.1 ≤ lim ∧ allT r.2.2.2.1 ∧ ∀ q ∈ r.2.2.2.2, q
theorem max_if {n : Int} (h4 : 4 ≤ n) (h16 : n ≤ 16) : (if IntKind.wrap IntKind.i64 (n + Int.ofNat 116) > IntKind.wrap IntKind.i64 (IntKind.wrap IntKind.i64 (Int.ofNat 3 * n) + Int.ofNat 1) then IntKind.wrap IntKind.i64 (n + Int.ofNat 116) else IntKind.wrap IntKind.i64 (IntKind.wrap IntKind.i64 (Int.ofNat 3 * n) + Int.ofNat 1)) = max (3 * n + 1) (n + 116) := by
  have w1 : IntKind.wrap IntKind.i64 (n + Int.ofNat 116) = n + 116 := by
    rw [wrap_nat _ (by simp; omega) (by simp; omega)]; simp
  have w2 : IntKind.wrap IntKind.i64 (IntKind.wrap IntKind.i64 (Int.ofNat 3 * n) + Int.ofNat 1) = 3 * n + 1 := by
    rw [wrap_nat (Int.ofNat 3 * n) (by simp; omega) (by simp; omega), wrap_nat _ (by simp; omega) (by simp; omega)]; simp
  rw [w1, w2]
  split <;> omega
theorem each_stop {f : Nat → Int} {n j : Nat} {lo hi : Int} (hmin : ∀ i, i < j → withinF (f i) lo hi = 0) (hj : j < n) (hy : withinF (f j) lo hi ≠ 0) : eachF f n lo hi = withinF (f j) lo hi := by
  unfold eachF
  rw [find_first (j := j) (fun i hi => by simp [hmin i hi]) (Nat.le_of_lt hj) (fun _ => by simp [hy]), if_pos hj]
theorem each_end {f : Nat → Int} {n : Nat} {lo hi : Int} (hmin : ∀ i, i < n → withinF (f i) lo hi = 0) : eachF f n lo hi = 0 := by
  unfold eachF
  rw [find_first (j := n) (fun i hi => by simp [hmin i hi]) (Nat.le_refl _) (fun h => absurd h (Nat.lt_irrefl _)), if_neg (Nat.lt_irrefl _)]
theorem rule9_stop {c : Cfg} {j : Nat} (hmin : ∀ i, i < j → ruleSt c i = 0) (hj : j < c.nt) (hy : ruleSt c j ≠ 0) : rule9 c = ruleSt c j := by
  unfold rule9
  rw [find_first (j := j) (fun i hi => by simp [hmin i hi]) (Nat.le_of_lt hj) (fun _ => by simp [hy]), if_pos hj]
theorem rule9_end {c : Cfg} (hmin : ∀ i, i < c.nt → ruleSt c i = 0) : rule9 c = 0 := by
  unfold rule9
  rw [find_first (j := c.nt) (fun i hi => by simp [hmin i hi]) (Nat.le_refl _) (fun h => absurd h (Nat.lt_irrefl _)), if_neg (Nat.lt_irrefl _)]
theorem ref4_run (c : Cfg) : ∃ p lp r, n4R Tryd.prog c lp p = some r ∧ n4V c r := by
  have f2 : rule2 c = 0 → 2 ≤ c.np ∧ c.np ≤ 8 := fun h => by have := withinF_zero h; omega
  have f4 : rule4 c = 0 → 1 ≤ c.ns ∧ c.ns ≤ 16 := fun h => by have := withinF_zero h; omega
  have f8 : rule8 c = 0 → c.nt ≤ 8 := fun h => by have := withinF_zero h; omega
  have f1 : rule1 c = 0 → 4 ≤ c.nodes ∧ c.nodes ≤ 16 := fun h => withinF_zero h
  obtain ⟨j, hj, hmin, hyes⟩ := first_stopP c.nb fun i => withinF (c.fb i) 0 4096 ≠ 0
  simp only [ne_eq, Decidable.not_not] at hmin
  obtain ⟨i, hi, him, hiy⟩ := first_stopP c.nt fun i => ruleSt c i ≠ 0
  simp only [ne_eq, Decidable.not_not] at him
  have r1 : withinF (Cfg.nodes c) (Int.ofNat 4) (Int.ofNat 16) = rule1 c := rfl
  have r2 : withinF (↑(Cfg.np c)) (Int.ofNat 2) (Int.ofNat 8) = rule2 c := rfl
  have r4 : withinF (↑(Cfg.ns c)) (Int.ofNat 1) (Int.ofNat 16) = rule4 c := rfl
  have r6 : withinF (Cfg.long c) (max (3 * Cfg.nodes c + 1) (Cfg.nodes c + 116)) (Int.ofNat 4096) = rule6 c := rfl
  have r8 : withinF (↑(Cfg.nt c)) (Int.ofNat 0) (Int.ofNat 8) = rule8 c := rfl
  have z1 : Int.ofNat 1 = 1 := rfl
  have z0 : Int.ofNat 0 = 0 := rfl
  have z100 : Int.ofNat 100 = 100 := rfl
  by_cases h1 : rule1 c = 0
  · obtain ⟨g4, g16⟩ := f1 h1
    have hmx := max_if g4 g16
    rcases Nat.lt_or_ge j c.nb with hlt | hge
    · have hy := hyes hlt
      have e7 : (c.nb : Int) = c.nodes → rule7 c = withinF (c.fb j) 0 4096 := fun h => by unfold rule7; rw [if_pos h, each_stop hmin hlt hy]
      have e7' : ¬ (c.nb : Int) = c.nodes → rule7 c = 1 := fun h => by unfold rule7; rw [if_neg h]
      refine (?_ : (∃ p r, n4R Tryd.prog c [some (n4S1 .ret [(2, i64 (withinF (c.fb j) 0 4096))] [])] p = some r ∧ n4V c r) → _) (n4A c (withinF (c.fb j) 0 4096) (n4V c) ?_)
      · rintro ⟨p, r, q1, q2⟩
        exact ⟨p, _, r, q1, q2⟩
      simp only [cfgI_eq, cfgK_t, intsOk_ints, stsOk_sts, r1, r2, r4, hmx, r6, r8]
      repeat' (first | refine ⟨fun h => ?_, fun h => ?_⟩ | fail)
      all_goals (simp only [bne_iff_ne, ne_eq, bne_eq_false_iff_eq, Bool.not_eq_true', Bool.not_eq_false', z0, z1] at *)
      all_goals (refine ⟨?_, (by first | (unfold lim; omega) | (dsimp only; unfold lim; omega)), ?_, ?_⟩)
      all_goals (first
        | (intro q hq; cases hq; done)
        | (intro q hq
           rw [List.mem_singleton.1 hq]
           exact nb_sum c _ (by omega) (by omega) (by omega) j hj hmin (fun _ => hy) ⟨fun _ => ⟨rfl, rfl, rfl⟩, fun h => by omega⟩)
        | (simp_all [ref4, i64]; done)
        | (simp_all [allT, okPr, okSl]; done)
        | (simp_all [allT, okPr, okSl]; omega)
        | fail)
    · obtain rfl : j = c.nb := by omega
      have e7 : (c.nb : Int) = c.nodes → rule7 c = 0 := fun h => by unfold rule7; rw [if_pos h, each_end hmin]
      have e7' : ¬ (c.nb : Int) = c.nodes → rule7 c = 1 := fun h => by unfold rule7; rw [if_neg h]
      have r10a : withinF (Cfg.miss c) (Int.ofNat 1) (Int.ofNat 100) = withinF c.miss 1 100 := rfl
      have r10b : withinF (Cfg.good c) (Int.ofNat 1) (Int.ofNat 100) = withinF c.good 1 100 := rfl
      have r10c : withinF (Cfg.fresh c) (Int.ofNat 1) (Int.ofNat 100) = withinF c.fresh 1 100 := rfl
      rcases Nat.lt_or_ge i c.nt with hlt | hge
      · have hy := hiy hlt
        have e9 : rule9 c = ruleSt c i := rule9_stop him hlt hy
        refine (?_ : (∃ p r, n4R Tryd.prog c [some (n4S1 (.exit 0) [(1, .c (.ptr 1000 0 0))] [(1000, cfgB c), (3, sts c.nt c.ft)]), some (n4S2 .ret [(2, i64 (ruleSt c i))] [])] p = some r ∧ n4V c r) → _) (n4B c (ruleSt c i) (n4V c) ?_)
        · rintro ⟨p, r, q1, q2⟩
          exact ⟨p, _, r, q1, q2⟩
        simp only [cfgI_eq, cfgK_t, intsOk_ints, stsOk_sts, r1, r2, r4, hmx, r6, r8, r10a, r10b, r10c]
        repeat' (first | refine ⟨fun h => ?_, fun h => ?_⟩ | fail)
        all_goals (simp only [bne_iff_ne, ne_eq, bne_eq_false_iff_eq, Bool.not_eq_true', Bool.not_eq_false', z0, z1] at *)
        all_goals (refine ⟨?_, (by first | (unfold lim; omega) | (dsimp only; unfold lim; omega)), ?_, ?_⟩)
        all_goals (first
          | (intro q hq; cases hq; done)
          | (intro q hq
             rw [List.mem_singleton.1 hq]
             exact nb_sum c _ (by omega) (by omega) (by omega) c.nb (Nat.le_refl _) hmin (fun h => by omega) ⟨fun h => by omega, fun _ => ⟨rfl, rfl, rfl⟩⟩)
          | (intro q hq
             simp only [List.mem_cons, List.not_mem_nil, or_false] at hq
             rcases hq with rfl | rfl
             · exact nt_sum c _ (by omega) (by omega) (by omega) i hi him (fun _ => hy) ⟨fun _ => ⟨rfl, rfl, rfl⟩, fun h => by omega⟩
             · exact nb_sum c _ (by omega) (by omega) (by omega) c.nb (Nat.le_refl _) hmin (fun h => by omega) ⟨fun h => by omega, fun _ => ⟨rfl, rfl, rfl⟩⟩)
          | (simp_all [ref4, i64, rule10]; done)
          | (simp_all [allT, okPr, okSl]; done)
          | (simp_all [allT, okPr, okSl]; omega)
          | fail)
      · obtain rfl : i = c.nt := by omega
        have e9 : rule9 c = 0 := rule9_end him
        refine (?_ : (∃ p r, n4R Tryd.prog c [some (n4S1 (.exit 0) [(1, .c (.ptr 1000 0 0))] [(1000, cfgB c), (3, sts c.nt c.ft)]), some (n4S2 (.exit 2) [(1, .c (.ptr 1000 0 0))] [(1000, cfgB c)])] p = some r ∧ n4V c r) → _) (n4C c (n4V c) ?_)
        · rintro ⟨p, r, q1, q2⟩
          exact ⟨p, _, r, q1, q2⟩
        simp only [cfgI_eq, cfgK_t, intsOk_ints, stsOk_sts, r1, r2, r4, hmx, r6, r8, r10a, r10b, r10c]
        repeat' (first | refine ⟨fun h => ?_, fun h => ?_⟩ | fail)
        all_goals (simp only [bne_iff_ne, ne_eq, bne_eq_false_iff_eq, Bool.not_eq_true', Bool.not_eq_false', z0, z1] at *)
        all_goals (refine ⟨?_, (by first | (unfold lim; omega) | (dsimp only; unfold lim; omega)), ?_, ?_⟩)
        all_goals (first
          | (intro q hq; cases hq; done)
          | (intro q hq
             rw [List.mem_singleton.1 hq]
             exact nb_sum c _ (by omega) (by omega) (by omega) c.nb (Nat.le_refl _) hmin (fun h => by omega) ⟨fun h => by omega, fun _ => ⟨rfl, rfl, rfl⟩⟩)
          | (intro q hq
             simp only [List.mem_cons, List.not_mem_nil, or_false] at hq
             rcases hq with rfl | rfl
             · exact nt_sum c _ (by omega) (by omega) (by omega) c.nt (Nat.le_refl _) him (fun h => by omega) ⟨fun h => by omega, fun _ => ⟨rfl, rfl, rfl⟩⟩
             · exact nb_sum c _ (by omega) (by omega) (by omega) c.nb (Nat.le_refl _) hmin (fun h => by omega) ⟨fun h => by omega, fun _ => ⟨rfl, rfl, rfl⟩⟩)
          | (simp_all [ref4, i64, rule10]; done)
          | (simp_all [allT, okPr, okSl]; done)
          | (simp_all [allT, okPr, okSl]; omega)
          | fail)
  · refine (?_ : (∃ p r, n4R Tryd.prog c [some (n4S1 .ret [(2, i64 0)] [])] p = some r ∧ n4V c r) → _) (n4A c 0 (n4V c) ?_)
    · rintro ⟨p, r, q1, q2⟩
      exact ⟨p, _, r, q1, q2⟩
    simp only [r1]
    refine ⟨fun h => ⟨?_, (by first | (unfold lim; omega) | (dsimp only; unfold lim; omega)), ?_, fun q hq => (by cases hq)⟩, fun h => ?_⟩
    · show i64 (rule1 c) = i64 (ref4 c)
      unfold ref4
      rw [if_pos h1]
    · simp [allT]
      exact h1
    · exfalso
      simp at h
      exact h1 h
end Go.Proofs.YtiflbhmccenemaaDoor
end
/- What the document says is wrong with a config is what configs.New says. No Go text is in sight. -/
section
namespace Go.Proofs.YtiflbhmccenemaaDoor
open Go.RowKit

theorem slots_eq (c : Cfg) : slots4 c = all5 c c.np := by
  have hin : ((List.range c.ns).all fun k => decide (¬ BadS c k)) = insideF c.fs c.ns c.np := by
    unfold insideF BadS
    congr 1
    funext k
    simp only [decide_eq_decide]
    omega
  unfold slots4 all5
  rw [hin]
  cases hi : insideF c.fs c.ns c.np with
  | false => rfl
  | true =>
    have h0 : ∀ k, k < c.ns → 0 ≤ c.fs k := fun k hk => by
      have := List.all_eq_true.1 hi k (by simpa using hk)
      simp at this
      exact this.1
    rw [Bool.true_and, Bool.true_and]
    congr 1
    funext i
    unfold hasQ hasF
    rw [Bool.eq_iff_iff]
    simp only [Bool.not_eq_false, decide_eq_true_eq, List.any_eq_true, List.mem_range, beq_iff_eq]
    constructor
    · rintro ⟨p, h1, h2⟩
      exact ⟨p, h1, by have := h0 p h1; simp; omega⟩
    · rintro ⟨p, h1, h2⟩
      exact ⟨p, h1, by have := h0 p h1; simp at h2; omega⟩
theorem used_iff (c : Cfg) (k i : Nat) : usedF c k i = true ↔ ∃ p, p < k ∧ (i = (c.fp p).toNat ∨ i = (nxt4 c p).toNat) := by
  unfold usedF
  simp [List.any_eq_true]
def Fair (c : Cfg) : Prop := (∀ i, i < c.np → 0 ≤ c.fp i ∧ c.fp i < c.nodes) ∧ (∀ i, i + 1 < c.np → c.fp i ≤ c.fp (i + 1)) ∧ (∀ p q, p < q → q < c.np → c.fp p ≠ c.fp q ∧ c.fp p ≠ nxt4 c q ∧ nxt4 c p ≠ c.fp q ∧ nxt4 c p ≠ nxt4 c q)
theorem nxt4_ne (c : Cfg) (p : Nat) (h4 : 4 ≤ c.nodes) (h0 : 0 ≤ c.fp p) (h1 : c.fp p < c.nodes) : c.fp p ≠ nxt4 c p := by
  unfold nxt4
  rw [Int.tmod_eq_emod_of_nonneg (by omega)]
  rcases (by omega : c.fp p + 1 < c.nodes ∨ c.fp p + 1 = c.nodes) with h | h
  · rw [Int.emod_eq_of_lt (by omega) h]; omega
  · rw [h, Int.emod_self]; omega
theorem pairs_fair (c : Cfg) (h4 : 4 ≤ c.nodes) : pairs4 c = true ↔ Fair c := by
  have hp : pairs4 c = true ↔ ∀ k, k < c.np → ¬ BadP c k := by
    unfold pairs4
    simp [List.all_eq_true]
  rw [hp]
  constructor
  · intro h
    have hin : ∀ i, i < c.np → 0 ≤ c.fp i ∧ c.fp i < c.nodes := fun i hi => by
      have := h i hi
      unfold BadP at this
      omega
    refine ⟨hin, fun i hi => ?_, fun p q hpq hq => ?_⟩
    · have := h (i + 1) hi
      unfold BadP at this
      simp only [not_or, not_and, Nat.add_sub_cancel] at this
      have := this.2.2.1 (by omega)
      omega
    · have hq' := h q hq
      unfold BadP at hq'
      simp only [not_or, used_iff] at hq'
      obtain ⟨_, _, _, u1, u2⟩ := hq'
      obtain ⟨a0, a1⟩ := hin p (by omega)
      obtain ⟨b0, b1⟩ := hin q hq
      obtain ⟨n0, _⟩ := nxt4_in c p h4 a0
      obtain ⟨m0, _⟩ := nxt4_in c q h4 b0
      refine ⟨fun e => u1 ⟨p, hpq, .inl (by rw [e])⟩, fun e => u2 ⟨p, hpq, .inl (by rw [e])⟩, fun e => u1 ⟨p, hpq, .inr (by rw [e])⟩, fun e => u2 ⟨p, hpq, .inr (by rw [e])⟩⟩
  · rintro ⟨hin, hs, hd⟩ k hk
    obtain ⟨b0, b1⟩ := hin k hk
    obtain ⟨m0, _⟩ := nxt4_in c k h4 b0
    unfold BadP
    simp only [not_or, used_iff]
    refine ⟨by omega, by omega, ?_, ?_, ?_⟩
    · rintro ⟨h0, h1⟩
      have h2 := hs (k - 1) (by omega)
      rw [show k - 1 + 1 = k by omega] at h2
      exact (hd (k - 1) k (by omega) hk).1 (by omega)
    · rintro ⟨p, hpk, e⟩
      obtain ⟨a0, a1⟩ := hin p (by omega)
      obtain ⟨n0, _⟩ := nxt4_in c p h4 a0
      obtain ⟨d1, d2, d3, d4⟩ := hd p k hpk hk
      rcases e with e | e <;> omega
    · rintro ⟨p, hpk, e⟩
      obtain ⟨a0, a1⟩ := hin p (by omega)
      obtain ⟨n0, _⟩ := nxt4_in c p h4 a0
      obtain ⟨d1, d2, d3, d4⟩ := hd p k hpk hk
      rcases e with e | e <;> omega
theorem rule3_fair (c : Cfg) (h4 : 4 ≤ c.nodes) (h16 : c.nodes ≤ 16) : rule3 c = 0 ↔ Fair c := by
  have h3 : rule3 c = 0 ↔ (insideF c.fp c.np c.nodes = true ∧ sortedF c.fp c.np = true ∧ nodupF (halfF c) (2 * c.np) = true) := by
    unfold rule3
    simp only [Bool.and_eq_true]
    split <;> simp_all
  have hi : insideF c.fp c.np c.nodes = true ↔ ∀ i, i < c.np → 0 ≤ c.fp i ∧ c.fp i < c.nodes := by
    unfold insideF
    simp [List.all_eq_true]
  have hs : sortedF c.fp c.np = true ↔ ∀ i, i + 1 < c.np → c.fp i ≤ c.fp (i + 1) := by
    unfold sortedF
    simp only [List.all_eq_true, List.mem_range, decide_eq_true_eq]
    exact ⟨fun h i hi => h i (by omega), fun h i hi => h i (by omega)⟩
  have hn : nodupF (halfF c) (2 * c.np) = true ↔ ∀ q q', q < q' → q' < 2 * c.np → halfF c q ≠ halfF c q' := by
    unfold nodupF
    rw [decide_eq_true_eq, List.Nodup, List.pairwise_map, List.pairwise_iff_getElem]
    simp only [List.length_range, List.getElem_range]
    exact ⟨fun h q q' h1 h2 => h q q' (by omega) h2 h1, fun h q q' _ h2 h1 => h q q' h1 h2⟩
  rw [h3, hi, hs, hn]
  unfold Fair
  refine and_congr_right fun hin => and_congr_right fun _ => ?_
  have he : ∀ p, halfF c (2 * p) = c.fp p := fun p => by unfold halfF; rw [if_pos (by omega), show 2 * p / 2 = p by omega]
  have ho : ∀ p, p < c.np → halfF c (2 * p + 1) = nxt4 c p := fun p hp => by
    obtain ⟨a0, a1⟩ := hin p hp
    unfold halfF ringF nxt4
    rw [if_neg (by omega), show (2 * p + 1) / 2 = p by omega, if_pos ⟨h4, h16, a0, a1⟩, Int.tmod_eq_emod_of_nonneg (by omega)]
  constructor
  · intro h p q hpq hq
    refine ⟨?_, ?_, ?_, ?_⟩
    · have := h (2 * p) (2 * q) (by omega) (by omega); rwa [he, he] at this
    · have := h (2 * p) (2 * q + 1) (by omega) (by omega); rwa [he, ho q hq] at this
    · have := h (2 * p + 1) (2 * q) (by omega) (by omega); rwa [he, ho p (by omega)] at this
    · have := h (2 * p + 1) (2 * q + 1) (by omega) (by omega); rwa [ho p (by omega), ho q hq] at this
  · intro h q q' h1 h2
    obtain ⟨x, hx⟩ : ∃ x, x = q / 2 := ⟨_, rfl⟩
    obtain ⟨y, hy⟩ : ∃ y, y = q' / 2 := ⟨_, rfl⟩
    have hyn : y < c.np := by omega
    rcases Nat.lt_or_ge x y with hxy | hxy
    · obtain ⟨d1, d2, d3, d4⟩ := h x y hxy hyn
      rcases (by omega : q = 2 * x ∨ q = 2 * x + 1) with rfl | rfl <;> rcases (by omega : q' = 2 * y ∨ q' = 2 * y + 1) with rfl | rfl
      · rw [he, he]; exact d1
      · rw [he, ho y hyn]; exact d2
      · rw [he, ho x (by omega)]; exact d3
      · rw [ho x (by omega), ho y hyn]; exact d4
    · obtain rfl : x = y := by omega
      obtain rfl : q = 2 * x := by omega
      obtain rfl : q' = 2 * x + 1 := by omega
      obtain ⟨a0, a1⟩ := hin x hyn
      rw [he, ho x hyn]
      exact nxt4_ne c x h4 a0 a1
theorem ref4_eq (c : Cfg) : ref4 c = cfgErr c := by
  unfold ref4 cfgErr
  by_cases h1 : rule1 c = 0
  · obtain ⟨g4, g16⟩ := withinF_zero h1
    have hp : pairs4 c = false ↔ rule3 c ≠ 0 := by
      rw [← Bool.not_eq_true, pairs_fair c g4, ← rule3_fair c g4 g16]
    have h3 : rule3 c ≠ 0 → rule3 c = 1 := by
      unfold rule3
      split
      · intro h; exact absurd rfl h
      · intro _; rfl
    have h5 : slots4 c = false ↔ rule5 c ≠ 0 := by
      rw [slots_eq]
      unfold rule5
      cases all5 c c.np <;> simp
    have h5' : rule5 c ≠ 0 → rule5 c = 1 := by
      unfold rule5
      split
      · intro h; exact absurd rfl h
      · intro _; rfl
    by_cases e3 : rule3 c = 0
    · by_cases e5 : rule5 c = 0
      · simp [h1, hp, h5, e3, e5]
      · simp [h1, hp, h5, e3, e5, h5' e5]
    · simp [h1, hp, e3, h3 e3]
  · simp [h1]
end Go.Proofs.YtiflbhmccenemaaDoor
end
/- sennitref04.New: contract. -/
section
namespace Go.Proofs.YtiflbhmccenemaaDoor
open Go.RowKit

theorem ct_ref4 : CtOk Tryd.prog 16 (ctCfg (fun c => i64 (cfgErr c)) fun _ => true) := by
  refine ctCfg_of (E := ENq Tryd.prog) (fuel := 300) (str := 10000000000000000000000000000000000000000) hENq ⟨_, _, Tryd.func16, rfl⟩ (fun c => plain_i64 _) fun c _ => ?_
  obtain ⟨p, lp, r, h1, h2⟩ := ref4_run c
  unfold n4V at h2
  rw [ref4_eq] at h2
  exact ⟨p, lp, r, h1, h2⟩
end Go.Proofs.YtiflbhmccenemaaDoor
end
