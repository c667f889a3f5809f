/- Parts, one behind the other. rings.Step, rings.Distance, any direction: as the evaluator runs them. -/
import Derived.Test.YtgfmjbfjodidpaaDoorJB0x10
import Derived.Test.YtgfmjbfjodidpaaDoorJB0x9
import Derived.Test.YtgfmjbfjodidpaaDoorChecked
import Derived.KernelRfl
set_option linter.unusedSimpArgs false
set_option linter.unusedVariables false
/- rings.Step, rings.Distance, any direction: as the evaluator runs them. -/
section
namespace Go.Proofs.YtgfmjbfjodidpaaDoor
open Go.RowKit

abbrev u8A (d : Int) : AV := .c (.v (.int .u8 d))
def distR (P : Program) (n d a b : Int) (path : List Dec) : Option VF := viewF [] (fCallF (E1 P) (fC (E1 P) 300) 36 [i64 n, u8A d, i64 a, i64 b] 1000 10000000000000000000000000000000000000000 (stA mS path []))
theorem stpD (n d a k : Int) (Q : VF → Prop) (H : (((decide (n ≥ Int.ofNat 4)) = true → (((decide (n ≤ Int.ofNat 16)) = true → (((!decide (d ≤ Int.ofNat 1)) = true → Q (.c (.v (.int .i64 (Int.negSucc 0))), [], 1019, [(!decide (d ≤ Int.ofNat 1)) == true, decide (n ≤ Int.ofNat 16) == true, decide (n ≥ Int.ofNat 4) == true], [])) ∧ ((!decide (d ≤ Int.ofNat 1)) = false → (((decide (a ≥ Int.ofNat 0)) = true → (((!decide (a < n)) = true → Q (.c (.v (.int .i64 (Int.negSucc 0))), [], 1031, [(!decide (a < n)) == true, decide (a ≥ Int.ofNat 0) == true, (!decide (d ≤ Int.ofNat 1)) == false, decide (n ≤ Int.ofNat 16) == true, decide (n ≥ Int.ofNat 4) == true], [])) ∧ ((!decide (a < n)) = false → Q (.c (.v (.int .i64 (Int.tmod (IntKind.wrap .i64 (Int.tmod (IntKind.wrap .i64 (a + IntKind.wrap .i64 (asI (List.getD [.v (.int .i64 (Int.ofNat 1)), .v (.int .i64 (Int.negSucc 0))] (0 + Int.toNat d * 1) nov) * Int.tmod k n))) n + n)) n))), [], 120000000000000000000000000000000000001030, [decide (n ≠ Int.ofNat 0), decide (n ≠ Int.ofNat 0), decide (n ≠ Int.ofNat 0), ABlk.inb (ABlk.mk false false 107 0 (Cs.lit [.v (.int .i64 (Int.ofNat 1)), .v (.int .i64 (Int.negSucc 0))])) 0 (0 + Int.toNat d * 1 + 1), okl (Kd.i .i64) (List.getD [.v (.int .i64 (Int.ofNat 1)), .v (.int .i64 (Int.negSucc 0))] (0 + Int.toNat d * 1) nov), decide (Int.ofNat 0 ≤ d ∧ d < Int.ofNat 2), (!decide (a < n)) == false, decide (a ≥ Int.ofNat 0) == true, (!decide (d ≤ Int.ofNat 1)) == false, decide (n ≤ Int.ofNat 16) == true, decide (n ≥ Int.ofNat 4) == true], [])))) ∧ ((decide (a ≥ Int.ofNat 0)) = false → Q (.c (.v (.int .i64 (Int.negSucc 0))), [], 1028, [decide (a ≥ Int.ofNat 0) == false, (!decide (d ≤ Int.ofNat 1)) == false, decide (n ≤ Int.ofNat 16) == true, decide (n ≥ Int.ofNat 4) == true], [])))))) ∧ ((decide (n ≤ Int.ofNat 16)) = false → Q (.c (.v (.int .i64 (Int.negSucc 0))), [], 1017, [decide (n ≤ Int.ofNat 16) == false, decide (n ≥ Int.ofNat 4) == true], [])))) ∧ ((decide (n ≥ Int.ofNat 4)) = false → Q (.c (.v (.int .i64 (Int.negSucc 0))), [], 1015, [decide (n ≥ Int.ofNat 4) == false], [])))) :
    ∃ p r, stepR Tryd.prog n d a k p = some r ∧ Q r := by
  rcases Bool.eq_false_or_eq_true (decide (n ≥ Int.ofNat 4)) with h2 | h2
  · have g2 := H.1 h2
    rcases Bool.eq_false_or_eq_true (decide (n ≤ Int.ofNat 16)) with h4 | h4
    · have g4 := g2.1 h4
      rcases Bool.eq_false_or_eq_true (!decide (d ≤ Int.ofNat 1)) with h6 | h6
      · have g6 := g4.1 h6
        exact ⟨([.b true, .a, .b true, .a, .b true, .a, .a, .a, .a] : List Dec), _, by kernel_rfl, g6⟩
      · have g6 := g4.2 h6
        rcases Bool.eq_false_or_eq_true (decide (a ≥ Int.ofNat 0)) with h8 | h8
        · have g8 := g6.1 h8
          rcases Bool.eq_false_or_eq_true (!decide (a < n)) with h10 | h10
          · have g10 := g8.1 h10
            exact ⟨([.b true, .a, .b true, .a, .b false, .a, .a, .b true, .a, .a, .a, .b true] : List Dec), _, by kernel_rfl, g10⟩
          · have g10 := g8.2 h10
            exact ⟨([.b true, .a, .b true, .a, .b false, .a, .a, .b true, .a, .a, .a, .b false] : List Dec), _, by kernel_rfl, g10⟩
        · have g8 := g6.2 h8
          exact ⟨([.b true, .a, .b true, .a, .b false, .a, .a, .b false, .a, .a, .a, .a] : List Dec), _, by kernel_rfl, g8⟩
    · have g4 := g2.2 h4
      exact ⟨([.b true, .a, .b false, .a, .a, .a, .a, .a, .a] : List Dec), _, by kernel_rfl, g4⟩
  · have g2 := H.2 h2
    exact ⟨([.b false, .a, .a, .a, .a, .a, .a, .a, .a] : List Dec), _, by kernel_rfl, g2⟩
theorem dstD (n d a b : Int) (Q : VF → Prop) (H : (((decide (n ≥ Int.ofNat 4)) = true → (((decide (n ≤ Int.ofNat 16)) = true → (((!decide (d ≤ Int.ofNat 1)) = true → Q (.c (.v (.int .i64 (Int.negSucc 0))), [], 1021, [(!decide (d ≤ Int.ofNat 1)) == true, decide (n ≤ Int.ofNat 16) == true, decide (n ≥ Int.ofNat 4) == true], [])) ∧ ((!decide (d ≤ Int.ofNat 1)) = false → (((decide (a ≥ Int.ofNat 0)) = true → (((!decide (a < n)) = true → Q (.c (.v (.int .i64 (Int.negSucc 0))), [], 1033, [(!decide (a < n)) == true, decide (a ≥ Int.ofNat 0) == true, (!decide (d ≤ Int.ofNat 1)) == false, decide (n ≤ Int.ofNat 16) == true, decide (n ≥ Int.ofNat 4) == true], [])) ∧ ((!decide (a < n)) = false → (((decide (b ≥ Int.ofNat 0)) = true → (((!decide (b < n)) = true → Q (.c (.v (.int .i64 (Int.negSucc 0))), [], 1045, [(!decide (b < n)) == true, decide (b ≥ Int.ofNat 0) == true, (!decide (a < n)) == false, decide (a ≥ Int.ofNat 0) == true, (!decide (d ≤ Int.ofNat 1)) == false, decide (n ≤ Int.ofNat 16) == true, decide (n ≥ Int.ofNat 4) == true], [])) ∧ ((!decide (b < n)) = false → Q (.c (.v (.int .i64 (Int.tmod (IntKind.wrap .i64 (Int.tmod (IntKind.wrap .i64 (asI (List.getD [.v (.int .i64 (Int.ofNat 1)), .v (.int .i64 (Int.negSucc 0))] (0 + Int.toNat d * 1) nov) * IntKind.wrap .i64 (b - a))) n + n)) n))), [], 1062, [decide (n ≠ Int.ofNat 0), decide (n ≠ Int.ofNat 0), ABlk.inb (ABlk.mk false false 107 0 (Cs.lit [.v (.int .i64 (Int.ofNat 1)), .v (.int .i64 (Int.negSucc 0))])) 0 (0 + Int.toNat d * 1 + 1), okl (Kd.i .i64) (List.getD [.v (.int .i64 (Int.ofNat 1)), .v (.int .i64 (Int.negSucc 0))] (0 + Int.toNat d * 1) nov), decide (Int.ofNat 0 ≤ d ∧ d < Int.ofNat 2), (!decide (b < n)) == false, decide (b ≥ Int.ofNat 0) == true, (!decide (a < n)) == false, decide (a ≥ Int.ofNat 0) == true, (!decide (d ≤ Int.ofNat 1)) == false, decide (n ≤ Int.ofNat 16) == true, decide (n ≥ Int.ofNat 4) == true], [])))) ∧ ((decide (b ≥ Int.ofNat 0)) = false → Q (.c (.v (.int .i64 (Int.negSucc 0))), [], 1042, [decide (b ≥ Int.ofNat 0) == false, (!decide (a < n)) == false, decide (a ≥ Int.ofNat 0) == true, (!decide (d ≤ Int.ofNat 1)) == false, decide (n ≤ Int.ofNat 16) == true, decide (n ≥ Int.ofNat 4) == true], [])))))) ∧ ((decide (a ≥ Int.ofNat 0)) = false → Q (.c (.v (.int .i64 (Int.negSucc 0))), [], 1030, [decide (a ≥ Int.ofNat 0) == false, (!decide (d ≤ Int.ofNat 1)) == false, decide (n ≤ Int.ofNat 16) == true, decide (n ≥ Int.ofNat 4) == true], [])))))) ∧ ((decide (n ≤ Int.ofNat 16)) = false → Q (.c (.v (.int .i64 (Int.negSucc 0))), [], 1019, [decide (n ≤ Int.ofNat 16) == false, decide (n ≥ Int.ofNat 4) == true], [])))) ∧ ((decide (n ≥ Int.ofNat 4)) = false → Q (.c (.v (.int .i64 (Int.negSucc 0))), [], 1017, [decide (n ≥ Int.ofNat 4) == false], [])))) :
    ∃ p r, distR Tryd.prog n d a b p = some r ∧ Q r := by
  rcases Bool.eq_false_or_eq_true (decide (n ≥ Int.ofNat 4)) with h2 | h2
  · have g2 := H.1 h2
    rcases Bool.eq_false_or_eq_true (decide (n ≤ Int.ofNat 16)) with h4 | h4
    · have g4 := g2.1 h4
      rcases Bool.eq_false_or_eq_true (!decide (d ≤ Int.ofNat 1)) with h6 | h6
      · have g6 := g4.1 h6
        exact ⟨([.b true, .a, .b true, .a, .b true, .a, .a, .a, .a, .a, .a, .a, .a] : List Dec), _, by kernel_rfl, g6⟩
      · have g6 := g4.2 h6
        rcases Bool.eq_false_or_eq_true (decide (a ≥ Int.ofNat 0)) with h8 | h8
        · have g8 := g6.1 h8
          rcases Bool.eq_false_or_eq_true (!decide (a < n)) with h10 | h10
          · have g10 := g8.1 h10
            exact ⟨([.b true, .a, .b true, .a, .b false, .a, .a, .b true, .a, .a, .a, .b true, .a, .a, .a, .a] : List Dec), _, by kernel_rfl, g10⟩
          · have g10 := g8.2 h10
            rcases Bool.eq_false_or_eq_true (decide (b ≥ Int.ofNat 0)) with h12 | h12
            · have g12 := g10.1 h12
              rcases Bool.eq_false_or_eq_true (!decide (b < n)) with h14 | h14
              · have g14 := g12.1 h14
                exact ⟨([.b true, .a, .b true, .a, .b false, .a, .a, .b true, .a, .a, .a, .b false, .a, .a, .b true, .a, .a, .a, .b true] : List Dec), _, by kernel_rfl, g14⟩
              · have g14 := g12.2 h14
                exact ⟨([.b true, .a, .b true, .a, .b false, .a, .a, .b true, .a, .a, .a, .b false, .a, .a, .b true, .a, .a, .a, .b false] : List Dec), _, by kernel_rfl, g14⟩
            · have g12 := g10.2 h12
              exact ⟨([.b true, .a, .b true, .a, .b false, .a, .a, .b true, .a, .a, .a, .b false, .a, .a, .b false, .a, .a, .a, .a] : List Dec), _, by kernel_rfl, g12⟩
        · have g8 := g6.2 h8
          exact ⟨([.b true, .a, .b true, .a, .b false, .a, .a, .b false, .a, .a, .a, .a, .a, .a, .a, .a] : List Dec), _, by kernel_rfl, g8⟩
    · have g4 := g2.2 h4
      exact ⟨([.b true, .a, .b false, .a, .a, .a, .a, .a, .a, .a, .a, .a, .a] : List Dec), _, by kernel_rfl, g4⟩
  · have g2 := H.2 h2
    exact ⟨([.b false, .a, .a, .a, .a, .a, .a, .a, .a, .a, .a, .a, .a] : List Dec), _, by kernel_rfl, g2⟩
end Go.Proofs.YtgfmjbfjodidpaaDoor
end
/- Contracts of rings.Step, rings.Distance, any direction. -/
section
namespace Go.Proofs.YtgfmjbfjodidpaaDoor
open Go.RowKit

def ringB (n d : Int) : Bool := decide (4 ≤ n) && (decide (n ≤ 16) && decide (d ≤ 1))
def nodeB (n a : Int) : Bool := decide (0 ≤ a) && decide (a < n)
def turnF (n d a k : Int) : Int := if (ringB n d && nodeB n a) = true then (if d = 0 then (a + k) % n else (a - k) % n) else -1
def distF (n d a b : Int) : Int := if (ringB n d && (nodeB n a && nodeB n b)) = true then (if d = 0 then (b - a) % n else (a - b) % n) else -1
theorem rnd_val {n x : Int} (h0 : 4 ≤ n) (h1 : n ≤ 16) (h2 : -1000000 ≤ x) (h3 : x ≤ 1000000) :
    (IntKind.wrap IntKind.i64 (Int.tmod x n + n)).tmod n = x % n := by
  have hn : 0 < n := by omega
  have u1 : x.tmod n < n := Int.tmod_lt_of_pos _ hn
  have u2 : -n < x.tmod n := Int.lt_tmod_of_pos _ hn
  have u3 : x.tmod n = x - n * x.tdiv n := Int.tmod_def _ _
  generalize x.tmod n = u at *
  rw [wrap_nat (u + n) (by omega) (by omega), Int.tmod_eq_emod_of_nonneg (by omega), Int.add_emod_right, u3]
  exact Int.sub_mul_emod_self_left _ _ _
theorem step_valS {n a k s : Int} (hs : s = 1 ∨ s = -1) (h0 : 4 ≤ n) (h1 : n ≤ 16) (h2 : 0 ≤ a) (h3 : a < n) :
    (IntKind.wrap IntKind.i64 (Int.tmod (IntKind.wrap IntKind.i64 (a + IntKind.wrap IntKind.i64 (s * Int.tmod k n))) n + n)).tmod n = (a + s * k) % n := by
  have hn : 0 < n := by omega
  have t1 : k.tmod n < n := Int.tmod_lt_of_pos _ hn
  have t2 : -n < k.tmod n := Int.lt_tmod_of_pos _ hn
  have t3 : k.tmod n = k - n * k.tdiv n := Int.tmod_def k n
  generalize k.tmod n = t at *
  have e : (a + s * t) % n = (a + s * k) % n := by
    rw [t3, show a + s * (k - n * k.tdiv n) = a + s * k - n * (s * k.tdiv n) by rw [Int.mul_sub, Int.mul_left_comm]; omega]
    exact Int.sub_mul_emod_self_left _ _ _
  rw [← e]
  rcases hs with rfl | rfl
  · rw [wrap_nat (1 * t) (by omega) (by omega), wrap_nat (a + 1 * t) (by omega) (by omega)]
    exact rnd_val h0 h1 (by omega) (by omega)
  · rw [wrap_nat (-1 * t) (by omega) (by omega), wrap_nat (a + -1 * t) (by omega) (by omega)]
    exact rnd_val h0 h1 (by omega) (by omega)
theorem dist_valS {n a b s : Int} (hs : s = 1 ∨ s = -1) (h0 : 4 ≤ n) (h1 : n ≤ 16) (h2 : 0 ≤ a) (h3 : a < n) (h4 : 0 ≤ b) (h5 : b < n) :
    (IntKind.wrap IntKind.i64 (Int.tmod (IntKind.wrap IntKind.i64 (s * IntKind.wrap IntKind.i64 (b - a))) n + n)).tmod n = (s * (b - a)) % n := by
  rw [wrap_nat (b - a) (by omega) (by omega)]
  rcases hs with rfl | rfl
  · rw [wrap_nat (1 * (b - a)) (by omega) (by omega)]
    exact rnd_val h0 h1 (by omega) (by omega)
  · rw [wrap_nat (-1 * (b - a)) (by omega) (by omega)]
    exact rnd_val h0 h1 (by omega) (by omega)
theorem dir_cases {d : Int} (h : 0 ≤ d) : d = 0 ∨ d = 1 ∨ 2 ≤ d := by omega
theorem step_allD (n d a k : Int) (h0 : 0 ≤ d) : ∃ p r, stepR Tryd.prog n d a k p = some r ∧ GoodF (i64 (turnF n d a k)) r := by
  refine stpD n d a k _ ?_
  rcases dir_cases h0 with rfl | rfl | hd
  all_goals ((repeat' (first | refine ⟨fun h => ?_, fun h => ?_⟩ | fail)))
  all_goals (first | (exfalso; simp at *; omega) | skip)
  all_goals (refine ⟨?_, (by first | (unfold lim; omega) | (dsimp only; unfold lim; omega)), ?_, by simp⟩)
  all_goals (simp only [Bool.not_eq_true', Bool.not_eq_false', decide_eq_true_eq, decide_eq_false_iff_not] at *)
  all_goals (simp only [Int.ofNat_eq_natCast] at *)
  all_goals first
    | (show i64 _ = i64 _
       have hm : (ringB n 0 && nodeB n a) = true := (by simp [ringB, nodeB]; omega)
       unfold turnF; rw [if_pos hm, if_pos rfl]
       have := step_valS (n := n) (a := a) (k := k) (s := 1) (.inl rfl) (by omega) (by omega) (by omega) (by omega)
       rw [Int.one_mul k] at this
       exact congrArg i64 this)
    | (show i64 _ = i64 _
       have hm : (ringB n 1 && nodeB n a) = true := (by simp [ringB, nodeB]; omega)
       unfold turnF; rw [if_pos hm, if_neg (by decide)]
       have := step_valS (n := n) (a := a) (k := k) (s := -1) (.inr rfl) (by omega) (by omega) (by omega) (by omega)
       rw [Int.neg_one_mul k] at this
       exact congrArg i64 this)
    | (show i64 _ = i64 _
       unfold turnF; rw [if_neg (by simp [ringB, nodeB]; omega)]; rfl)
    | (simp [allT, inb_lit, okl]; omega)
theorem dist_allD (n d a b : Int) (h0 : 0 ≤ d) : ∃ p r, distR Tryd.prog n d a b p = some r ∧ GoodF (i64 (distF n d a b)) r := by
  refine dstD n d a b _ ?_
  rcases dir_cases h0 with rfl | rfl | hd
  all_goals ((repeat' (first | refine ⟨fun h => ?_, fun h => ?_⟩ | fail)))
  all_goals (first | (exfalso; simp at *; omega) | skip)
  all_goals (refine ⟨?_, (by first | (unfold lim; omega) | (dsimp only; unfold lim; omega)), ?_, by simp⟩)
  all_goals (simp only [Bool.not_eq_true', Bool.not_eq_false', decide_eq_true_eq, decide_eq_false_iff_not] at *)
  all_goals (simp only [Int.ofNat_eq_natCast] at *)
  all_goals first
    | (show i64 _ = i64 _
       have hm : (ringB n 0 && (nodeB n a && nodeB n b)) = true := (by simp [ringB, nodeB]; omega)
       unfold distF; rw [if_pos hm, if_pos rfl]
       have := dist_valS (n := n) (a := a) (b := b) (s := 1) (.inl rfl) (by omega) (by omega) (by omega) (by omega) (by omega) (by omega)
       rw [Int.one_mul (b - a)] at this
       exact congrArg i64 this)
    | (show i64 _ = i64 _
       have hm : (ringB n 1 && (nodeB n a && nodeB n b)) = true := (by simp [ringB, nodeB]; omega)
       unfold distF; rw [if_pos hm, if_neg (by decide)]
       have := dist_valS (n := n) (a := a) (b := b) (s := -1) (.inr rfl) (by omega) (by omega) (by omega) (by omega) (by omega) (by omega)
       rw [Int.neg_one_mul (b - a), Int.neg_sub] at this
       exact congrArg i64 this)
    | (show i64 _ = i64 _
       unfold distF; rw [if_neg (by simp [ringB, nodeB]; omega)]; rfl)
    | (simp [allT, inb_lit, okl]; omega)
def okN4 : List AV → Bool
  | [.c (.v (.int .i64 _)), .c (.v (.int .u8 d)), .c (.v (.int .i64 _)), .c (.v (.int .i64 _))] => decide (0 ≤ d)
  | _ => false
theorem okN4_eq (n d a b : Int) : okN4 [.c (.v (.int .i64 n)), .c (.v (.int .u8 d)), .c (.v (.int .i64 a)), .c (.v (.int .i64 b))] = decide (0 ≤ d) := rfl
def ctStepD : CtF := ctRd (pureRd mS (by kernel_rfl)) (fun | [.c (.v (.int .i64 n)), .c (.v (.int .u8 d)), .c (.v (.int .i64 a)), .c (.v (.int .i64 k))] => i64 (turnF n d a k) | _ => i64 0) okN4
def ctDistD : CtF := ctRd (pureRd mS (by kernel_rfl)) (fun | [.c (.v (.int .i64 n)), .c (.v (.int .u8 d)), .c (.v (.int .i64 a)), .c (.v (.int .i64 k))] => i64 (distF n d a k) | _ => i64 0) okN4
theorem ct_stepD : CtOk Tryd.prog 87 ctStepD := by
  refine ctRd_ofE (E := E1 Tryd.prog) hE1 (pureRd mS (by kernel_rfl)) (fuel := 300) (str := 10000000000000000000000000000000000000000) ⟨_, _, Tryd.func87, rfl⟩ (fun s => by split <;> rfl) fun s hs => ?_
  unfold okN4 at hs
  split at hs
  · rename_i n d a k
    obtain ⟨p, r, h1, h2⟩ := step_allD n d a k (of_decide_eq_true hs)
    exact ⟨p, [], r, h1, h2⟩
  · cases hs
theorem ct_distD : CtOk Tryd.prog 36 ctDistD := by
  refine ctRd_ofE (E := E1 Tryd.prog) hE1 (pureRd mS (by kernel_rfl)) (fuel := 300) (str := 10000000000000000000000000000000000000000) ⟨_, _, Tryd.func36, rfl⟩ (fun s => by split <;> rfl) fun s hs => ?_
  unfold okN4 at hs
  split at hs
  · rename_i n d a k
    obtain ⟨p, r, h1, h2⟩ := dist_allD n d a k (of_decide_eq_true hs)
    exact ⟨p, [], r, h1, h2⟩
  · cases hs
end Go.Proofs.YtgfmjbfjodidpaaDoor
end
/- The variables that are laid, as the evaluator has them. -/
section
namespace Go.Proofs.YtgfmjbfjodidpaaDoor
open Go.RowKit

def rolesB : ABlk := ⟨false, false, 149, 0, .lit [.v (.int .u8 1), .v (.int .u8 1), .v (.int .u8 2)]⟩
def mSR : AMem := [(gid 0, signB), (gid 1, rolesB)]
end Go.Proofs.YtgfmjbfjodidpaaDoor
end
/- The examples of layer 10 as the evaluator runs them. -/
section
namespace Go.Proofs.YtgfmjbfjodidpaaDoor
open Go.RowKit
def lv10 (P : Program) : Option VF := viewF [] (fCallF (E1 P) (fC (E1 P) 300) 42 [] 10 10000000000000000000000000000000000000000 (stC mSR))
theorem lv10_run  : lv10 Tryd.prog =
    some (.c (.v (.bool true)), [], 2340000000000000000000000000000000000001236, [], []) := by kernel_rfl
end Go.Proofs.YtgfmjbfjodidpaaDoor
end
