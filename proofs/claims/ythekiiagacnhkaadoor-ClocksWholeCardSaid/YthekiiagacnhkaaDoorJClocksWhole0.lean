/- Parts, one behind the other. clocks.Of, Age, Ahead as the evaluator runs them. -/
import Derived.Test.YthekiiagacnhkaaDoorJB0x14
set_option linter.unusedSimpArgs false
set_option linter.unusedVariables false
/- clocks.Of, Age, Ahead as the evaluator runs them. -/
section
namespace Go.Proofs.YthekiiagacnhkaaDoor
open Go.RowKit

def ckOfE (P : Program) (c : Cfg) (nq : Nat) (fq : Nat → Int) (a : Int) (path : List Dec) : Option VF := ntE (ENno P) 36 c nq fq [i64 a] path []
abbrev tmA (x y z : Int) : AV := .agg [.v (.int .i64 x), .v (.int .i64 y), .v (.int .i64 z)]
theorem ckOf (c : Cfg) (nq : Nat) (fq : Nat → Int) (a : Int) (Q : VF → Prop) (H : (((decide (a < Int.ofNat 0)) = true → Q (.tup [.agg [.v (.int .i64 (Int.ofNat 0)), .v (.int .i64 (Int.ofNat 0)), .v (.int .i64 (Int.ofNat 0))], .c (.v (.int .i64 (Int.ofNat 1)))], [], 1015, [true, true, true, true, true, decide (a < Int.ofNat 0) == true, (roundN c nq == Int.ofNat 0) == false, netK c nq fq, true], [])) ∧ ((decide (a < Int.ofNat 0)) = false → (((decide (a > Int.ofNat 1099511627776)) = true → Q (.tup [.agg [.v (.int .i64 (Int.ofNat 0)), .v (.int .i64 (Int.ofNat 0)), .v (.int .i64 (Int.ofNat 0))], .c (.v (.int .i64 (Int.ofNat 1)))], [], 1017, [true, true, true, true, true, decide (a > Int.ofNat 1099511627776) == true, decide (a < Int.ofNat 0) == false, (roundN c nq == Int.ofNat 0) == false, netK c nq fq, true], [])) ∧ ((decide (a > Int.ofNat 1099511627776)) = false → Q (.tup [.agg [.v (.int .i64 (IntKind.wrap .i64 (Int.tdiv a (roundN c nq)))), .v (.int .i64 (IntKind.wrap .i64 (Int.tdiv (Int.tmod a (roundN c nq)) (c.long)))), .v (.int .i64 (Int.tmod (Int.tmod a (roundN c nq)) (c.long)))], .c (.v (.int .i64 (Int.ofNat 0)))], [], 120000000000000000000000000000000000001020, [true, true, true, true, true, decide (c.long ≠ Int.ofNat 0), true, true, decide (c.long ≠ Int.ofNat 0), true, true, decide (roundN c nq ≠ Int.ofNat 0), decide (roundN c nq ≠ Int.ofNat 0), decide (a > Int.ofNat 1099511627776) == false, decide (a < Int.ofNat 0) == false, (roundN c nq == Int.ofNat 0) == false, netK c nq fq, true], [])))))) :
    ∃ p r, ckOfE Tryd.prog c nq fq a p = some r ∧ Q r := by
  rcases Bool.eq_false_or_eq_true (decide (a < Int.ofNat 0)) with h2 | h2
  · have g2 := H.1 h2
    exact ⟨([.b false, .b true, .a, .a] : List Dec), _, by kernel_rfl, g2⟩
  · have g2 := H.2 h2
    rcases Bool.eq_false_or_eq_true (decide (a > Int.ofNat 1099511627776)) with h4 | h4
    · have g4 := g2.1 h4
      exact ⟨([.b false, .b false, .a, .b true] : List Dec), _, by kernel_rfl, g4⟩
    · have g4 := g2.2 h4
      exact ⟨([.b false, .b false, .a, .b false] : List Dec), _, by kernel_rfl, g4⟩
end Go.Proofs.YthekiiagacnhkaaDoor
end
/- Contracts of clocks.Of, clocks.Age. -/
section
namespace Go.Proofs.YthekiiagacnhkaaDoor
open Go.RowKit

abbrev ckM : Int := 1099511627776
def ckIn (a : Int) : Prop := 0 ≤ a ∧ a ≤ ckM
instance (a : Int) : Decidable (ckIn a) := by unfold ckIn; infer_instance
/-- the time of an age -/
def ckErr (a : Int) : Int := if ckIn a then 0 else 1
def ckT (c : Cfg) (a : Int) : Int := if ckIn a then a / (c.ns * c.long) else 0
def ckS (c : Cfg) (a : Int) : Int := if ckIn a then a % (c.ns * c.long) / c.long else 0
def ckP (c : Cfg) (a : Int) : Int := if ckIn a then a % (c.ns * c.long) % c.long else 0
/-- the age of a time -/
def agOk (c : Cfg) (x y z : Int) : Prop := 0 ≤ x ∧ x ≤ ckM ∧ 0 ≤ y ∧ y < c.ns ∧ 0 ≤ z ∧ z < c.long ∧ x * (c.ns * c.long) + y * c.long + z ≤ ckM
instance (c : Cfg) (x y z : Int) : Decidable (agOk c x y z) := by unfold agOk; infer_instance
def ofR : NetS → AV
  | ⟨c, _, _, [.c (.v (.int .i64 a))]⟩ => .tup [tmA (ckT c a) (ckS c a) (ckP c a), i64 (ckErr a)]
  | _ => i64 0
def ofP : NetS → Bool
  | ⟨c, nq, _, [.c (.v (.int .i64 _))]⟩ => ckPre c nq
  | _ => false
def ctCkOf : CtF := ctRd netRd ofR ofP
set_option maxRecDepth 100000 in
theorem ct_ckOf : CtOk Tryd.prog 36 ctCkOf := by
  refine ctRd_ofE (E := ENno Tryd.prog) hENno netRd (fuel := 300) (str := 10000000000000000000000000000000000000000) ⟨_, _, Tryd.func36, rfl⟩ (fun s => by unfold ofR; split <;> rfl) fun s hs => ?_
  unfold ofP at hs
  split at hs
  · rename_i c nq fq a
    refine (?_ : (∃ p q, ckOfE Tryd.prog c nq fq a p = some q ∧ GoodF (.tup [tmA (ckT c a) (ckS c a) (ckP c a), i64 (ckErr a)]) q) → _) (ckOf c nq fq a _ ?_)
    · rintro ⟨p, q, h1, h2⟩
      exact ⟨p, _, q, h1, h2⟩
    · obtain ⟨e, r1, r2, q1, q2, q3, q4, q5⟩ := ck_round hs
      obtain ⟨R, hR⟩ : ∃ R : Int, (c.ns : Int) * c.long = R := ⟨_, rfl⟩
      rw [hR] at e r1 r2
      simp only [e]
      (repeat' (first | refine ⟨fun h => ?_, fun h => ?_⟩ | fail))
      all_goals (refine ⟨?_, (by first | (unfold lim; omega) | (dsimp only; unfold lim; omega)), ?_, by simp⟩)
      all_goals (simp only [decide_eq_true_eq, decide_eq_false_iff_not, Int.ofNat_eq_natCast, Int.cast_ofNat_Int, gt_iff_lt] at *)
      all_goals first
        | (have hn : ¬ ckIn a := (by unfold ckIn ckM; omega)
           simp [ckT, ckS, ckP, ckErr, hn, i64]; done)
        | (have hy : ckIn a := (by unfold ckIn ckM; omega)
           have m1 := Int.emod_nonneg a (show R ≠ 0 by omega)
           have m2 := Int.emod_lt_of_pos a (show 0 < R by omega)
           have t1 : Int.tmod a R = a % R := Int.tmod_eq_emod_of_nonneg (by omega)
           have t2 : Int.tdiv a R = a / R := Int.tdiv_eq_ediv_of_nonneg (by omega)
           have d0 := Int.ediv_nonneg (a := a) (b := R) (by omega) (by omega)
           have d1 : a / R ≤ a := Int.ediv_le_self _ (by omega)
           have t3 : Int.tmod (a % R) c.long = a % R % c.long := Int.tmod_eq_emod_of_nonneg (by omega)
           have t4 : Int.tdiv (a % R) c.long = a % R / c.long := Int.tdiv_eq_ediv_of_nonneg (by omega)
           have e0 := Int.ediv_nonneg (a := a % R) (b := c.long) (by omega) (by omega)
           have e1 : a % R / c.long ≤ a % R := Int.ediv_le_self _ (by omega)
           have f0 := Int.emod_nonneg (a % R) (show c.long ≠ 0 by omega)
           have f1 := Int.emod_lt_of_pos (a % R) (show 0 < c.long by omega)
           have w0 : ∀ x : Int, 0 ≤ x → x ≤ 1099511627776 → IntKind.wrap IntKind.i64 x = x := (fun x h0 h1 => wrap_nat x (by omega) (by omega))
           simp only [t1, t2, t3, t4, w0 _ d0 (by omega), w0 _ e0 (by omega), w0 _ f0 (by omega), w0 c.long (by omega) (by omega)]
           simp [ckT, ckS, ckP, ckErr, hy, i64, hR]; done)
        | (simp only [allT, List.forall_mem_cons, List.not_mem_nil, false_implies, implies_true, and_true, true_and, cfgK_t, netK_t, intsOk_ints, stsOk_sts, intsOk_s, stsOk_s, beq_iff_eq, decide_eq_true_eq, decide_eq_false_iff_not, beq_eq_false_iff_ne, bne_iff_ne, bne_eq_false_iff_eq, Bool.not_eq_true', Bool.not_eq_false', ne_eq, Int.ofNat_eq_natCast, Int.cast_ofNat_Int, gt_iff_lt, ge_iff_le]; omega)
  · cases hs
end Go.Proofs.YthekiiagacnhkaaDoor
end
