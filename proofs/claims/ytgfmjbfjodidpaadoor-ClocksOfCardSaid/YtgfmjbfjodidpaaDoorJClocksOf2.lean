/- Parts, one behind the other. clocks.Of, Age, Ahead as the evaluator runs them. -/
import Derived.Test.YtgfmjbfjodidpaaDoorJB0x14
import Derived.Test.YtgfmjbfjodidpaaDoorJClocksOf0
import Derived.Test.YtgfmjbfjodidpaaDoorJClocksOf1
set_option linter.unusedSimpArgs false
set_option linter.unusedVariables false
/- clocks.Of, Age, Ahead as the evaluator runs them. -/
section
namespace Go.Proofs.YtgfmjbfjodidpaaDoor
open Go.RowKit

def ckOfE (P : Program) (c : Cfg) (nq : Nat) (fq : Nat → Int) (a : Int) (path : List Dec) : Option VF := ntE (ENns P) 55 c nq fq [i64 a] path []
abbrev tmA (x y z : Int) : AV := .agg [.v (.int .i64 x), .v (.int .i64 y), .v (.int .i64 z)]
def ckAgeE (P : Program) (c : Cfg) (nq : Nat) (fq : Nat → Int) (x y z : Int) (path : List Dec) : Option VF := ntE (ENns P) 57 c nq fq [tmA x y z] path []
theorem ckOf (c : Cfg) (nq : Nat) (fq : Nat → Int) (a : Int) (Q : VF → Prop) (H : (((decide (a < Int.ofNat 0)) = true → Q (.tup [.agg [.v (.int .i64 (Int.ofNat 0)), .v (.int .i64 (Int.ofNat 0)), .v (.int .i64 (Int.ofNat 0))], .c (.v (.int .i64 (Int.ofNat 1)))], [], 1015, [true, true, true, true, true, decide (a < Int.ofNat 0) == true, (roundN c nq == Int.ofNat 0) == false, netK c nq fq, true], [])) ∧ ((decide (a < Int.ofNat 0)) = false → (((decide (a > Int.ofNat 1099511627776)) = true → Q (.tup [.agg [.v (.int .i64 (Int.ofNat 0)), .v (.int .i64 (Int.ofNat 0)), .v (.int .i64 (Int.ofNat 0))], .c (.v (.int .i64 (Int.ofNat 1)))], [], 1017, [true, true, true, true, true, decide (a > Int.ofNat 1099511627776) == true, decide (a < Int.ofNat 0) == false, (roundN c nq == Int.ofNat 0) == false, netK c nq fq, true], [])) ∧ ((decide (a > Int.ofNat 1099511627776)) = false → Q (.tup [.agg [.v (.int .i64 (IntKind.wrap .i64 (Int.tdiv a (roundN c nq)))), .v (.int .i64 (IntKind.wrap .i64 (Int.tdiv (Int.tmod a (roundN c nq)) (c.long)))), .v (.int .i64 (Int.tmod (Int.tmod a (roundN c nq)) (c.long)))], .c (.v (.int .i64 (Int.ofNat 0)))], [], 120000000000000000000000000000000000001020, [true, true, true, true, true, decide (c.long ≠ Int.ofNat 0), true, true, decide (c.long ≠ Int.ofNat 0), true, true, decide (roundN c nq ≠ Int.ofNat 0), decide (roundN c nq ≠ Int.ofNat 0), decide (a > Int.ofNat 1099511627776) == false, decide (a < Int.ofNat 0) == false, (roundN c nq == Int.ofNat 0) == false, netK c nq fq, true], [])))))) :
    ∃ p r, ckOfE Tryd.prog c nq fq a p = some r ∧ Q r := by
  rcases Bool.eq_false_or_eq_true (decide (a < Int.ofNat 0)) with h2 | h2
  · have g2 := H.1 h2
    exact ⟨([.b false, .b true, .a, .a] : List Dec), _, by kernel_rfl, g2⟩
  · have g2 := H.2 h2
    rcases Bool.eq_false_or_eq_true (decide (a > Int.ofNat 1099511627776)) with h4 | h4
    · have g4 := g2.1 h4
      exact ⟨([.b false, .b false, .a, .b true] : List Dec), _, by kernel_rfl, g4⟩
    · have g4 := g2.2 h4
      exact ⟨([.b false, .b false, .a, .b false] : List Dec), _, by kernel_rfl, g4⟩
theorem ckAge (c : Cfg) (nq : Nat) (fq : Nat → Int) (x y z : Int) (Q : VF → Prop) (H : (((decide (x < Int.ofNat 0)) = true → Q (.tup [.c (.v (.int .i64 (Int.ofNat 0))), .c (.v (.int .i64 (Int.ofNat 1)))], [], 320000000000000000000000000000000000001009, [decide (x < Int.ofNat 0) == true, true, true, (roundN c nq == Int.ofNat 0) == false, netK c nq fq, true], [])) ∧ ((decide (x < Int.ofNat 0)) = false → (((decide (x > IntKind.wrap .i64 (Int.tdiv (Int.ofNat 1099511627776) (roundN c nq)))) = true → Q (.tup [.c (.v (.int .i64 (Int.ofNat 0))), .c (.v (.int .i64 (Int.ofNat 1)))], [], 320000000000000000000000000000000000001009, [decide (x > IntKind.wrap .i64 (Int.tdiv (Int.ofNat 1099511627776) (roundN c nq))) == true, decide (roundN c nq ≠ Int.ofNat 0), true, true, decide (x < Int.ofNat 0) == false, true, true, (roundN c nq == Int.ofNat 0) == false, netK c nq fq, true], [])) ∧ ((decide (x > IntKind.wrap .i64 (Int.tdiv (Int.ofNat 1099511627776) (roundN c nq)))) = false → (((decide (ownerN c nq fq (List.headD [y] (Int.ofNat 0)) < Int.ofNat 0)) = true → Q (.tup [.c (.v (.int .i64 (Int.ofNat 0))), .c (.v (.int .i64 (Int.ofNat 1)))], [], 320000000000000000000000000000000000001009, [decide (ownerN c nq fq (List.headD [y] (Int.ofNat 0)) < Int.ofNat 0) == true, netK c nq fq, true, true, true, decide (x > IntKind.wrap .i64 (Int.tdiv (Int.ofNat 1099511627776) (roundN c nq))) == false, decide (roundN c nq ≠ Int.ofNat 0), true, true, decide (x < Int.ofNat 0) == false, true, true, (roundN c nq == Int.ofNat 0) == false, netK c nq fq, true], [])) ∧ ((decide (ownerN c nq fq (List.headD [y] (Int.ofNat 0)) < Int.ofNat 0)) = false → (((decide (z < Int.ofNat 0)) = true → Q (.tup [.c (.v (.int .i64 (Int.ofNat 0))), .c (.v (.int .i64 (Int.ofNat 1)))], [], 320000000000000000000000000000000000001009, [decide (z < Int.ofNat 0) == true, true, true, decide (ownerN c nq fq (List.headD [y] (Int.ofNat 0)) < Int.ofNat 0) == false, netK c nq fq, true, true, true, decide (x > IntKind.wrap .i64 (Int.tdiv (Int.ofNat 1099511627776) (roundN c nq))) == false, decide (roundN c nq ≠ Int.ofNat 0), true, true, decide (x < Int.ofNat 0) == false, true, true, (roundN c nq == Int.ofNat 0) == false, netK c nq fq, true], [])) ∧ ((decide (z < Int.ofNat 0)) = false → (((decide (z ≥ c.long)) = true → Q (.tup [.c (.v (.int .i64 (Int.ofNat 0))), .c (.v (.int .i64 (Int.ofNat 1)))], [], 320000000000000000000000000000000000001009, [decide (z ≥ c.long) == true, true, true, true, true, decide (z < Int.ofNat 0) == false, true, true, decide (ownerN c nq fq (List.headD [y] (Int.ofNat 0)) < Int.ofNat 0) == false, netK c nq fq, true, true, true, decide (x > IntKind.wrap .i64 (Int.tdiv (Int.ofNat 1099511627776) (roundN c nq))) == false, decide (roundN c nq ≠ Int.ofNat 0), true, true, decide (x < Int.ofNat 0) == false, true, true, (roundN c nq == Int.ofNat 0) == false, netK c nq fq, true], [])) ∧ ((decide (z ≥ c.long)) = false → (((decide (IntKind.wrap .i64 (IntKind.wrap .i64 (IntKind.wrap .i64 (x * roundN c nq) + IntKind.wrap .i64 (y * c.long)) + z) > Int.ofNat 1099511627776)) = true → Q (.tup [.c (.v (.int .i64 (Int.ofNat 0))), .c (.v (.int .i64 (Int.ofNat 1)))], [], 460000000000000000000000000000000000001011, [decide (IntKind.wrap .i64 (IntKind.wrap .i64 (IntKind.wrap .i64 (x * roundN c nq) + IntKind.wrap .i64 (y * c.long)) + z) > Int.ofNat 1099511627776) == true, true, true, true, true, true, true, true, true, decide (z ≥ c.long) == false, true, true, true, true, decide (z < Int.ofNat 0) == false, true, true, decide (ownerN c nq fq (List.headD [y] (Int.ofNat 0)) < Int.ofNat 0) == false, netK c nq fq, true, true, true, decide (x > IntKind.wrap .i64 (Int.tdiv (Int.ofNat 1099511627776) (roundN c nq))) == false, decide (roundN c nq ≠ Int.ofNat 0), true, true, decide (x < Int.ofNat 0) == false, true, true, (roundN c nq == Int.ofNat 0) == false, netK c nq fq, true], [])) ∧ ((decide (IntKind.wrap .i64 (IntKind.wrap .i64 (IntKind.wrap .i64 (x * roundN c nq) + IntKind.wrap .i64 (y * c.long)) + z) > Int.ofNat 1099511627776)) = false → Q (.tup [.c (.v (.int .i64 (IntKind.wrap .i64 (IntKind.wrap .i64 (IntKind.wrap .i64 (x * roundN c nq) + IntKind.wrap .i64 (y * c.long)) + z)))), .c (.v (.int .i64 (Int.ofNat 0)))], [], 460000000000000000000000000000000000001012, [decide (IntKind.wrap .i64 (IntKind.wrap .i64 (IntKind.wrap .i64 (x * roundN c nq) + IntKind.wrap .i64 (y * c.long)) + z) > Int.ofNat 1099511627776) == false, true, true, true, true, true, true, true, true, decide (z ≥ c.long) == false, true, true, true, true, decide (z < Int.ofNat 0) == false, true, true, decide (ownerN c nq fq (List.headD [y] (Int.ofNat 0)) < Int.ofNat 0) == false, netK c nq fq, true, true, true, decide (x > IntKind.wrap .i64 (Int.tdiv (Int.ofNat 1099511627776) (roundN c nq))) == false, decide (roundN c nq ≠ Int.ofNat 0), true, true, decide (x < Int.ofNat 0) == false, true, true, (roundN c nq == Int.ofNat 0) == false, netK c nq fq, true], [])))))))))))))) :
    ∃ p r, ckAgeE Tryd.prog c nq fq x y z p = some r ∧ Q r := by
  rcases Bool.eq_false_or_eq_true (decide (x < Int.ofNat 0)) with h2 | h2
  · have g2 := H.1 h2
    exact ⟨([.b false, .b true, .a, .a, .a, .a, .a, .a, .a, .a, .a, .a, .a, .a, .a, .a, .a, .a, .a, .a, .a, .a, .a] : List Dec), _, by kernel_rfl, g2⟩
  · have g2 := H.2 h2
    rcases Bool.eq_false_or_eq_true (decide (x > IntKind.wrap .i64 (Int.tdiv (Int.ofNat 1099511627776) (roundN c nq)))) with h4 | h4
    · have g4 := g2.1 h4
      exact ⟨([.b false, .b false, .a, .a, .a, .a, .b true, .a, .a, .a, .a, .a, .a, .a, .a, .a, .a, .a, .a, .a, .a, .a, .a] : List Dec), _, by kernel_rfl, g4⟩
    · have g4 := g2.2 h4
      rcases Bool.eq_false_or_eq_true (decide (ownerN c nq fq (List.headD [y] (Int.ofNat 0)) < Int.ofNat 0)) with h6 | h6
      · have g6 := g4.1 h6
        exact ⟨([.b false, .b false, .a, .a, .a, .a, .b false, .a, .a, .a, .a, .b true, .a, .a, .a, .a, .a, .a, .a, .a, .a, .a, .a] : List Dec), _, by kernel_rfl, g6⟩
      · have g6 := g4.2 h6
        rcases Bool.eq_false_or_eq_true (decide (z < Int.ofNat 0)) with h8 | h8
        · have g8 := g6.1 h8
          exact ⟨([.b false, .b false, .a, .a, .a, .a, .b false, .a, .a, .a, .a, .b false, .a, .a, .b true, .a, .a, .a, .a, .a, .a, .a, .a] : List Dec), _, by kernel_rfl, g8⟩
        · have g8 := g6.2 h8
          rcases Bool.eq_false_or_eq_true (decide (z ≥ c.long)) with h10 | h10
          · have g10 := g8.1 h10
            exact ⟨([.b false, .b false, .a, .a, .a, .a, .b false, .a, .a, .a, .a, .b false, .a, .a, .b false, .a, .a, .a, .a, .a, .a, .a, .b true] : List Dec), _, by kernel_rfl, g10⟩
          · have g10 := g8.2 h10
            rcases Bool.eq_false_or_eq_true (decide (IntKind.wrap .i64 (IntKind.wrap .i64 (IntKind.wrap .i64 (x * roundN c nq) + IntKind.wrap .i64 (y * c.long)) + z) > Int.ofNat 1099511627776)) with h12 | h12
            · have g12 := g10.1 h12
              exact ⟨([.b false, .b false, .a, .a, .a, .a, .b false, .a, .a, .a, .a, .b false, .a, .a, .b false, .a, .a, .a, .a, .a, .a, .a, .b false, .b true] : List Dec), _, by kernel_rfl, g12⟩
            · have g12 := g10.2 h12
              exact ⟨([.b false, .b false, .a, .a, .a, .a, .b false, .a, .a, .a, .a, .b false, .a, .a, .b false, .a, .a, .a, .a, .a, .a, .a, .b false, .b false] : List Dec), _, by kernel_rfl, g12⟩
end Go.Proofs.YtgfmjbfjodidpaaDoor
end
/- Contracts of clocks.Of, clocks.Age. -/
section
namespace Go.Proofs.YtgfmjbfjodidpaaDoor
open Go.RowKit

abbrev ckM : Int := 1099511627776
def ckIn (a : Int) : Prop := 0 ≤ a ∧ a ≤ ckM
instance (a : Int) : Decidable (ckIn a) := by unfold ckIn; infer_instance
/-- the time of an age -/
def ckErr (a : Int) : Int := if ckIn a then 0 else 1
def ckT (c : Cfg) (a : Int) : Int := if ckIn a then a / (c.ns * c.long) else 0
def ckS (c : Cfg) (a : Int) : Int := if ckIn a then a % (c.ns * c.long) / c.long else 0
def ckP (c : Cfg) (a : Int) : Int := if ckIn a then a % (c.ns * c.long) % c.long else 0
/-- the age of a time -/
def agOk (c : Cfg) (x y z : Int) : Prop := 0 ≤ x ∧ x ≤ ckM ∧ 0 ≤ y ∧ y < c.ns ∧ 0 ≤ z ∧ z < c.long ∧ x * (c.ns * c.long) + y * c.long + z ≤ ckM
instance (c : Cfg) (x y z : Int) : Decidable (agOk c x y z) := by unfold agOk; infer_instance
def agE (c : Cfg) (x y z : Int) : Int := if agOk c x y z then 0 else 1
def agV (c : Cfg) (x y z : Int) : Int := if agOk c x y z then x * (c.ns * c.long) + y * c.long + z else 0
def agA (c : Cfg) (x y z : Int) : Int := if agOk c x y z then x * c.ns + y else -1
def slotsOk (c : Cfg) : Bool := (List.range c.ns).all fun i => decide (0 ≤ c.fs i)
def ofR : NetS → AV
  | ⟨c, _, _, [.c (.v (.int .i64 a))]⟩ => .tup [tmA (ckT c a) (ckS c a) (ckP c a), i64 (ckErr a)]
  | _ => i64 0
def ofP : NetS → Bool
  | ⟨c, nq, _, [.c (.v (.int .i64 _))]⟩ => ckPre c nq
  | _ => false
def ctCkOf : CtF := ctRd netRd ofR ofP
set_option maxRecDepth 100000 in
theorem ct_ckOf : CtOk Tryd.prog 55 ctCkOf := by
  refine ctRd_ofE (E := ENns Tryd.prog) hENns netRd (fuel := 300) (str := 10000000000000000000000000000000000000000) ⟨_, _, Tryd.func55, rfl⟩ (fun s => by unfold ofR; split <;> rfl) fun s hs => ?_
  unfold ofP at hs
  split at hs
  · rename_i c nq fq a
    refine (?_ : (∃ p q, ckOfE Tryd.prog c nq fq a p = some q ∧ GoodF (.tup [tmA (ckT c a) (ckS c a) (ckP c a), i64 (ckErr a)]) q) → _) (ckOf c nq fq a _ ?_)
    · rintro ⟨p, q, h1, h2⟩
      exact ⟨p, _, q, h1, h2⟩
    · obtain ⟨e, r1, r2, q1, q2, q3, q4, q5⟩ := ck_round hs
      obtain ⟨R, hR⟩ : ∃ R : Int, (c.ns : Int) * c.long = R := ⟨_, rfl⟩
      rw [hR] at e r1 r2
      simp only [e]
      (repeat' (first | refine ⟨fun h => ?_, fun h => ?_⟩ | fail))
      all_goals (refine ⟨?_, (by first | (unfold lim; omega) | (dsimp only; unfold lim; omega)), ?_, by simp⟩)
      all_goals (simp only [decide_eq_true_eq, decide_eq_false_iff_not, Int.ofNat_eq_natCast, Int.cast_ofNat_Int, gt_iff_lt] at *)
      all_goals first
        | (have hn : ¬ ckIn a := (by unfold ckIn ckM; omega)
           simp [ckT, ckS, ckP, ckErr, hn, i64]; done)
        | (have hy : ckIn a := (by unfold ckIn ckM; omega)
           have m1 := Int.emod_nonneg a (show R ≠ 0 by omega)
           have m2 := Int.emod_lt_of_pos a (show 0 < R by omega)
           have t1 : Int.tmod a R = a % R := Int.tmod_eq_emod_of_nonneg (by omega)
           have t2 : Int.tdiv a R = a / R := Int.tdiv_eq_ediv_of_nonneg (by omega)
           have d0 := Int.ediv_nonneg (a := a) (b := R) (by omega) (by omega)
           have d1 : a / R ≤ a := Int.ediv_le_self _ (by omega)
           have t3 : Int.tmod (a % R) c.long = a % R % c.long := Int.tmod_eq_emod_of_nonneg (by omega)
           have t4 : Int.tdiv (a % R) c.long = a % R / c.long := Int.tdiv_eq_ediv_of_nonneg (by omega)
           have e0 := Int.ediv_nonneg (a := a % R) (b := c.long) (by omega) (by omega)
           have e1 : a % R / c.long ≤ a % R := Int.ediv_le_self _ (by omega)
           have f0 := Int.emod_nonneg (a % R) (show c.long ≠ 0 by omega)
           have f1 := Int.emod_lt_of_pos (a % R) (show 0 < c.long by omega)
           have w0 : ∀ x : Int, 0 ≤ x → x ≤ 1099511627776 → IntKind.wrap IntKind.i64 x = x := (fun x h0 h1 => wrap_nat x (by omega) (by omega))
           simp only [t1, t2, t3, t4, w0 _ d0 (by omega), w0 _ e0 (by omega), w0 _ f0 (by omega), w0 c.long (by omega) (by omega)]
           simp [ckT, ckS, ckP, ckErr, hy, i64, hR]; done)
        | (simp only [allT, List.forall_mem_cons, List.not_mem_nil, false_implies, implies_true, and_true, true_and, cfgK_t, netK_t, intsOk_ints, stsOk_sts, intsOk_s, stsOk_s, beq_iff_eq, decide_eq_true_eq, decide_eq_false_iff_not, beq_eq_false_iff_ne, bne_iff_ne, bne_eq_false_iff_eq, Bool.not_eq_true', Bool.not_eq_false', ne_eq, Int.ofNat_eq_natCast, Int.cast_ofNat_Int, gt_iff_lt, ge_iff_le]; omega)
  · cases hs
def agR : NetS → AV
  | ⟨c, _, _, [.agg [.v (.int .i64 x), .v (.int .i64 y), .v (.int .i64 z)]]⟩ => .tup [i64 (agV c x y z), i64 (agE c x y z)]
  | _ => i64 0
def agP : NetS → Bool
  | ⟨c, nq, _, [.agg [.v (.int .i64 _), .v (.int .i64 _), .v (.int .i64 _)]]⟩ => ckPre c nq && slotsOk c
  | _ => false
def ctCkAge : CtF := ctRd netRd agR agP
theorem owner_ok {c : Cfg} {nq : Nat} {fq : Nat → Int} (hq : 0 < nq) (h : slotsOk c = true) (y : Int) : 0 ≤ ownerN c nq fq y ↔ 0 ≤ y ∧ y < c.ns := by
  unfold ownerN atF
  rw [if_neg (by omega)]
  split
  · rename_i hy
    have := List.all_eq_true.1 h y.toNat (by simp; omega)
    simp at this
    constructor
    · intro; exact hy
    · intro; omega
  · rename_i hy
    constructor
    · intro h; omega
    · intro h; exact absurd h hy
set_option maxRecDepth 100000 in
theorem ct_ckAge : CtOk Tryd.prog 57 ctCkAge := by
  refine ctRd_ofE (E := ENns Tryd.prog) hENns netRd (fuel := 300) (str := 10000000000000000000000000000000000000000) ⟨_, _, Tryd.func57, rfl⟩ (fun s => by unfold agR; split <;> rfl) fun s hs => ?_
  unfold agP at hs
  split at hs
  · rename_i c nq fq x y z
    rw [Bool.and_eq_true] at hs
    refine (?_ : (∃ p q, ckAgeE Tryd.prog c nq fq x y z p = some q ∧ GoodF (.tup [i64 (agV c x y z), i64 (agE c x y z)]) q) → _) (ckAge c nq fq x y z _ ?_)
    · rintro ⟨p, q, h1, h2⟩
      exact ⟨p, _, q, h1, h2⟩
    · obtain ⟨e, r1, r2, q1, q2, q3, q4, q5⟩ := ck_round hs.1
      have ho := owner_ok (fq := fq) q1 hs.2 y
      obtain ⟨R, hR⟩ : ∃ R : Int, (c.ns : Int) * c.long = R := ⟨_, rfl⟩
      rw [hR] at e r1 r2
      obtain ⟨o, hoe⟩ : ∃ o, ownerN c nq fq y = o := ⟨_, rfl⟩
      rw [hoe] at ho
      simp only [List.headD_cons, e, hoe]
      have t2 : Int.tdiv 1099511627776 R = 1099511627776 / R := Int.tdiv_eq_ediv_of_nonneg (by omega)
      have d0 := Int.ediv_nonneg (a := 1099511627776) (b := R) (by omega) (by omega)
      have d1 : (1099511627776 : Int) / R ≤ 1099511627776 := Int.ediv_le_self _ (by omega)
      have d2 := Int.mul_ediv_add_emod 1099511627776 R
      have d3 := Int.emod_nonneg (1099511627776 : Int) (show R ≠ 0 by omega)
      have d4 := Int.emod_lt_of_pos (1099511627776 : Int) (show 0 < R by omega)
      have w1 : IntKind.wrap IntKind.i64 (Int.tdiv (Int.ofNat 1099511627776) R) = 1099511627776 / R := by
        rw [show (Int.ofNat 1099511627776) = (1099511627776 : Int) from rfl, t2]
        exact wrap_nat _ (by omega) (by omega)
      have w1' : IntKind.wrap IntKind.i64 (Int.tdiv 1099511627776 R) = 1099511627776 / R := w1
      simp only [w1, w1']
      have hx1 : 0 ≤ x → x ≤ 1099511627776 / R → 0 ≤ x * R ∧ x * R ≤ 1099511627776 := fun h0 h1 => by
        have a1 : x * R ≤ 1099511627776 / R * R := Int.mul_le_mul_of_nonneg_right h1 (by omega)
        have a2 : R * (1099511627776 / R) = 1099511627776 / R * R := Int.mul_comm _ _
        exact ⟨Int.mul_nonneg h0 (by omega), by omega⟩
      have hx2 : 1099511627776 / R < x → 1099511627776 < x * R := fun h0 => by
        have a1 : (1099511627776 / R + 1) * R ≤ x * R := Int.mul_le_mul_of_nonneg_right (by omega) (by omega)
        have a2 : R * (1099511627776 / R) = 1099511627776 / R * R := Int.mul_comm _ _
        have a3 : (1099511627776 / R + 1) * R = 1099511627776 / R * R + R := by rw [Int.add_mul, Int.one_mul]
        omega
      have hy1 : 0 ≤ y → y < c.ns → 0 ≤ y * c.long ∧ y * c.long ≤ 65536 := fun h0 h1 => by
        have a1 : y * c.long ≤ 16 * 4096 := mul_le_mul_of h0 (by omega) (by omega) (by omega)
        exact ⟨Int.mul_nonneg h0 (by omega), by omega⟩
      have hlong : IntKind.wrap IntKind.i64 c.long = c.long := wrap_nat _ (by omega) (by omega)
      try simp only [hlong]
      have key : ∀ (p : Prop), (0 ≤ x → x ≤ 1099511627776 / R → 0 ≤ y → y < c.ns → 0 ≤ z → z < c.long → p) → (0 ≤ x ∧ x ≤ 1099511627776 / R ∧ 0 ≤ y ∧ y < c.ns ∧ 0 ≤ z ∧ z < c.long) → p := fun p h g => h g.1 g.2.1 g.2.2.1 g.2.2.2.1 g.2.2.2.2.1 g.2.2.2.2.2
      have hw : 0 ≤ x → x ≤ 1099511627776 / R → 0 ≤ y → y < c.ns → 0 ≤ z → z < c.long →
          IntKind.wrap IntKind.i64 (IntKind.wrap IntKind.i64 (IntKind.wrap IntKind.i64 (x * R) + IntKind.wrap IntKind.i64 (y * c.long)) + z) = x * R + y * c.long + z := fun h1 h2 h3 h4 h5 h6 => by
        have := hx1 h1 h2
        have := hy1 h3 h4
        rw [wrap_nat (x * R) (by omega) (by omega), wrap_nat (y * c.long) (by omega) (by omega), wrap_nat (x * R + y * c.long) (by omega) (by omega), wrap_nat _ (by omega) (by omega)]
      have hx0 : 0 ≤ x → 1099511627776 / R < x → ∀ t, 0 ≤ t → ¬ (x * R + t ≤ 1099511627776) := fun h0 h1 t ht => by have := hx2 h1; omega
      (repeat' (first | refine ⟨fun h => ?_, fun h => ?_⟩ | fail))
      all_goals (refine ⟨?_, (by first | (unfold lim; omega) | (dsimp only; unfold lim; omega)), ?_, by simp⟩)
      all_goals (simp only [decide_eq_true_eq, decide_eq_false_iff_not, Int.ofNat_eq_natCast, Int.cast_ofNat_Int, gt_iff_lt, ge_iff_le] at *)
      all_goals first
        | (have hn : ¬ agOk c x y z := (by
             unfold agOk ckM
             rw [hR]
             rintro ⟨g1, g2, g3, g4, g5, g6, g7⟩
             have := hy1 g3 g4
             have := hx1 g1
             have := hx2
             omega)
           simp [agV, agE, hn, i64]; done)
        | (have hn : ¬ agOk c x y z := (by
             unfold agOk ckM
             rw [hR]
             rintro ⟨g1, g2, g3, g4, g5, g6, g7⟩
             have := hw g1 (by omega) g3 g4 g5 g6
             omega)
           simp [agV, agE, hn, i64]; done)
        | (have e9 := hw (by omega) (by omega) (by omega) (by omega) (by omega) (by omega)
           have hy : agOk c x y z := (by
             unfold agOk ckM
             rw [hR]
             have := hx1 (by omega) (by omega)
             refine ⟨by omega, by omega, by omega, by omega, by omega, by omega, by omega⟩)
           rw [e9]
           simp [agV, agE, hy, i64, hR]; done)
        | (simp only [allT, List.forall_mem_cons, List.not_mem_nil, false_implies, implies_true, and_true, true_and, cfgK_t, netK_t, intsOk_ints, stsOk_sts, intsOk_s, stsOk_s, beq_iff_eq, decide_eq_true_eq, decide_eq_false_iff_not, beq_eq_false_iff_ne, bne_iff_ne, bne_eq_false_iff_eq, Bool.not_eq_true', Bool.not_eq_false', ne_eq, Int.ofNat_eq_natCast, Int.cast_ofNat_Int, gt_iff_lt, ge_iff_le]; omega)
  · cases hs
end Go.Proofs.YtgfmjbfjodidpaaDoor
end
/- modes.in: its loop's round as the evaluator runs it. -/
section
namespace Go.Proofs.YtgfmjbfjodidpaaDoor
open Go.RowKit

def ctFirst : CtF := ctNet (fun c nq fq zs => i64 (headN c nq fq (zs.headD 0))) fun c nq fq zs => true && decide (zs.length = 1)
def ENf (P : Program) : Env := ⟨P, [(37, ctFirst)]⟩
/-- has a net such a pair? is it in? -/
def hasB (c : Cfg) (nq : Nat) (fq : Nat → Int) (p : Nat) : Bool := decide (0 ≤ headN c nq fq (Int.ofNat p))
def inB (c : Cfg) (nq : Nat) (fq : Nat → Int) (v : Vw) (p : Nat) : Bool := hasB c nq fq p && v.inn p
abbrev vwB (v : Vw) : ABlk := ⟨true, false, 32, 0, .lit (v.cells.map .v)⟩
abbrev netY0 (c : Cfg) (nq : Nat) : ABlk := ⟨false, false, 130, 0, .lit (netC0 c nq)⟩
abbrev netIds : List Nat := [gid 0, 0, 1, 2, 3, 4, 5]
abbrev netBk (c : Cfg) (nq : Nat) (fq : Nat → Int) : List ABlk := [signB, ints 3 c.np c.fp, ints 3 c.ns c.fs, ints 3 c.nb c.fb, sts c.nt c.ft, ints 3 nq fq, netY0 c nq]
abbrev mdV (c : Cfg) (nq : Nat) (fq : Nat → Int) (v : Vw) (k : Nat) : List AV := [.c (.ptr 5 0 0), .c (.ptr 1000 0 0), i64 (Int.ofNat (cntF (inB c nq fq v) k)), i64 (Int.ofNat (cntF (hasB c nq fq) k)), i64 (Int.ofNat k)]
def mdR (P : Program) (c : Cfg) (nq : Nat) (fq : Nat → Int) (v : Vw) (k : Nat) (path : List Dec) : Option VC :=
  view ([0, 3, 4, 5, 7] ++ []) (netIds ++ [1000]) (fC (ENf P) 100 (loopAt P 69 0) 1000000000000000000000000000000000000000000 10000000000000000000000000000000000000000 (stH 25 [0, 3, 4, 5, 7] (netIds ++ [1000]) (mdV c nq fq v k) (netBk c nq fq ++ [vwB v]) path []))
theorem md (c : Cfg) (nq : Nat) (fq : Nat → Int) (v : Vw) (k : Nat) (Q : VC → Prop) (H : (((decide (Int.ofNat k < Int.ofNat 8)) = true → (((decide (headN c nq fq (List.headD [Int.ofNat k] (Int.ofNat 0)) < Int.ofNat 0)) = true → Q (Exit.normal, [some (lkA (List.zip [0, 3, 4, 5, 7] (mdV c nq fq v k)) 0), some (lkA (List.zip [0, 3, 4, 5, 7] (mdV c nq fq v k)) (0 + 1 + 1 + 1)), some (lkA (List.zip [0, 3, 4, 5, 7] (mdV c nq fq v k)) (0 + 1 + 1 + 1 + 1)), some (lkA (List.zip [0, 3, 4, 5, 7] (mdV c nq fq v k)) (0 + 1 + 1 + 1 + 1 + 1)), some (.c (.v (.int .i64 (IntKind.wrap .i64 (Int.ofNat k + Int.ofNat 1)))))], [some (ABlk.mk false false 107 0 (Cs.lit [.v (.int .i64 (Int.ofNat 1)), .v (.int .i64 (Int.negSucc 0))])), some (ABlk.mk false false 3 1 (Cs.arr (c.np) fun k => List.map AC.v ((fun i => [Value.int .i64 (c.fp i)]) k))), some (ABlk.mk false false 3 1 (Cs.arr (c.ns) fun k => List.map AC.v ((fun i => [Value.int .i64 (c.fs i)]) k))), some (ABlk.mk false false 3 1 (Cs.arr (c.nb) fun k => List.map AC.v ((fun i => [Value.int .i64 (c.fb i)]) k))), some (ABlk.mk false false 47 3 (Cs.arr (c.nt) fun k => List.map AC.v ((fun i => [Value.int .i64 (Station.node (c.ft i)), Value.int .u32 (Station.safe (c.ft i)), Value.int .i64 (Station.hold (c.ft i))]) k))), some (ABlk.mk false false 3 1 (Cs.arr nq fun k => List.map AC.v ((fun i => [Value.int .i64 (fq i)]) k))), some (ABlk.mk false false 130 0 (Cs.lit [.v (.int .i64 (c.nodes)), AC.sl 0 0 0 (c.np) none, AC.sl 1 0 0 (c.ns) none, .v (.int .i64 (c.long)), AC.sl 2 0 0 (c.nb) none, AC.sl 3 0 0 (c.nt) none, .v (.int .i64 (c.miss)), .v (.int .i64 (c.good)), .v (.int .i64 (c.fresh)), AC.sl 4 0 0 nq none])), some (ABlk.mk true false 32 0 (Cs.lit (vwL v)))], 25, 1000000000000000000000000000000000000000008, [decide (headN c nq fq (List.headD [Int.ofNat k] (Int.ofNat 0)) < Int.ofNat 0) == true, netK c nq fq, true, decide (Int.ofNat k < Int.ofNat 8) == true], [])) ∧ ((decide (headN c nq fq (List.headD [Int.ofNat k] (Int.ofNat 0)) < Int.ofNat 0)) = false → (((asB (List.getD (vwL v) (0 + Int.toNat (Int.ofNat k) * 1) nov)) = true → Q (Exit.normal, [some (lkA (List.zip [0, 3, 4, 5, 7] (mdV c nq fq v k)) 0), some (lkA (List.zip [0, 3, 4, 5, 7] (mdV c nq fq v k)) (0 + 1 + 1 + 1)), some (.c (.v (.int .i64 (IntKind.wrap .i64 (Int.ofNat (cntF (inB c nq fq v) k) + Int.ofNat 1))))), some (.c (.v (.int .i64 (IntKind.wrap .i64 (Int.ofNat (cntF (hasB c nq fq) k) + Int.ofNat 1))))), some (.c (.v (.int .i64 (IntKind.wrap .i64 (Int.ofNat k + Int.ofNat 1)))))], [some (ABlk.mk false false 107 0 (Cs.lit [.v (.int .i64 (Int.ofNat 1)), .v (.int .i64 (Int.negSucc 0))])), some (ABlk.mk false false 3 1 (Cs.arr (c.np) fun k => List.map AC.v ((fun i => [Value.int .i64 (c.fp i)]) k))), some (ABlk.mk false false 3 1 (Cs.arr (c.ns) fun k => List.map AC.v ((fun i => [Value.int .i64 (c.fs i)]) k))), some (ABlk.mk false false 3 1 (Cs.arr (c.nb) fun k => List.map AC.v ((fun i => [Value.int .i64 (c.fb i)]) k))), some (ABlk.mk false false 47 3 (Cs.arr (c.nt) fun k => List.map AC.v ((fun i => [Value.int .i64 (Station.node (c.ft i)), Value.int .u32 (Station.safe (c.ft i)), Value.int .i64 (Station.hold (c.ft i))]) k))), some (ABlk.mk false false 3 1 (Cs.arr nq fun k => List.map AC.v ((fun i => [Value.int .i64 (fq i)]) k))), some (ABlk.mk false false 130 0 (Cs.lit [.v (.int .i64 (c.nodes)), AC.sl 0 0 0 (c.np) none, AC.sl 1 0 0 (c.ns) none, .v (.int .i64 (c.long)), AC.sl 2 0 0 (c.nb) none, AC.sl 3 0 0 (c.nt) none, .v (.int .i64 (c.miss)), .v (.int .i64 (c.good)), .v (.int .i64 (c.fresh)), AC.sl 4 0 0 nq none])), some (ABlk.mk true false 32 0 (Cs.lit (vwL v)))], 25, 1000000000000000000000000000000000000000018, [asB (List.getD (vwL v) (0 + Int.toNat (Int.ofNat k) * 1) nov) == true, ABlk.inb (ABlk.mk true false 32 0 (Cs.lit (vwL v))) 0 (0 + Int.toNat (Int.ofNat k) * 1 + 1), okl Kd.b (List.getD (vwL v) (0 + Int.toNat (Int.ofNat k) * 1) nov), decide (Int.ofNat 0 ≤ Int.ofNat k ∧ Int.ofNat k < Int.ofNat 8), decide (headN c nq fq (List.headD [Int.ofNat k] (Int.ofNat 0)) < Int.ofNat 0) == false, netK c nq fq, true, decide (Int.ofNat k < Int.ofNat 8) == true], [])) ∧ ((asB (List.getD (vwL v) (0 + Int.toNat (Int.ofNat k) * 1) nov)) = false → Q (Exit.normal, [some (lkA (List.zip [0, 3, 4, 5, 7] (mdV c nq fq v k)) 0), some (lkA (List.zip [0, 3, 4, 5, 7] (mdV c nq fq v k)) (0 + 1 + 1 + 1)), some (lkA (List.zip [0, 3, 4, 5, 7] (mdV c nq fq v k)) (0 + 1 + 1 + 1 + 1)), some (.c (.v (.int .i64 (IntKind.wrap .i64 (Int.ofNat (cntF (hasB c nq fq) k) + Int.ofNat 1))))), some (.c (.v (.int .i64 (IntKind.wrap .i64 (Int.ofNat k + Int.ofNat 1)))))], [some (ABlk.mk false false 107 0 (Cs.lit [.v (.int .i64 (Int.ofNat 1)), .v (.int .i64 (Int.negSucc 0))])), some (ABlk.mk false false 3 1 (Cs.arr (c.np) fun k => List.map AC.v ((fun i => [Value.int .i64 (c.fp i)]) k))), some (ABlk.mk false false 3 1 (Cs.arr (c.ns) fun k => List.map AC.v ((fun i => [Value.int .i64 (c.fs i)]) k))), some (ABlk.mk false false 3 1 (Cs.arr (c.nb) fun k => List.map AC.v ((fun i => [Value.int .i64 (c.fb i)]) k))), some (ABlk.mk false false 47 3 (Cs.arr (c.nt) fun k => List.map AC.v ((fun i => [Value.int .i64 (Station.node (c.ft i)), Value.int .u32 (Station.safe (c.ft i)), Value.int .i64 (Station.hold (c.ft i))]) k))), some (ABlk.mk false false 3 1 (Cs.arr nq fun k => List.map AC.v ((fun i => [Value.int .i64 (fq i)]) k))), some (ABlk.mk false false 130 0 (Cs.lit [.v (.int .i64 (c.nodes)), AC.sl 0 0 0 (c.np) none, AC.sl 1 0 0 (c.ns) none, .v (.int .i64 (c.long)), AC.sl 2 0 0 (c.nb) none, AC.sl 3 0 0 (c.nt) none, .v (.int .i64 (c.miss)), .v (.int .i64 (c.good)), .v (.int .i64 (c.fresh)), AC.sl 4 0 0 nq none])), some (ABlk.mk true false 32 0 (Cs.lit (vwL v)))], 25, 1000000000000000000000000000000000000000015, [asB (List.getD (vwL v) (0 + Int.toNat (Int.ofNat k) * 1) nov) == false, ABlk.inb (ABlk.mk true false 32 0 (Cs.lit (vwL v))) 0 (0 + Int.toNat (Int.ofNat k) * 1 + 1), okl Kd.b (List.getD (vwL v) (0 + Int.toNat (Int.ofNat k) * 1) nov), decide (Int.ofNat 0 ≤ Int.ofNat k ∧ Int.ofNat k < Int.ofNat 8), decide (headN c nq fq (List.headD [Int.ofNat k] (Int.ofNat 0)) < Int.ofNat 0) == false, netK c nq fq, true, decide (Int.ofNat k < Int.ofNat 8) == true], [])))))) ∧ ((decide (Int.ofNat k < Int.ofNat 8)) = false → Q (Exit.exit 0, [some (lkA (List.zip [0, 3, 4, 5, 7] (mdV c nq fq v k)) 0), some (lkA (List.zip [0, 3, 4, 5, 7] (mdV c nq fq v k)) (0 + 1 + 1 + 1)), some (lkA (List.zip [0, 3, 4, 5, 7] (mdV c nq fq v k)) (0 + 1 + 1 + 1 + 1)), some (lkA (List.zip [0, 3, 4, 5, 7] (mdV c nq fq v k)) (0 + 1 + 1 + 1 + 1 + 1)), some (lkA (List.zip [0, 3, 4, 5, 7] (mdV c nq fq v k)) (0 + 1 + 1 + 1 + 1 + 1 + 1 + 1))], [some (ABlk.mk false false 107 0 (Cs.lit [.v (.int .i64 (Int.ofNat 1)), .v (.int .i64 (Int.negSucc 0))])), some (ABlk.mk false false 3 1 (Cs.arr (c.np) fun k => List.map AC.v ((fun i => [Value.int .i64 (c.fp i)]) k))), some (ABlk.mk false false 3 1 (Cs.arr (c.ns) fun k => List.map AC.v ((fun i => [Value.int .i64 (c.fs i)]) k))), some (ABlk.mk false false 3 1 (Cs.arr (c.nb) fun k => List.map AC.v ((fun i => [Value.int .i64 (c.fb i)]) k))), some (ABlk.mk false false 47 3 (Cs.arr (c.nt) fun k => List.map AC.v ((fun i => [Value.int .i64 (Station.node (c.ft i)), Value.int .u32 (Station.safe (c.ft i)), Value.int .i64 (Station.hold (c.ft i))]) k))), some (ABlk.mk false false 3 1 (Cs.arr nq fun k => List.map AC.v ((fun i => [Value.int .i64 (fq i)]) k))), some (ABlk.mk false false 130 0 (Cs.lit [.v (.int .i64 (c.nodes)), AC.sl 0 0 0 (c.np) none, AC.sl 1 0 0 (c.ns) none, .v (.int .i64 (c.long)), AC.sl 2 0 0 (c.nb) none, AC.sl 3 0 0 (c.nt) none, .v (.int .i64 (c.miss)), .v (.int .i64 (c.good)), .v (.int .i64 (c.fresh)), AC.sl 4 0 0 nq none])), some (ABlk.mk true false 32 0 (Cs.lit (vwL v)))], 25, 1000000000000000000000000000000000000000001, [decide (Int.ofNat k < Int.ofNat 8) == false], [])))) :
    ∃ p r, mdR Tryd.prog c nq fq v k p = some r ∧ Q r := by
  rcases Bool.eq_false_or_eq_true (decide (Int.ofNat k < Int.ofNat 8)) with h2 | h2
  · have g2 := H.1 h2
    rcases Bool.eq_false_or_eq_true (decide (headN c nq fq (List.headD [Int.ofNat k] (Int.ofNat 0)) < Int.ofNat 0)) with h4 | h4
    · have g4 := g2.1 h4
      exact ⟨([.b true, .b true] : List Dec), _, by kernel_rfl, g4⟩
    · have g4 := g2.2 h4
      rcases Bool.eq_false_or_eq_true (asB (List.getD (vwL v) (0 + Int.toNat (Int.ofNat k) * 1) nov)) with h6 | h6
      · have g6 := g4.1 h6
        exact ⟨([.b true, .b false, .b true] : List Dec), _, by kernel_rfl, g6⟩
      · have g6 := g4.2 h6
        exact ⟨([.b true, .b false, .b false] : List Dec), _, by kernel_rfl, g6⟩
  · have g2 := H.2 h2
    exact ⟨([.b false] : List Dec), _, by kernel_rfl, g2⟩
end Go.Proofs.YtgfmjbfjodidpaaDoor
end
/- modes.in: how many pairs are in, of how many: its contract. -/
section
namespace Go.Proofs.YtgfmjbfjodidpaaDoor
open Go.RowKit

theorem wrap_nat1 (k : Nat) (h : k ≤ 1000000) : IntKind.wrap IntKind.i64 (Int.ofNat k + Int.ofNat 1) = Int.ofNat (k + 1) := by rw [wrap_nat _ (by simp; omega) (by simp; omega)]; simp
end Go.Proofs.YtgfmjbfjodidpaaDoor
end
/- clocks.Ahead, sennitref06: as the evaluator runs them. -/
section
namespace Go.Proofs.YtgfmjbfjodidpaaDoor
open Go.RowKit

def ctsAg : List (FuncId × CtF) := (57, ctCkAge) :: ctNets
theorem ctsAg_ok : ∀ f g, (f, g) ∈ ctsAg → CtOk Tryd.prog f g := by
  intro f g h
  rcases List.mem_cons.1 h with h | h
  · cases h; exact ct_ckAge
  · exact ctNets_ok f g h
def ENag (P : Program) : Env := ⟨P, ctsAg⟩
theorem hENag : EnvOk (ENag Tryd.prog) := envOk ctsAg_ok (by kernel_rfl) (by kernel_rfl)
def ckAheadE (P : Program) (c : Cfg) (nq : Nat) (fq : Nat → Int) (x y z : Int) (path : List Dec) : Option VF := ntE (ENag P) 60 c nq fq [tmA x y z] path []
theorem ckAhead (c : Cfg) (nq : Nat) (fq : Nat → Int) (x y z : Int) (Q : VF → Prop) (H : (((agE c x y z != Int.ofNat 0) = true → Q (.c (.v (.int .i64 (Int.negSucc 0))), [], 1012, [(agE c x y z != Int.ofNat 0) == true, netK c nq fq, agP (NetS.mk c nq fq [.agg [.v (.int .i64 x), .v (.int .i64 y), .v (.int .i64 z)]]), true, true, true, true], [])) ∧ ((agE c x y z != Int.ofNat 0) = false → Q (.c (.v (.int .i64 (IntKind.wrap .i64 (IntKind.wrap .i64 (x * ↑(c.ns)) + y)))), [], 130000000000000000000000000000000000001011, [true, true, true, true, true, (agE c x y z != Int.ofNat 0) == false, netK c nq fq, agP (NetS.mk c nq fq [.agg [.v (.int .i64 x), .v (.int .i64 y), .v (.int .i64 z)]]), true, true, true, true], [])))) :
    ∃ p r, ckAheadE Tryd.prog c nq fq x y z p = some r ∧ Q r := by
  rcases Bool.eq_false_or_eq_true (agE c x y z != Int.ofNat 0) with h2 | h2
  · have g2 := H.1 h2
    exact ⟨([.b true] : List Dec), _, by kernel_rfl, g2⟩
  · have g2 := H.2 h2
    exact ⟨([.b false] : List Dec), _, by kernel_rfl, g2⟩
/-- a function of a config and plain values -/
def cfE (E : Env) (f : FuncId) (c : Cfg) (r : List AV) (path : List Dec) (lp : List (Option LSum)) : Option VF := viewF [] (fCallF E (fC E 300) f (.agg (cfgC c) :: r) 1000 10000000000000000000000000000000000000000 (stA (cfgM c) path lp))
theorem rfAge (c : Cfg) (x y z : Int) (Q : VF → Prop) (H : (((decide (x < Int.ofNat 0)) = true → Q (.tup [.c (.v (.int .i64 (Int.ofNat 0))), .c (.v (.int .i64 (Int.ofNat 1)))], [], 1019, [decide (x < Int.ofNat 0) == true, true, true], [])) ∧ ((decide (x < Int.ofNat 0)) = false → (((decide (x > Int.ofNat 1099511627776)) = true → Q (.tup [.c (.v (.int .i64 (Int.ofNat 0))), .c (.v (.int .i64 (Int.ofNat 1)))], [], 1022, [decide (x > Int.ofNat 1099511627776) == true, true, true, decide (x < Int.ofNat 0) == false, true, true], [])) ∧ ((decide (x > Int.ofNat 1099511627776)) = false → (((decide (y < Int.ofNat 0)) = true → Q (.tup [.c (.v (.int .i64 (Int.ofNat 0))), .c (.v (.int .i64 (Int.ofNat 1)))], [], 1025, [decide (y < Int.ofNat 0) == true, true, true, decide (x > Int.ofNat 1099511627776) == false, true, true, decide (x < Int.ofNat 0) == false, true, true], [])) ∧ ((decide (y < Int.ofNat 0)) = false → (((decide (y ≥ ↑(c.ns))) = true → Q (.tup [.c (.v (.int .i64 (Int.ofNat 0))), .c (.v (.int .i64 (Int.ofNat 1)))], [], 1031, [decide (y ≥ ↑(c.ns)) == true, true, true, true, decide (y < Int.ofNat 0) == false, true, true, decide (x > Int.ofNat 1099511627776) == false, true, true, decide (x < Int.ofNat 0) == false, true, true], [])) ∧ ((decide (y ≥ ↑(c.ns))) = false → (((decide (z < Int.ofNat 0)) = true → Q (.tup [.c (.v (.int .i64 (Int.ofNat 0))), .c (.v (.int .i64 (Int.ofNat 1)))], [], 1034, [decide (z < Int.ofNat 0) == true, true, true, decide (y ≥ ↑(c.ns)) == false, true, true, true, decide (y < Int.ofNat 0) == false, true, true, decide (x > Int.ofNat 1099511627776) == false, true, true, decide (x < Int.ofNat 0) == false, true, true], [])) ∧ ((decide (z < Int.ofNat 0)) = false → (((decide (z ≥ c.long)) = true → Q (.tup [.c (.v (.int .i64 (Int.ofNat 0))), .c (.v (.int .i64 (Int.ofNat 1)))], [], 1039, [decide (z ≥ c.long) == true, true, true, true, true, decide (z < Int.ofNat 0) == false, true, true, decide (y ≥ ↑(c.ns)) == false, true, true, true, decide (y < Int.ofNat 0) == false, true, true, decide (x > Int.ofNat 1099511627776) == false, true, true, decide (x < Int.ofNat 0) == false, true, true], [])) ∧ ((decide (z ≥ c.long)) = false → (((decide (IntKind.wrap .i64 (IntKind.wrap .i64 (x * IntKind.wrap .i64 (↑(c.ns) * c.long)) + IntKind.wrap .i64 (IntKind.wrap .i64 (y * c.long) + z)) > Int.ofNat 1099511627776)) = true → Q (.tup [.c (.v (.int .i64 (Int.ofNat 0))), .c (.v (.int .i64 (Int.ofNat 1)))], [], 150000000000000000000000000000000000001041, [decide (IntKind.wrap .i64 (IntKind.wrap .i64 (x * IntKind.wrap .i64 (↑(c.ns) * c.long)) + IntKind.wrap .i64 (IntKind.wrap .i64 (y * c.long) + z)) > Int.ofNat 1099511627776) == true, true, true, true, true, true, true, true, true, true, true, true, true, true, true, true, true, true, decide (z ≥ c.long) == false, true, true, true, true, decide (z < Int.ofNat 0) == false, true, true, decide (y ≥ ↑(c.ns)) == false, true, true, true, decide (y < Int.ofNat 0) == false, true, true, decide (x > Int.ofNat 1099511627776) == false, true, true, decide (x < Int.ofNat 0) == false, true, true], [])) ∧ ((decide (IntKind.wrap .i64 (IntKind.wrap .i64 (x * IntKind.wrap .i64 (↑(c.ns) * c.long)) + IntKind.wrap .i64 (IntKind.wrap .i64 (y * c.long) + z)) > Int.ofNat 1099511627776)) = false → Q (.tup [.c (.v (.int .i64 (IntKind.wrap .i64 (IntKind.wrap .i64 (x * IntKind.wrap .i64 (↑(c.ns) * c.long)) + IntKind.wrap .i64 (IntKind.wrap .i64 (y * c.long) + z))))), .c (.v (.int .i64 (Int.ofNat 0)))], [], 150000000000000000000000000000000000001042, [decide (IntKind.wrap .i64 (IntKind.wrap .i64 (x * IntKind.wrap .i64 (↑(c.ns) * c.long)) + IntKind.wrap .i64 (IntKind.wrap .i64 (y * c.long) + z)) > Int.ofNat 1099511627776) == false, true, true, true, true, true, true, true, true, true, true, true, true, true, true, true, true, true, decide (z ≥ c.long) == false, true, true, true, true, decide (z < Int.ofNat 0) == false, true, true, decide (y ≥ ↑(c.ns)) == false, true, true, true, decide (y < Int.ofNat 0) == false, true, true, decide (x > Int.ofNat 1099511627776) == false, true, true, decide (x < Int.ofNat 0) == false, true, true], [])))))))))))))))) :
    ∃ p r, cfE (E1 Tryd.prog) 58 c [tmA x y z] p [] = some r ∧ Q r := by
  rcases Bool.eq_false_or_eq_true (decide (x < Int.ofNat 0)) with h2 | h2
  · have g2 := H.1 h2
    exact ⟨([.b true, .a, .a, .a, .a, .a, .a, .a, .a, .a, .a, .a, .a, .a, .a, .a, .a, .a, .a, .a, .a] : List Dec), _, by kernel_rfl, g2⟩
  · have g2 := H.2 h2
    rcases Bool.eq_false_or_eq_true (decide (x > Int.ofNat 1099511627776)) with h4 | h4
    · have g4 := g2.1 h4
      exact ⟨([.b false, .a, .a, .b true, .a, .a, .a, .a, .a, .a, .a, .a, .a, .a, .a, .a, .a, .a, .a, .a, .a] : List Dec), _, by kernel_rfl, g4⟩
    · have g4 := g2.2 h4
      rcases Bool.eq_false_or_eq_true (decide (y < Int.ofNat 0)) with h6 | h6
      · have g6 := g4.1 h6
        exact ⟨([.b false, .a, .a, .b false, .a, .a, .b true, .a, .a, .a, .a, .a, .a, .a, .a, .a, .a, .a, .a, .a, .a] : List Dec), _, by kernel_rfl, g6⟩
      · have g6 := g4.2 h6
        rcases Bool.eq_false_or_eq_true (decide (y ≥ ↑(c.ns))) with h8 | h8
        · have g8 := g6.1 h8
          exact ⟨([.b false, .a, .a, .b false, .a, .a, .b false, .a, .a, .a, .a, .a, .b true, .a, .a, .a, .a, .a, .a, .a, .a] : List Dec), _, by kernel_rfl, g8⟩
        · have g8 := g6.2 h8
          rcases Bool.eq_false_or_eq_true (decide (z < Int.ofNat 0)) with h10 | h10
          · have g10 := g8.1 h10
            exact ⟨([.b false, .a, .a, .b false, .a, .a, .b false, .a, .a, .a, .a, .a, .b false, .a, .a, .b true, .a, .a, .a, .a, .a] : List Dec), _, by kernel_rfl, g10⟩
          · have g10 := g8.2 h10
            rcases Bool.eq_false_or_eq_true (decide (z ≥ c.long)) with h12 | h12
            · have g12 := g10.1 h12
              exact ⟨([.b false, .a, .a, .b false, .a, .a, .b false, .a, .a, .a, .a, .a, .b false, .a, .a, .b false, .a, .a, .a, .a, .b true] : List Dec), _, by kernel_rfl, g12⟩
            · have g12 := g10.2 h12
              rcases Bool.eq_false_or_eq_true (decide (IntKind.wrap .i64 (IntKind.wrap .i64 (x * IntKind.wrap .i64 (↑(c.ns) * c.long)) + IntKind.wrap .i64 (IntKind.wrap .i64 (y * c.long) + z)) > Int.ofNat 1099511627776)) with h14 | h14
              · have g14 := g12.1 h14
                exact ⟨([.b false, .a, .a, .b false, .a, .a, .b false, .a, .a, .a, .a, .a, .b false, .a, .a, .b false, .a, .a, .a, .a, .b false, .b true] : List Dec), _, by kernel_rfl, g14⟩
              · have g14 := g12.2 h14
                exact ⟨([.b false, .a, .a, .b false, .a, .a, .b false, .a, .a, .a, .a, .a, .b false, .a, .a, .b false, .a, .a, .a, .a, .b false, .b false] : List Dec), _, by kernel_rfl, g14⟩
theorem rfAhead (c : Cfg) (x y z : Int) (Q : VF → Prop) (H : (((decide (x < Int.ofNat 0)) = true → Q (.c (.v (.int .i64 (Int.negSucc 0))), [], 1032, [decide (x < Int.ofNat 0) == true, true, true, true, true, true, true, true, true, true, true, true, true], [])) ∧ ((decide (x < Int.ofNat 0)) = false → (((decide (x > Int.ofNat 1099511627776)) = true → Q (.c (.v (.int .i64 (Int.negSucc 0))), [], 1035, [decide (x > Int.ofNat 1099511627776) == true, true, true, decide (x < Int.ofNat 0) == false, true, true, true, true, true, true, true, true, true, true, true, true], [])) ∧ ((decide (x > Int.ofNat 1099511627776)) = false → (((decide (y < Int.ofNat 0)) = true → Q (.c (.v (.int .i64 (Int.negSucc 0))), [], 1038, [decide (y < Int.ofNat 0) == true, true, true, decide (x > Int.ofNat 1099511627776) == false, true, true, decide (x < Int.ofNat 0) == false, true, true, true, true, true, true, true, true, true, true, true, true], [])) ∧ ((decide (y < Int.ofNat 0)) = false → (((decide (y ≥ ↑(c.ns))) = true → Q (.c (.v (.int .i64 (Int.negSucc 0))), [], 1044, [decide (y ≥ ↑(c.ns)) == true, true, true, true, decide (y < Int.ofNat 0) == false, true, true, decide (x > Int.ofNat 1099511627776) == false, true, true, decide (x < Int.ofNat 0) == false, true, true, true, true, true, true, true, true, true, true, true, true], [])) ∧ ((decide (y ≥ ↑(c.ns))) = false → (((decide (z < Int.ofNat 0)) = true → Q (.c (.v (.int .i64 (Int.negSucc 0))), [], 1047, [decide (z < Int.ofNat 0) == true, true, true, decide (y ≥ ↑(c.ns)) == false, true, true, true, decide (y < Int.ofNat 0) == false, true, true, decide (x > Int.ofNat 1099511627776) == false, true, true, decide (x < Int.ofNat 0) == false, true, true, true, true, true, true, true, true, true, true, true, true], [])) ∧ ((decide (z < Int.ofNat 0)) = false → (((decide (z ≥ c.long)) = true → Q (.c (.v (.int .i64 (Int.negSucc 0))), [], 1052, [decide (z ≥ c.long) == true, true, true, true, true, decide (z < Int.ofNat 0) == false, true, true, decide (y ≥ ↑(c.ns)) == false, true, true, true, decide (y < Int.ofNat 0) == false, true, true, decide (x > Int.ofNat 1099511627776) == false, true, true, decide (x < Int.ofNat 0) == false, true, true, true, true, true, true, true, true, true, true, true, true], [])) ∧ ((decide (z ≥ c.long)) = false → (((decide (IntKind.wrap .i64 (IntKind.wrap .i64 (x * IntKind.wrap .i64 (↑(c.ns) * c.long)) + IntKind.wrap .i64 (IntKind.wrap .i64 (y * c.long) + z)) > Int.ofNat 1099511627776)) = true → Q (.c (.v (.int .i64 (Int.negSucc 0))), [], 150000000000000000000000000000000000001054, [decide (IntKind.wrap .i64 (IntKind.wrap .i64 (x * IntKind.wrap .i64 (↑(c.ns) * c.long)) + IntKind.wrap .i64 (IntKind.wrap .i64 (y * c.long) + z)) > Int.ofNat 1099511627776) == true, true, true, true, true, true, true, true, true, true, true, true, true, true, true, true, true, true, decide (z ≥ c.long) == false, true, true, true, true, decide (z < Int.ofNat 0) == false, true, true, decide (y ≥ ↑(c.ns)) == false, true, true, true, decide (y < Int.ofNat 0) == false, true, true, decide (x > Int.ofNat 1099511627776) == false, true, true, decide (x < Int.ofNat 0) == false, true, true, true, true, true, true, true, true, true, true, true, true], [])) ∧ ((decide (IntKind.wrap .i64 (IntKind.wrap .i64 (x * IntKind.wrap .i64 (↑(c.ns) * c.long)) + IntKind.wrap .i64 (IntKind.wrap .i64 (y * c.long) + z)) > Int.ofNat 1099511627776)) = false → Q (.c (.v (.int .i64 (IntKind.wrap .i64 (IntKind.wrap .i64 (x * ↑(c.ns)) + y)))), [], 150000000000000000000000000000000000001064, [true, true, true, true, true, decide (IntKind.wrap .i64 (IntKind.wrap .i64 (x * IntKind.wrap .i64 (↑(c.ns) * c.long)) + IntKind.wrap .i64 (IntKind.wrap .i64 (y * c.long) + z)) > Int.ofNat 1099511627776) == false, true, true, true, true, true, true, true, true, true, true, true, true, true, true, true, true, true, decide (z ≥ c.long) == false, true, true, true, true, decide (z < Int.ofNat 0) == false, true, true, decide (y ≥ ↑(c.ns)) == false, true, true, true, decide (y < Int.ofNat 0) == false, true, true, decide (x > Int.ofNat 1099511627776) == false, true, true, decide (x < Int.ofNat 0) == false, true, true, true, true, true, true, true, true, true, true, true, true], [])))))))))))))))) :
    ∃ p r, cfE (E1 Tryd.prog) 61 c [tmA x y z] p [] = some r ∧ Q r := by
  rcases Bool.eq_false_or_eq_true (decide (x < Int.ofNat 0)) with h2 | h2
  · have g2 := H.1 h2
    exact ⟨([.b true, .a, .a, .a, .a, .a, .a, .a, .a, .a, .a, .a, .a, .a, .a, .a, .a, .a, .a, .a, .a, .a] : List Dec), _, by kernel_rfl, g2⟩
  · have g2 := H.2 h2
    rcases Bool.eq_false_or_eq_true (decide (x > Int.ofNat 1099511627776)) with h4 | h4
    · have g4 := g2.1 h4
      exact ⟨([.b false, .a, .a, .b true, .a, .a, .a, .a, .a, .a, .a, .a, .a, .a, .a, .a, .a, .a, .a, .a, .a, .a] : List Dec), _, by kernel_rfl, g4⟩
    · have g4 := g2.2 h4
      rcases Bool.eq_false_or_eq_true (decide (y < Int.ofNat 0)) with h6 | h6
      · have g6 := g4.1 h6
        exact ⟨([.b false, .a, .a, .b false, .a, .a, .b true, .a, .a, .a, .a, .a, .a, .a, .a, .a, .a, .a, .a, .a, .a, .a] : List Dec), _, by kernel_rfl, g6⟩
      · have g6 := g4.2 h6
        rcases Bool.eq_false_or_eq_true (decide (y ≥ ↑(c.ns))) with h8 | h8
        · have g8 := g6.1 h8
          exact ⟨([.b false, .a, .a, .b false, .a, .a, .b false, .a, .a, .a, .a, .a, .b true, .a, .a, .a, .a, .a, .a, .a, .a, .a] : List Dec), _, by kernel_rfl, g8⟩
        · have g8 := g6.2 h8
          rcases Bool.eq_false_or_eq_true (decide (z < Int.ofNat 0)) with h10 | h10
          · have g10 := g8.1 h10
            exact ⟨([.b false, .a, .a, .b false, .a, .a, .b false, .a, .a, .a, .a, .a, .b false, .a, .a, .b true, .a, .a, .a, .a, .a, .a] : List Dec), _, by kernel_rfl, g10⟩
          · have g10 := g8.2 h10
            rcases Bool.eq_false_or_eq_true (decide (z ≥ c.long)) with h12 | h12
            · have g12 := g10.1 h12
              exact ⟨([.b false, .a, .a, .b false, .a, .a, .b false, .a, .a, .a, .a, .a, .b false, .a, .a, .b false, .a, .a, .a, .a, .b true, .a] : List Dec), _, by kernel_rfl, g12⟩
            · have g12 := g10.2 h12
              rcases Bool.eq_false_or_eq_true (decide (IntKind.wrap .i64 (IntKind.wrap .i64 (x * IntKind.wrap .i64 (↑(c.ns) * c.long)) + IntKind.wrap .i64 (IntKind.wrap .i64 (y * c.long) + z)) > Int.ofNat 1099511627776)) with h14 | h14
              · have g14 := g12.1 h14
                exact ⟨([.b false, .a, .a, .b false, .a, .a, .b false, .a, .a, .a, .a, .a, .b false, .a, .a, .b false, .a, .a, .a, .a, .b false, .b true, .a] : List Dec), _, by kernel_rfl, g14⟩
              · have g14 := g12.2 h14
                exact ⟨([.b false, .a, .a, .b false, .a, .a, .b false, .a, .a, .a, .a, .a, .b false, .a, .a, .b false, .a, .a, .a, .a, .b false, .b false, .a] : List Dec), _, by kernel_rfl, g14⟩
abbrev tmB (x y z : Int) : ABlk := ⟨true, false, 112, 0, .lit [.v (.int .i64 x), .v (.int .i64 y), .v (.int .i64 z)]⟩
abbrev roV (l : Int) : List AV := [.c (.ptr 1000 0 0), .c (.ptr 1001 0 0), .c (.ptr 1022 0 0), i64 l]
abbrev roB (c : Cfg) (t : Int) (k : Nat) : List ABlk := [cfgB c, tmB 0 0 0, tmB t (Int.ofNat k) 0]
def roR (P : Program) (c : Cfg) (t l : Int) (k : Nat) (path : List Dec) : Option VC :=
  view ([2, 4, 6, 7] ++ []) [1000, 1001, 1022] (fC (E1 P) 100 (loopAt P 56 0) 1000000000000000000000000000000000000000000 10000000000000000000000000000000000000000 (stH 42 [2, 4, 6, 7] [1000, 1001, 1022] (roV l) (roB c t k) path []))
theorem ro (c : Cfg) (t l : Int) (k : Nat) (Q : VC → Prop) (H : (((decide (l ≥ c.long)) = true → Q (Exit.normal, [some (lkA (List.zip [2, 4, 6, 7] (roV l)) (0 + 1 + 1)), some (lkA (List.zip [2, 4, 6, 7] (roV l)) (0 + 1 + 1 + 1 + 1)), some (lkA (List.zip [2, 4, 6, 7] (roV l)) (0 + 1 + 1 + 1 + 1 + 1 + 1)), some (.c (.v (.int .i64 (IntKind.wrap .i64 (l - c.long)))))], [some (ABlk.mk true false 25 0 (Cs.lit [.v (.int .i64 (c.nodes)), AC.sl 0 0 0 (c.np) none, AC.sl 1 0 0 (c.ns) none, .v (.int .i64 (c.long)), AC.sl 2 0 0 (c.nb) none, AC.sl 3 0 0 (c.nt) none, .v (.int .i64 (c.miss)), .v (.int .i64 (c.good)), .v (.int .i64 (c.fresh))])), some (ABlk.mk true false 112 0 (Cs.lit [.v (.int .i64 (Int.ofNat 0)), .v (.int .i64 (Int.ofNat 0)), .v (.int .i64 (Int.ofNat 0))])), some (ABlk.mk true false 112 0 (Cs.lit [.v (.int .i64 t), .v (.int .i64 (IntKind.wrap .i64 (Int.ofNat k + Int.ofNat 1))), .v (.int .i64 (Int.ofNat 0))]))], 42, 1000000000000000000000000000000000000000014, [true, true, true, true, true, decide (l ≥ c.long) == true, true, true], [])) ∧ ((decide (l ≥ c.long)) = false → Q (Exit.exit 0, [some (lkA (List.zip [2, 4, 6, 7] (roV l)) (0 + 1 + 1)), some (lkA (List.zip [2, 4, 6, 7] (roV l)) (0 + 1 + 1 + 1 + 1)), some (lkA (List.zip [2, 4, 6, 7] (roV l)) (0 + 1 + 1 + 1 + 1 + 1 + 1)), some (lkA (List.zip [2, 4, 6, 7] (roV l)) (0 + 1 + 1 + 1 + 1 + 1 + 1 + 1))], [some (ABlk.mk true false 25 0 (Cs.lit [.v (.int .i64 (c.nodes)), AC.sl 0 0 0 (c.np) none, AC.sl 1 0 0 (c.ns) none, .v (.int .i64 (c.long)), AC.sl 2 0 0 (c.nb) none, AC.sl 3 0 0 (c.nt) none, .v (.int .i64 (c.miss)), .v (.int .i64 (c.good)), .v (.int .i64 (c.fresh))])), some (ABlk.mk true false 112 0 (Cs.lit [.v (.int .i64 (Int.ofNat 0)), .v (.int .i64 (Int.ofNat 0)), .v (.int .i64 (Int.ofNat 0))])), some (ABlk.mk true false 112 0 (Cs.lit [.v (.int .i64 t), .v (.int .i64 (Int.ofNat k)), .v (.int .i64 (Int.ofNat 0))]))], 42, 1000000000000000000000000000000000000000004, [decide (l ≥ c.long) == false, true, true], [])))) :
    ∃ p r, roR Tryd.prog c t l k p = some r ∧ Q r := by
  rcases Bool.eq_false_or_eq_true (decide (l ≥ c.long)) with h2 | h2
  · have g2 := H.1 h2
    exact ⟨([.b true] : List Dec), _, by kernel_rfl, g2⟩
  · have g2 := H.2 h2
    exact ⟨([.b false] : List Dec), _, by kernel_rfl, g2⟩
abbrev roS (t l : Int) (k : Nat) : LSum := ⟨[2, 4, 6, 7], [1000, 1001, 1022], mkFr 42 [(4, .c (.ptr 1001 0 0)), (6, .c (.ptr 1022 0 0)), (7, i64 l)], [(1001, tmB 0 0 0), (1022, tmB t (Int.ofNat k) 0)], 100000000000000000000000000000000000000000000000000, .exit 0⟩
theorem rfOf (c : Cfg) (a t l : Int) (k : Nat) (Q : VF → Prop) (H : (((decide (a < Int.ofNat 0)) = true → Q (.tup [.agg [.v (.int .i64 (Int.ofNat 0)), .v (.int .i64 (Int.ofNat 0)), .v (.int .i64 (Int.ofNat 0))], .c (.v (.int .i64 (Int.ofNat 1)))], [], 1010, [true, true, true, true, true, decide (a < Int.ofNat 0) == true], [])) ∧ ((decide (a < Int.ofNat 0)) = false → (((decide (a > Int.ofNat 1099511627776)) = true → Q (.tup [.agg [.v (.int .i64 (Int.ofNat 0)), .v (.int .i64 (Int.ofNat 0)), .v (.int .i64 (Int.ofNat 0))], .c (.v (.int .i64 (Int.ofNat 1)))], [], 1012, [true, true, true, true, true, decide (a > Int.ofNat 1099511627776) == true, decide (a < Int.ofNat 0) == false], [])) ∧ ((decide (a > Int.ofNat 1099511627776)) = false → Q (.tup [.agg [.v (.int .i64 t), .v (.int .i64 (Int.ofNat k)), .v (.int .i64 l)], .c (.v (.int .i64 (Int.ofNat 0)))], [], 100000000000000000000000000000000000000000000000006, [true, true, true, true, true, true, true, true, true, true, true, true, true, true, true, true, true, true, true, true, true, true, decide (IntKind.wrap .i64 (↑(c.ns) * c.long) ≠ Int.ofNat 0), true, true, true, true, true, true, true, true, true, decide (a > Int.ofNat 1099511627776) == false, decide (a < Int.ofNat 0) == false], [LoopV Tryd.prog (loopAt Tryd.prog 56 0) [2, 4, 6, 7] [1000, 1001, 1022] [some (.c (.ptr 1000 0 0)), some (.c (.ptr 1001 0 0)), some (.c (.ptr 1022 0 0)), some (.c (.v (.int .i64 (IntKind.wrap .i64 (a - IntKind.wrap .i64 (IntKind.wrap .i64 (Int.tdiv a (IntKind.wrap .i64 (↑(c.ns) * c.long))) * IntKind.wrap .i64 (↑(c.ns) * c.long)))))))] [some (ABlk.mk true false 25 0 (Cs.lit [.v (.int .i64 (c.nodes)), AC.sl 0 0 0 (c.np) none, AC.sl 1 0 0 (c.ns) none, .v (.int .i64 (c.long)), AC.sl 2 0 0 (c.nb) none, AC.sl 3 0 0 (c.nt) none, .v (.int .i64 (c.miss)), .v (.int .i64 (c.good)), .v (.int .i64 (c.fresh))])), some (ABlk.mk true false 112 0 (Cs.lit [.v (.int .i64 (Int.ofNat 0)), .v (.int .i64 (Int.ofNat 0)), .v (.int .i64 (Int.ofNat 0))])), some (ABlk.mk true false 112 0 (Cs.lit [.v (.int .i64 (IntKind.wrap .i64 (Int.tdiv a (IntKind.wrap .i64 (↑(c.ns) * c.long))))), .v (.int .i64 (Int.ofNat 0)), .v (.int .i64 (Int.ofNat 0))]))] 42 80000000000000000000000000000000000001024 (mkFr 42 [(4, .c (.ptr 1001 0 0)), (6, .c (.ptr 1022 0 0)), (7, i64 l)]) [(1001, tmB 0 0 0), (1022, tmB t (Int.ofNat k) 0)] 100000000000000000000000000000000000000000000000000 (Exit.exit 0) none])))))) :
    ∃ p r, cfE (E1 Tryd.prog) 56 c [i64 a] p [some (roS t l k)] = some r ∧ Q r := by
  rcases Bool.eq_false_or_eq_true (decide (a < Int.ofNat 0)) with h2 | h2
  · have g2 := H.1 h2
    exact ⟨([.b true, .a, .a] : List Dec), _, by kernel_rfl, g2⟩
  · have g2 := H.2 h2
    rcases Bool.eq_false_or_eq_true (decide (a > Int.ofNat 1099511627776)) with h4 | h4
    · have g4 := g2.1 h4
      exact ⟨([.b false, .a, .b true] : List Dec), _, by kernel_rfl, g4⟩
    · have g4 := g2.2 h4
      exact ⟨([.b false, .a, .b false] : List Dec), _, by kernel_rfl, g4⟩
end Go.Proofs.YtgfmjbfjodidpaaDoor
end
