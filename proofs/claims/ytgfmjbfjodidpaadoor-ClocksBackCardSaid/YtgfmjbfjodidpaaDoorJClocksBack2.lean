/- Parts, one behind the other. clocks.Of, Age, Ahead as the evaluator runs them. -/
import Derived.Test.YtgfmjbfjodidpaaDoorJB16
import Derived.Test.YtgfmjbfjodidpaaDoorJClocksBack0
import Derived.Test.YtgfmjbfjodidpaaDoorJB15
import Derived.Test.YtgfmjbfjodidpaaDoorJClocksBack1
set_option linter.unusedSimpArgs false
set_option linter.unusedVariables false
/- clocks.Of, Age, Ahead as the evaluator runs them. -/
section
namespace Go.Proofs.YtgfmjbfjodidpaaDoor
open Go.RowKit

def ckOfE (P : Program) (c : Cfg) (nq : Nat) (fq : Nat → Int) (a : Int) (path : List Dec) : Option VF := ntE (ENns P) 55 c nq fq [i64 a] path []
abbrev tmA (x y z : Int) : AV := .agg [.v (.int .i64 x), .v (.int .i64 y), .v (.int .i64 z)]
def ckAgeE (P : Program) (c : Cfg) (nq : Nat) (fq : Nat → Int) (x y z : Int) (path : List Dec) : Option VF := ntE (ENns P) 57 c nq fq [tmA x y z] path []
theorem ckOf (c : Cfg) (nq : Nat) (fq : Nat → Int) (a : Int) (Q : VF → Prop) (H : (((decide (a < Int.ofNat 0)) = true → Q (AV.tup [AV.agg [AC.v (Value.int IntKind.i64 (Int.ofNat 0)), AC.v (Value.int IntKind.i64 (Int.ofNat 0)), AC.v (Value.int IntKind.i64 (Int.ofNat 0))], AV.c (AC.v (Value.int IntKind.i64 (Int.ofNat 1)))], [], 1015, [true, true, true, true, true, decide (a < Int.ofNat 0) == true, (roundN c nq == Int.ofNat 0) == false, netK c nq fq, true], [])) ∧ ((decide (a < Int.ofNat 0)) = false → (((decide (a > Int.ofNat 1099511627776)) = true → Q (AV.tup [AV.agg [AC.v (Value.int IntKind.i64 (Int.ofNat 0)), AC.v (Value.int IntKind.i64 (Int.ofNat 0)), AC.v (Value.int IntKind.i64 (Int.ofNat 0))], AV.c (AC.v (Value.int IntKind.i64 (Int.ofNat 1)))], [], 1017, [true, true, true, true, true, decide (a > Int.ofNat 1099511627776) == true, decide (a < Int.ofNat 0) == false, (roundN c nq == Int.ofNat 0) == false, netK c nq fq, true], [])) ∧ ((decide (a > Int.ofNat 1099511627776)) = false → Q (AV.tup [AV.agg [AC.v (Value.int IntKind.i64 (IntKind.wrap IntKind.i64 (Int.tdiv a (roundN c nq)))), AC.v (Value.int IntKind.i64 (IntKind.wrap IntKind.i64 (Int.tdiv (Int.tmod a (roundN c nq)) (Cfg.long c)))), AC.v (Value.int IntKind.i64 (Int.tmod (Int.tmod a (roundN c nq)) (Cfg.long c)))], AV.c (AC.v (Value.int IntKind.i64 (Int.ofNat 0)))], [], 120000000000000000000000000000000000001020, [true, true, true, true, true, decide (Cfg.long c ≠ Int.ofNat 0), true, true, decide (Cfg.long c ≠ Int.ofNat 0), true, true, decide (roundN c nq ≠ Int.ofNat 0), decide (roundN c nq ≠ Int.ofNat 0), decide (a > Int.ofNat 1099511627776) == false, decide (a < Int.ofNat 0) == false, (roundN c nq == Int.ofNat 0) == false, netK c nq fq, true], [])))))) :
    ∃ p r, ckOfE Tryd.prog c nq fq a p = some r ∧ Q r := by
  rcases Bool.eq_false_or_eq_true (decide (a < Int.ofNat 0)) with h2 | h2
  · have g2 := H.1 h2
    exact ⟨([.b false, .b true, .a, .a] : List Dec), _, by kernel_rfl, g2⟩
  · have g2 := H.2 h2
    rcases Bool.eq_false_or_eq_true (decide (a > Int.ofNat 1099511627776)) with h4 | h4
    · have g4 := g2.1 h4
      exact ⟨([.b false, .b false, .a, .b true] : List Dec), _, by kernel_rfl, g4⟩
    · have g4 := g2.2 h4
      exact ⟨([.b false, .b false, .a, .b false] : List Dec), _, by kernel_rfl, g4⟩
theorem ckAge (c : Cfg) (nq : Nat) (fq : Nat → Int) (x y z : Int) (Q : VF → Prop) (H : (((decide (x < Int.ofNat 0)) = true → Q (AV.tup [AV.c (AC.v (Value.int IntKind.i64 (Int.ofNat 0))), AV.c (AC.v (Value.int IntKind.i64 (Int.ofNat 1)))], [], 320000000000000000000000000000000000001009, [decide (x < Int.ofNat 0) == true, true, true, (roundN c nq == Int.ofNat 0) == false, netK c nq fq, true], [])) ∧ ((decide (x < Int.ofNat 0)) = false → (((decide (x > IntKind.wrap IntKind.i64 (Int.tdiv (Int.ofNat 1099511627776) (roundN c nq)))) = true → Q (AV.tup [AV.c (AC.v (Value.int IntKind.i64 (Int.ofNat 0))), AV.c (AC.v (Value.int IntKind.i64 (Int.ofNat 1)))], [], 320000000000000000000000000000000000001009, [decide (x > IntKind.wrap IntKind.i64 (Int.tdiv (Int.ofNat 1099511627776) (roundN c nq))) == true, decide (roundN c nq ≠ Int.ofNat 0), true, true, decide (x < Int.ofNat 0) == false, true, true, (roundN c nq == Int.ofNat 0) == false, netK c nq fq, true], [])) ∧ ((decide (x > IntKind.wrap IntKind.i64 (Int.tdiv (Int.ofNat 1099511627776) (roundN c nq)))) = false → (((decide (ownerN c nq fq (List.headD [y] (Int.ofNat 0)) < Int.ofNat 0)) = true → Q (AV.tup [AV.c (AC.v (Value.int IntKind.i64 (Int.ofNat 0))), AV.c (AC.v (Value.int IntKind.i64 (Int.ofNat 1)))], [], 320000000000000000000000000000000000001009, [decide (ownerN c nq fq (List.headD [y] (Int.ofNat 0)) < Int.ofNat 0) == true, netK c nq fq, true, true, true, decide (x > IntKind.wrap IntKind.i64 (Int.tdiv (Int.ofNat 1099511627776) (roundN c nq))) == false, decide (roundN c nq ≠ Int.ofNat 0), true, true, decide (x < Int.ofNat 0) == false, true, true, (roundN c nq == Int.ofNat 0) == false, netK c nq fq, true], [])) ∧ ((decide (ownerN c nq fq (List.headD [y] (Int.ofNat 0)) < Int.ofNat 0)) = false → (((decide (z < Int.ofNat 0)) = true → Q (AV.tup [AV.c (AC.v (Value.int IntKind.i64 (Int.ofNat 0))), AV.c (AC.v (Value.int IntKind.i64 (Int.ofNat 1)))], [], 320000000000000000000000000000000000001009, [decide (z < Int.ofNat 0) == true, true, true, decide (ownerN c nq fq (List.headD [y] (Int.ofNat 0)) < Int.ofNat 0) == false, netK c nq fq, true, true, true, decide (x > IntKind.wrap IntKind.i64 (Int.tdiv (Int.ofNat 1099511627776) (roundN c nq))) == false, decide (roundN c nq ≠ Int.ofNat 0), true, true, decide (x < Int.ofNat 0) == false, true, true, (roundN c nq == Int.ofNat 0) == false, netK c nq fq, true], [])) ∧ ((decide (z < Int.ofNat 0)) = false → (((decide (z ≥ Cfg.long c)) = true → Q (AV.tup [AV.c (AC.v (Value.int IntKind.i64 (Int.ofNat 0))), AV.c (AC.v (Value.int IntKind.i64 (Int.ofNat 1)))], [], 320000000000000000000000000000000000001009, [decide (z ≥ Cfg.long c) == true, true, true, true, true, decide (z < Int.ofNat 0) == false, true, true, decide (ownerN c nq fq (List.headD [y] (Int.ofNat 0)) < Int.ofNat 0) == false, netK c nq fq, true, true, true, decide (x > IntKind.wrap IntKind.i64 (Int.tdiv (Int.ofNat 1099511627776) (roundN c nq))) == false, decide (roundN c nq ≠ Int.ofNat 0), true, true, decide (x < Int.ofNat 0) == false, true, true, (roundN c nq == Int.ofNat 0) == false, netK c nq fq, true], [])) ∧ ((decide (z ≥ Cfg.long c)) = false → (((decide (IntKind.wrap IntKind.i64 (IntKind.wrap IntKind.i64 (IntKind.wrap IntKind.i64 (x * roundN c nq) + IntKind.wrap IntKind.i64 (y * Cfg.long c)) + z) > Int.ofNat 1099511627776)) = true → Q (AV.tup [AV.c (AC.v (Value.int IntKind.i64 (Int.ofNat 0))), AV.c (AC.v (Value.int IntKind.i64 (Int.ofNat 1)))], [], 460000000000000000000000000000000000001011, [decide (IntKind.wrap IntKind.i64 (IntKind.wrap IntKind.i64 (IntKind.wrap IntKind.i64 (x * roundN c nq) + IntKind.wrap IntKind.i64 (y * Cfg.long c)) + z) > Int.ofNat 1099511627776) == true, true, true, true, true, true, true, true, true, decide (z ≥ Cfg.long c) == false, true, true, true, true, decide (z < Int.ofNat 0) == false, true, true, decide (ownerN c nq fq (List.headD [y] (Int.ofNat 0)) < Int.ofNat 0) == false, netK c nq fq, true, true, true, decide (x > IntKind.wrap IntKind.i64 (Int.tdiv (Int.ofNat 1099511627776) (roundN c nq))) == false, decide (roundN c nq ≠ Int.ofNat 0), true, true, decide (x < Int.ofNat 0) == false, true, true, (roundN c nq == Int.ofNat 0) == false, netK c nq fq, true], [])) ∧ ((decide (IntKind.wrap IntKind.i64 (IntKind.wrap IntKind.i64 (IntKind.wrap IntKind.i64 (x * roundN c nq) + IntKind.wrap IntKind.i64 (y * Cfg.long c)) + z) > Int.ofNat 1099511627776)) = false → Q (AV.tup [AV.c (AC.v (Value.int IntKind.i64 (IntKind.wrap IntKind.i64 (IntKind.wrap IntKind.i64 (IntKind.wrap IntKind.i64 (x * roundN c nq) + IntKind.wrap IntKind.i64 (y * Cfg.long c)) + z)))), AV.c (AC.v (Value.int IntKind.i64 (Int.ofNat 0)))], [], 460000000000000000000000000000000000001012, [decide (IntKind.wrap IntKind.i64 (IntKind.wrap IntKind.i64 (IntKind.wrap IntKind.i64 (x * roundN c nq) + IntKind.wrap IntKind.i64 (y * Cfg.long c)) + z) > Int.ofNat 1099511627776) == false, true, true, true, true, true, true, true, true, decide (z ≥ Cfg.long c) == false, true, true, true, true, decide (z < Int.ofNat 0) == false, true, true, decide (ownerN c nq fq (List.headD [y] (Int.ofNat 0)) < Int.ofNat 0) == false, netK c nq fq, true, true, true, decide (x > IntKind.wrap IntKind.i64 (Int.tdiv (Int.ofNat 1099511627776) (roundN c nq))) == false, decide (roundN c nq ≠ Int.ofNat 0), true, true, decide (x < Int.ofNat 0) == false, true, true, (roundN c nq == Int.ofNat 0) == false, netK c nq fq, true], [])))))))))))))) :
    ∃ p r, ckAgeE Tryd.prog c nq fq x y z p = some r ∧ Q r := by
  rcases Bool.eq_false_or_eq_true (decide (x < Int.ofNat 0)) with h2 | h2
  · have g2 := H.1 h2
    exact ⟨([.b false, .b true, .a, .a, .a, .a, .a, .a, .a, .a, .a, .a, .a, .a, .a, .a, .a, .a, .a, .a, .a, .a, .a] : List Dec), _, by kernel_rfl, g2⟩
  · have g2 := H.2 h2
    rcases Bool.eq_false_or_eq_true (decide (x > IntKind.wrap IntKind.i64 (Int.tdiv (Int.ofNat 1099511627776) (roundN c nq)))) with h4 | h4
    · have g4 := g2.1 h4
      exact ⟨([.b false, .b false, .a, .a, .a, .a, .b true, .a, .a, .a, .a, .a, .a, .a, .a, .a, .a, .a, .a, .a, .a, .a, .a] : List Dec), _, by kernel_rfl, g4⟩
    · have g4 := g2.2 h4
      rcases Bool.eq_false_or_eq_true (decide (ownerN c nq fq (List.headD [y] (Int.ofNat 0)) < Int.ofNat 0)) with h6 | h6
      · have g6 := g4.1 h6
        exact ⟨([.b false, .b false, .a, .a, .a, .a, .b false, .a, .a, .a, .a, .b true, .a, .a, .a, .a, .a, .a, .a, .a, .a, .a, .a] : List Dec), _, by kernel_rfl, g6⟩
      · have g6 := g4.2 h6
        rcases Bool.eq_false_or_eq_true (decide (z < Int.ofNat 0)) with h8 | h8
        · have g8 := g6.1 h8
          exact ⟨([.b false, .b false, .a, .a, .a, .a, .b false, .a, .a, .a, .a, .b false, .a, .a, .b true, .a, .a, .a, .a, .a, .a, .a, .a] : List Dec), _, by kernel_rfl, g8⟩
        · have g8 := g6.2 h8
          rcases Bool.eq_false_or_eq_true (decide (z ≥ Cfg.long c)) with h10 | h10
          · have g10 := g8.1 h10
            exact ⟨([.b false, .b false, .a, .a, .a, .a, .b false, .a, .a, .a, .a, .b false, .a, .a, .b false, .a, .a, .a, .a, .a, .a, .a, .b true] : List Dec), _, by kernel_rfl, g10⟩
          · have g10 := g8.2 h10
            rcases Bool.eq_false_or_eq_true (decide (IntKind.wrap IntKind.i64 (IntKind.wrap IntKind.i64 (IntKind.wrap IntKind.i64 (x * roundN c nq) + IntKind.wrap IntKind.i64 (y * Cfg.long c)) + z) > Int.ofNat 1099511627776)) with h12 | h12
            · have g12 := g10.1 h12
              exact ⟨([.b false, .b false, .a, .a, .a, .a, .b false, .a, .a, .a, .a, .b false, .a, .a, .b false, .a, .a, .a, .a, .a, .a, .a, .b false, .b true] : List Dec), _, by kernel_rfl, g12⟩
            · have g12 := g10.2 h12
              exact ⟨([.b false, .b false, .a, .a, .a, .a, .b false, .a, .a, .a, .a, .b false, .a, .a, .b false, .a, .a, .a, .a, .a, .a, .a, .b false, .b false] : List Dec), _, by kernel_rfl, g12⟩
end Go.Proofs.YtgfmjbfjodidpaaDoor
end
/- Contracts of clocks.Of, clocks.Age. -/
section
namespace Go.Proofs.YtgfmjbfjodidpaaDoor
open Go.RowKit

abbrev ckM : Int := 1099511627776
def ckIn (a : Int) : Prop := 0 ≤ a ∧ a ≤ ckM
instance (a : Int) : Decidable (ckIn a) := by unfold ckIn; infer_instance
/-- the time of an age -/
def ckErr (a : Int) : Int := if ckIn a then 0 else 1
def ckT (c : Cfg) (a : Int) : Int := if ckIn a then a / (c.ns * c.long) else 0
def ckS (c : Cfg) (a : Int) : Int := if ckIn a then a % (c.ns * c.long) / c.long else 0
def ckP (c : Cfg) (a : Int) : Int := if ckIn a then a % (c.ns * c.long) % c.long else 0
/-- the age of a time -/
def agOk (c : Cfg) (x y z : Int) : Prop := 0 ≤ x ∧ x ≤ ckM ∧ 0 ≤ y ∧ y < c.ns ∧ 0 ≤ z ∧ z < c.long ∧ x * (c.ns * c.long) + y * c.long + z ≤ ckM
instance (c : Cfg) (x y z : Int) : Decidable (agOk c x y z) := by unfold agOk; infer_instance
def agE (c : Cfg) (x y z : Int) : Int := if agOk c x y z then 0 else 1
def agV (c : Cfg) (x y z : Int) : Int := if agOk c x y z then x * (c.ns * c.long) + y * c.long + z else 0
def agA (c : Cfg) (x y z : Int) : Int := if agOk c x y z then x * c.ns + y else -1
def slotsOk (c : Cfg) : Bool := (List.range c.ns).all fun i => decide (0 ≤ c.fs i)
def ofR : NetS → AV
  | ⟨c, _, _, [.c (.v (.int .i64 a))]⟩ => .tup [tmA (ckT c a) (ckS c a) (ckP c a), i64 (ckErr a)]
  | _ => i64 0
def ofP : NetS → Bool
  | ⟨c, nq, _, [.c (.v (.int .i64 _))]⟩ => ckPre c nq
  | _ => false
def ctCkOf : CtF := ctRd netRd ofR ofP
set_option maxRecDepth 100000 in
theorem ct_ckOf : CtOk Tryd.prog 55 ctCkOf := by
  refine ctRd_ofE (E := ENns Tryd.prog) hENns netRd (fuel := 300) (str := 10000000000000000000000000000000000000000) ⟨_, _, Tryd.func55, rfl⟩ (fun s => by unfold ofR; split <;> rfl) fun s hs => ?_
  unfold ofP at hs
  split at hs
  · rename_i c nq fq a
    refine (?_ : (∃ p q, ckOfE Tryd.prog c nq fq a p = some q ∧ GoodF (.tup [tmA (ckT c a) (ckS c a) (ckP c a), i64 (ckErr a)]) q) → _) (ckOf c nq fq a _ ?_)
    · rintro ⟨p, q, h1, h2⟩
      exact ⟨p, _, q, h1, h2⟩
    · obtain ⟨e, r1, r2, q1, q2, q3, q4, q5⟩ := ck_round hs
      obtain ⟨R, hR⟩ : ∃ R : Int, (c.ns : Int) * c.long = R := ⟨_, rfl⟩
      rw [hR] at e r1 r2
      simp only [e]
      (repeat' (first | refine ⟨fun h => ?_, fun h => ?_⟩ | fail))
      all_goals (refine ⟨?_, (by first | (unfold lim; omega) | (dsimp only; unfold lim; omega)), ?_, by simp⟩)
      all_goals (simp only [decide_eq_true_eq, decide_eq_false_iff_not, Int.ofNat_eq_natCast, Int.cast_ofNat_Int, gt_iff_lt] at *)
      all_goals first
        | (have hn : ¬ ckIn a := (by unfold ckIn ckM; omega)
           simp [ckT, ckS, ckP, ckErr, hn, i64]; done)
        | (have hy : ckIn a := (by unfold ckIn ckM; omega)
           have m1 := Int.emod_nonneg a (show R ≠ 0 by omega)
           have m2 := Int.emod_lt_of_pos a (show 0 < R by omega)
           have t1 : Int.tmod a R = a % R := Int.tmod_eq_emod_of_nonneg (by omega)
           have t2 : Int.tdiv a R = a / R := Int.tdiv_eq_ediv_of_nonneg (by omega)
           have d0 := Int.ediv_nonneg (a := a) (b := R) (by omega) (by omega)
           have d1 : a / R ≤ a := Int.ediv_le_self _ (by omega)
           have t3 : Int.tmod (a % R) c.long = a % R % c.long := Int.tmod_eq_emod_of_nonneg (by omega)
           have t4 : Int.tdiv (a % R) c.long = a % R / c.long := Int.tdiv_eq_ediv_of_nonneg (by omega)
           have e0 := Int.ediv_nonneg (a := a % R) (b := c.long) (by omega) (by omega)
           have e1 : a % R / c.long ≤ a % R := Int.ediv_le_self _ (by omega)
           have f0 := Int.emod_nonneg (a % R) (show c.long ≠ 0 by omega)
           have f1 := Int.emod_lt_of_pos (a % R) (show 0 < c.long by omega)
           have w0 : ∀ x : Int, 0 ≤ x → x ≤ 1099511627776 → IntKind.wrap IntKind.i64 x = x := (fun x h0 h1 => wrap_nat x (by omega) (by omega))
           simp only [t1, t2, t3, t4, w0 _ d0 (by omega), w0 _ e0 (by omega), w0 _ f0 (by omega), w0 c.long (by omega) (by omega)]
           simp [ckT, ckS, ckP, ckErr, hy, i64, hR]; done)
        | (simp only [allT, List.forall_mem_cons, List.not_mem_nil, false_implies, implies_true, and_true, true_and, cfgK_t, netK_t, intsOk_ints, stsOk_sts, intsOk_s, stsOk_s, beq_iff_eq, decide_eq_true_eq, decide_eq_false_iff_not, beq_eq_false_iff_ne, bne_iff_ne, bne_eq_false_iff_eq, Bool.not_eq_true', Bool.not_eq_false', ne_eq, Int.ofNat_eq_natCast, Int.cast_ofNat_Int, gt_iff_lt, ge_iff_le]; omega)
  · cases hs
def agR : NetS → AV
  | ⟨c, _, _, [.agg [.v (.int .i64 x), .v (.int .i64 y), .v (.int .i64 z)]]⟩ => .tup [i64 (agV c x y z), i64 (agE c x y z)]
  | _ => i64 0
def agP : NetS → Bool
  | ⟨c, nq, _, [.agg [.v (.int .i64 _), .v (.int .i64 _), .v (.int .i64 _)]]⟩ => ckPre c nq && slotsOk c
  | _ => false
def ctCkAge : CtF := ctRd netRd agR agP
theorem owner_ok {c : Cfg} {nq : Nat} {fq : Nat → Int} (hq : 0 < nq) (h : slotsOk c = true) (y : Int) : 0 ≤ ownerN c nq fq y ↔ 0 ≤ y ∧ y < c.ns := by
  unfold ownerN atF
  rw [if_neg (by omega)]
  split
  · rename_i hy
    have := List.all_eq_true.1 h y.toNat (by simp; omega)
    simp at this
    constructor
    · intro; exact hy
    · intro; omega
  · rename_i hy
    constructor
    · intro h; omega
    · intro h; exact absurd h hy
set_option maxRecDepth 100000 in
theorem ct_ckAge : CtOk Tryd.prog 57 ctCkAge := by
  refine ctRd_ofE (E := ENns Tryd.prog) hENns netRd (fuel := 300) (str := 10000000000000000000000000000000000000000) ⟨_, _, Tryd.func57, rfl⟩ (fun s => by unfold agR; split <;> rfl) fun s hs => ?_
  unfold agP at hs
  split at hs
  · rename_i c nq fq x y z
    rw [Bool.and_eq_true] at hs
    refine (?_ : (∃ p q, ckAgeE Tryd.prog c nq fq x y z p = some q ∧ GoodF (.tup [i64 (agV c x y z), i64 (agE c x y z)]) q) → _) (ckAge c nq fq x y z _ ?_)
    · rintro ⟨p, q, h1, h2⟩
      exact ⟨p, _, q, h1, h2⟩
    · obtain ⟨e, r1, r2, q1, q2, q3, q4, q5⟩ := ck_round hs.1
      have ho := owner_ok (fq := fq) q1 hs.2 y
      obtain ⟨R, hR⟩ : ∃ R : Int, (c.ns : Int) * c.long = R := ⟨_, rfl⟩
      rw [hR] at e r1 r2
      obtain ⟨o, hoe⟩ : ∃ o, ownerN c nq fq y = o := ⟨_, rfl⟩
      rw [hoe] at ho
      simp only [List.headD_cons, e, hoe]
      have t2 : Int.tdiv 1099511627776 R = 1099511627776 / R := Int.tdiv_eq_ediv_of_nonneg (by omega)
      have d0 := Int.ediv_nonneg (a := 1099511627776) (b := R) (by omega) (by omega)
      have d1 : (1099511627776 : Int) / R ≤ 1099511627776 := Int.ediv_le_self _ (by omega)
      have d2 := Int.mul_ediv_add_emod 1099511627776 R
      have d3 := Int.emod_nonneg (1099511627776 : Int) (show R ≠ 0 by omega)
      have d4 := Int.emod_lt_of_pos (1099511627776 : Int) (show 0 < R by omega)
      have w1 : IntKind.wrap IntKind.i64 (Int.tdiv (Int.ofNat 1099511627776) R) = 1099511627776 / R := by
        rw [show (Int.ofNat 1099511627776) = (1099511627776 : Int) from rfl, t2]
        exact wrap_nat _ (by omega) (by omega)
      have w1' : IntKind.wrap IntKind.i64 (Int.tdiv 1099511627776 R) = 1099511627776 / R := w1
      simp only [w1, w1']
      have hx1 : 0 ≤ x → x ≤ 1099511627776 / R → 0 ≤ x * R ∧ x * R ≤ 1099511627776 := fun h0 h1 => by
        have a1 : x * R ≤ 1099511627776 / R * R := Int.mul_le_mul_of_nonneg_right h1 (by omega)
        have a2 : R * (1099511627776 / R) = 1099511627776 / R * R := Int.mul_comm _ _
        exact ⟨Int.mul_nonneg h0 (by omega), by omega⟩
      have hx2 : 1099511627776 / R < x → 1099511627776 < x * R := fun h0 => by
        have a1 : (1099511627776 / R + 1) * R ≤ x * R := Int.mul_le_mul_of_nonneg_right (by omega) (by omega)
        have a2 : R * (1099511627776 / R) = 1099511627776 / R * R := Int.mul_comm _ _
        have a3 : (1099511627776 / R + 1) * R = 1099511627776 / R * R + R := by rw [Int.add_mul, Int.one_mul]
        omega
      have hy1 : 0 ≤ y → y < c.ns → 0 ≤ y * c.long ∧ y * c.long ≤ 65536 := fun h0 h1 => by
        have a1 : y * c.long ≤ 16 * 4096 := mul_le_mul_of h0 (by omega) (by omega) (by omega)
        exact ⟨Int.mul_nonneg h0 (by omega), by omega⟩
      have hlong : IntKind.wrap IntKind.i64 c.long = c.long := wrap_nat _ (by omega) (by omega)
      try simp only [hlong]
      have key : ∀ (p : Prop), (0 ≤ x → x ≤ 1099511627776 / R → 0 ≤ y → y < c.ns → 0 ≤ z → z < c.long → p) → (0 ≤ x ∧ x ≤ 1099511627776 / R ∧ 0 ≤ y ∧ y < c.ns ∧ 0 ≤ z ∧ z < c.long) → p := fun p h g => h g.1 g.2.1 g.2.2.1 g.2.2.2.1 g.2.2.2.2.1 g.2.2.2.2.2
      have hw : 0 ≤ x → x ≤ 1099511627776 / R → 0 ≤ y → y < c.ns → 0 ≤ z → z < c.long →
          IntKind.wrap IntKind.i64 (IntKind.wrap IntKind.i64 (IntKind.wrap IntKind.i64 (x * R) + IntKind.wrap IntKind.i64 (y * c.long)) + z) = x * R + y * c.long + z := fun h1 h2 h3 h4 h5 h6 => by
        have := hx1 h1 h2
        have := hy1 h3 h4
        rw [wrap_nat (x * R) (by omega) (by omega), wrap_nat (y * c.long) (by omega) (by omega), wrap_nat (x * R + y * c.long) (by omega) (by omega), wrap_nat _ (by omega) (by omega)]
      have hx0 : 0 ≤ x → 1099511627776 / R < x → ∀ t, 0 ≤ t → ¬ (x * R + t ≤ 1099511627776) := fun h0 h1 t ht => by have := hx2 h1; omega
      (repeat' (first | refine ⟨fun h => ?_, fun h => ?_⟩ | fail))
      all_goals (refine ⟨?_, (by first | (unfold lim; omega) | (dsimp only; unfold lim; omega)), ?_, by simp⟩)
      all_goals (simp only [decide_eq_true_eq, decide_eq_false_iff_not, Int.ofNat_eq_natCast, Int.cast_ofNat_Int, gt_iff_lt, ge_iff_le] at *)
      all_goals first
        | (have hn : ¬ agOk c x y z := (by
             unfold agOk ckM
             rw [hR]
             rintro ⟨g1, g2, g3, g4, g5, g6, g7⟩
             have := hy1 g3 g4
             have := hx1 g1
             have := hx2
             omega)
           simp [agV, agE, hn, i64]; done)
        | (have hn : ¬ agOk c x y z := (by
             unfold agOk ckM
             rw [hR]
             rintro ⟨g1, g2, g3, g4, g5, g6, g7⟩
             have := hw g1 (by omega) g3 g4 g5 g6
             omega)
           simp [agV, agE, hn, i64]; done)
        | (have e9 := hw (by omega) (by omega) (by omega) (by omega) (by omega) (by omega)
           have hy : agOk c x y z := (by
             unfold agOk ckM
             rw [hR]
             have := hx1 (by omega) (by omega)
             refine ⟨by omega, by omega, by omega, by omega, by omega, by omega, by omega⟩)
           rw [e9]
           simp [agV, agE, hy, i64, hR]; done)
        | (simp only [allT, List.forall_mem_cons, List.not_mem_nil, false_implies, implies_true, and_true, true_and, cfgK_t, netK_t, intsOk_ints, stsOk_sts, intsOk_s, stsOk_s, beq_iff_eq, decide_eq_true_eq, decide_eq_false_iff_not, beq_eq_false_iff_ne, bne_iff_ne, bne_eq_false_iff_eq, Bool.not_eq_true', Bool.not_eq_false', ne_eq, Int.ofNat_eq_natCast, Int.cast_ofNat_Int, gt_iff_lt, ge_iff_le]; omega)
  · cases hs
end Go.Proofs.YtgfmjbfjodidpaaDoor
end
/- sennitref03.Distance: its loop's round as the evaluator runs it; the function. -/
section
namespace Go.Proofs.YtgfmjbfjodidpaaDoor
open Go.RowKit

abbrev rdV (n d b x : Int) (k : Nat) : List AV := [i64 n, u8A d, i64 x, i64 b, i64 (Int.ofNat k)]
def rdR (P : Program) (n d b x : Int) (k : Nat) (path : List Dec) : Option VC :=
  view ([0, 1, 2, 3, 9] ++ []) [] (fC (E1 P) 100 (loopAt P 127 0) 1000000000000000000000000000000000000000000 10000000000000000000000000000000000000000 (stH 42 [0, 1, 2, 3, 9] [] (rdV n d b x k) [] path []))
theorem rd3 (n d b x : Int) (k : Nat) (Q : VC → Prop) (H : (((x != b) = true → (((d == Int.ofNat 0) = true → (((x == IntKind.wrap IntKind.i64 (n - Int.ofNat 1)) = true → Q (Exit.normal, [some (lkA (List.zip [0, 1, 2, 3, 9] (rdV n d b x k)) 0), some (lkA (List.zip [0, 1, 2, 3, 9] (rdV n d b x k)) (0 + 1)), some (AV.c (AC.v (Value.int IntKind.i64 (Int.ofNat 0)))), some (lkA (List.zip [0, 1, 2, 3, 9] (rdV n d b x k)) (0 + 1 + 1 + 1)), some (AV.c (AC.v (Value.int IntKind.i64 (IntKind.wrap IntKind.i64 (Int.ofNat k + Int.ofNat 1)))))], [], 42, 1000000000000000000000000000000000000000018, [(x == IntKind.wrap IntKind.i64 (n - Int.ofNat 1)) == true, (d == Int.ofNat 0) == true, (x != b) == true], [])) ∧ ((x == IntKind.wrap IntKind.i64 (n - Int.ofNat 1)) = false → Q (Exit.normal, [some (lkA (List.zip [0, 1, 2, 3, 9] (rdV n d b x k)) 0), some (lkA (List.zip [0, 1, 2, 3, 9] (rdV n d b x k)) (0 + 1)), some (AV.c (AC.v (Value.int IntKind.i64 (IntKind.wrap IntKind.i64 (x + Int.ofNat 1))))), some (lkA (List.zip [0, 1, 2, 3, 9] (rdV n d b x k)) (0 + 1 + 1 + 1)), some (AV.c (AC.v (Value.int IntKind.i64 (IntKind.wrap IntKind.i64 (Int.ofNat k + Int.ofNat 1)))))], [], 42, 1000000000000000000000000000000000000000020, [(x == IntKind.wrap IntKind.i64 (n - Int.ofNat 1)) == false, (d == Int.ofNat 0) == true, (x != b) == true], [])))) ∧ ((d == Int.ofNat 0) = false → (((x == Int.ofNat 0) = true → Q (Exit.normal, [some (lkA (List.zip [0, 1, 2, 3, 9] (rdV n d b x k)) 0), some (lkA (List.zip [0, 1, 2, 3, 9] (rdV n d b x k)) (0 + 1)), some (AV.c (AC.v (Value.int IntKind.i64 (IntKind.wrap IntKind.i64 (n - Int.ofNat 1))))), some (lkA (List.zip [0, 1, 2, 3, 9] (rdV n d b x k)) (0 + 1 + 1 + 1)), some (AV.c (AC.v (Value.int IntKind.i64 (IntKind.wrap IntKind.i64 (Int.ofNat k + Int.ofNat 1)))))], [], 42, 1000000000000000000000000000000000000000018, [(x == Int.ofNat 0) == true, (d == Int.ofNat 0) == false, (x != b) == true], [])) ∧ ((x == Int.ofNat 0) = false → Q (Exit.normal, [some (lkA (List.zip [0, 1, 2, 3, 9] (rdV n d b x k)) 0), some (lkA (List.zip [0, 1, 2, 3, 9] (rdV n d b x k)) (0 + 1)), some (AV.c (AC.v (Value.int IntKind.i64 (IntKind.wrap IntKind.i64 (x - Int.ofNat 1))))), some (lkA (List.zip [0, 1, 2, 3, 9] (rdV n d b x k)) (0 + 1 + 1 + 1)), some (AV.c (AC.v (Value.int IntKind.i64 (IntKind.wrap IntKind.i64 (Int.ofNat k + Int.ofNat 1)))))], [], 42, 1000000000000000000000000000000000000000018, [(x == Int.ofNat 0) == false, (d == Int.ofNat 0) == false, (x != b) == true], [])))))) ∧ ((x != b) = false → Q (Exit.exit 0, [some (lkA (List.zip [0, 1, 2, 3, 9] (rdV n d b x k)) 0), some (lkA (List.zip [0, 1, 2, 3, 9] (rdV n d b x k)) (0 + 1)), some (lkA (List.zip [0, 1, 2, 3, 9] (rdV n d b x k)) (0 + 1 + 1)), some (lkA (List.zip [0, 1, 2, 3, 9] (rdV n d b x k)) (0 + 1 + 1 + 1)), some (lkA (List.zip [0, 1, 2, 3, 9] (rdV n d b x k)) (0 + 1 + 1 + 1 + 1 + 1 + 1 + 1 + 1 + 1))], [], 42, 1000000000000000000000000000000000000000003, [(x != b) == false], [])))) :
    ∃ p r, rdR Tryd.prog n d b x k p = some r ∧ Q r := by
  rcases Bool.eq_false_or_eq_true (x != b) with h2 | h2
  · have g2 := H.1 h2
    rcases Bool.eq_false_or_eq_true (d == Int.ofNat 0) with h4 | h4
    · have g4 := g2.1 h4
      rcases Bool.eq_false_or_eq_true (x == IntKind.wrap IntKind.i64 (n - Int.ofNat 1)) with h6 | h6
      · have g6 := g4.1 h6
        exact ⟨([.b true, .b true, .b true] : List Dec), _, by kernel_rfl, g6⟩
      · have g6 := g4.2 h6
        exact ⟨([.b true, .b true, .b false] : List Dec), _, by kernel_rfl, g6⟩
    · have g4 := g2.2 h4
      rcases Bool.eq_false_or_eq_true (x == Int.ofNat 0) with h6 | h6
      · have g6 := g4.1 h6
        exact ⟨([.b true, .b false, .b true] : List Dec), _, by kernel_rfl, g6⟩
      · have g6 := g4.2 h6
        exact ⟨([.b true, .b false, .b false] : List Dec), _, by kernel_rfl, g6⟩
  · have g2 := H.2 h2
    exact ⟨([.b false] : List Dec), _, by kernel_rfl, g2⟩
def rdF (P : Program) (n d a b : Int) (j : Nat) (path : List Dec) : Option VF := viewF [] (fCallF (E1 P) (fC (E1 P) 300) 127 [i64 n, u8A d, i64 a, i64 b] 1000 10000000000000000000000000000000000000000 (stA [] path [some ⟨[0, 1, 2, 3, 9], [], mkFr 42 [(9, i64 (Int.ofNat j))], [], 100000000000000000000000000000000000000000000000000, .exit 0⟩]))
theorem rd3F (n d a b : Int) (j : Nat) (Q : VF → Prop) (H : (((decide (n ≥ Int.ofNat 4)) = true → (((decide (n ≤ Int.ofNat 16)) = true → (((!decide (d < Int.ofNat 2)) = true → Q (AV.c (AC.v (Value.int IntKind.i64 (Int.negSucc 0))), [], 1025, [(!decide (d < Int.ofNat 2)) == true, decide (n ≤ Int.ofNat 16) == true, decide (n ≥ Int.ofNat 4) == true], [])) ∧ ((!decide (d < Int.ofNat 2)) = false → (((decide (a < Int.ofNat 0)) = true → Q (AV.c (AC.v (Value.int IntKind.i64 (Int.negSucc 0))), [], 1027, [decide (a < Int.ofNat 0) == true, (!decide (d < Int.ofNat 2)) == false, decide (n ≤ Int.ofNat 16) == true, decide (n ≥ Int.ofNat 4) == true], [])) ∧ ((decide (a < Int.ofNat 0)) = false → (((decide (a ≥ n)) = true → Q (AV.c (AC.v (Value.int IntKind.i64 (Int.negSucc 0))), [], 1030, [decide (a ≥ n) == true, decide (a < Int.ofNat 0) == false, (!decide (d < Int.ofNat 2)) == false, decide (n ≤ Int.ofNat 16) == true, decide (n ≥ Int.ofNat 4) == true], [])) ∧ ((decide (a ≥ n)) = false → (((decide (b < Int.ofNat 0)) = true → Q (AV.c (AC.v (Value.int IntKind.i64 (Int.negSucc 0))), [], 1032, [decide (b < Int.ofNat 0) == true, decide (a ≥ n) == false, decide (a < Int.ofNat 0) == false, (!decide (d < Int.ofNat 2)) == false, decide (n ≤ Int.ofNat 16) == true, decide (n ≥ Int.ofNat 4) == true], [])) ∧ ((decide (b < Int.ofNat 0)) = false → (((decide (b ≥ n)) = true → Q (AV.c (AC.v (Value.int IntKind.i64 (Int.negSucc 0))), [], 1035, [decide (b ≥ n) == true, decide (b < Int.ofNat 0) == false, decide (a ≥ n) == false, decide (a < Int.ofNat 0) == false, (!decide (d < Int.ofNat 2)) == false, decide (n ≤ Int.ofNat 16) == true, decide (n ≥ Int.ofNat 4) == true], [])) ∧ ((decide (b ≥ n)) = false → Q (AV.c (AC.v (Value.int IntKind.i64 (Int.ofNat j))), [], 100000000000000000000000000000000000000000000000002, [decide (b ≥ n) == false, decide (b < Int.ofNat 0) == false, decide (a ≥ n) == false, decide (a < Int.ofNat 0) == false, (!decide (d < Int.ofNat 2)) == false, decide (n ≤ Int.ofNat 16) == true, decide (n ≥ Int.ofNat 4) == true], [LoopV Tryd.prog (loopAt Tryd.prog 127 0) [0, 1, 2, 3, 9] [] [some (AV.c (AC.v (Value.int IntKind.i64 n))), some (AV.c (AC.v (Value.int IntKind.u8 d))), some (AV.c (AC.v (Value.int IntKind.i64 a))), some (AV.c (AC.v (Value.int IntKind.i64 b))), some (AV.c (AC.v (Value.int IntKind.i64 (Int.ofNat 0))))] [] 42 1035 (mkFr 42 [(9, i64 (Int.ofNat j))]) [] 100000000000000000000000000000000000000000000000000 (Exit.exit 0) none])))))))))))) ∧ ((decide (n ≤ Int.ofNat 16)) = false → Q (AV.c (AC.v (Value.int IntKind.i64 (Int.negSucc 0))), [], 1023, [decide (n ≤ Int.ofNat 16) == false, decide (n ≥ Int.ofNat 4) == true], [])))) ∧ ((decide (n ≥ Int.ofNat 4)) = false → Q (AV.c (AC.v (Value.int IntKind.i64 (Int.negSucc 0))), [], 1021, [decide (n ≥ Int.ofNat 4) == false], [])))) :
    ∃ p r, rdF Tryd.prog n d a b j p = some r ∧ Q r := by
  rcases Bool.eq_false_or_eq_true (decide (n ≥ Int.ofNat 4)) with h2 | h2
  · have g2 := H.1 h2
    rcases Bool.eq_false_or_eq_true (decide (n ≤ Int.ofNat 16)) with h4 | h4
    · have g4 := g2.1 h4
      rcases Bool.eq_false_or_eq_true (!decide (d < Int.ofNat 2)) with h6 | h6
      · have g6 := g4.1 h6
        exact ⟨([.b true, .a, .b true, .a, .b true, .a, .a, .a, .a, .a, .a, .a, .a, .a, .a] : List Dec), _, by kernel_rfl, g6⟩
      · have g6 := g4.2 h6
        rcases Bool.eq_false_or_eq_true (decide (a < Int.ofNat 0)) with h8 | h8
        · have g8 := g6.1 h8
          exact ⟨([.b true, .a, .b true, .a, .b false, .a, .b true, .a, .a, .a, .a, .a, .a, .a, .a] : List Dec), _, by kernel_rfl, g8⟩
        · have g8 := g6.2 h8
          rcases Bool.eq_false_or_eq_true (decide (a ≥ n)) with h10 | h10
          · have g10 := g8.1 h10
            exact ⟨([.b true, .a, .b true, .a, .b false, .a, .b false, .a, .a, .b true, .a, .a, .a, .a, .a] : List Dec), _, by kernel_rfl, g10⟩
          · have g10 := g8.2 h10
            rcases Bool.eq_false_or_eq_true (decide (b < Int.ofNat 0)) with h12 | h12
            · have g12 := g10.1 h12
              exact ⟨([.b true, .a, .b true, .a, .b false, .a, .b false, .a, .a, .b false, .a, .b true, .a, .a, .a] : List Dec), _, by kernel_rfl, g12⟩
            · have g12 := g10.2 h12
              rcases Bool.eq_false_or_eq_true (decide (b ≥ n)) with h14 | h14
              · have g14 := g12.1 h14
                exact ⟨([.b true, .a, .b true, .a, .b false, .a, .b false, .a, .a, .b false, .a, .b false, .a, .a, .b true] : List Dec), _, by kernel_rfl, g14⟩
              · have g14 := g12.2 h14
                exact ⟨([.b true, .a, .b true, .a, .b false, .a, .b false, .a, .a, .b false, .a, .b false, .a, .a, .b false] : List Dec), _, by kernel_rfl, g14⟩
    · have g4 := g2.2 h4
      exact ⟨([.b true, .a, .b false, .a, .a, .a, .a, .a, .a, .a, .a, .a, .a, .a, .a] : List Dec), _, by kernel_rfl, g4⟩
  · have g2 := H.2 h2
    exact ⟨([.b false, .a, .a, .a, .a, .a, .a, .a, .a, .a, .a, .a, .a, .a, .a] : List Dec), _, by kernel_rfl, g2⟩
end Go.Proofs.YtgfmjbfjodidpaaDoor
end
/- modes.in: its loop's round as the evaluator runs it. -/
section
namespace Go.Proofs.YtgfmjbfjodidpaaDoor
open Go.RowKit

def ctFirst : CtF := ctNet (fun c nq fq zs => i64 (headN c nq fq (zs.headD 0))) fun c nq fq zs => true && decide (zs.length = 1)
def ENf (P : Program) : Env := ⟨P, [(37, ctFirst)]⟩
theorem hENf : EnvOk (ENf Tryd.prog) := by
  refine envOk (fun f g h => ?_) (by kernel_rfl) (by kernel_rfl)
  simp only [ENf, List.mem_cons, Prod.mk.injEq, List.not_mem_nil, or_false] at h
  obtain ⟨rfl, rfl⟩ := h
  exact ct_first
/-- has a net such a pair? is it in? -/
def hasB (c : Cfg) (nq : Nat) (fq : Nat → Int) (p : Nat) : Bool := decide (0 ≤ headN c nq fq (Int.ofNat p))
def inB (c : Cfg) (nq : Nat) (fq : Nat → Int) (v : Vw) (p : Nat) : Bool := hasB c nq fq p && v.inn p
abbrev vwB (v : Vw) : ABlk := ⟨true, false, 32, 0, .lit (v.cells.map .v)⟩
abbrev netY0 (c : Cfg) (nq : Nat) : ABlk := ⟨false, false, 130, 0, .lit (netC0 c nq)⟩
abbrev netIds : List Nat := [gid 0, 0, 1, 2, 3, 4, 5]
abbrev netBk (c : Cfg) (nq : Nat) (fq : Nat → Int) : List ABlk := [signB, ints 3 c.np c.fp, ints 3 c.ns c.fs, ints 3 c.nb c.fb, sts c.nt c.ft, ints 3 nq fq, netY0 c nq]
abbrev mdV (c : Cfg) (nq : Nat) (fq : Nat → Int) (v : Vw) (k : Nat) : List AV := [.c (.ptr 5 0 0), .c (.ptr 1000 0 0), i64 (Int.ofNat (cntF (inB c nq fq v) k)), i64 (Int.ofNat (cntF (hasB c nq fq) k)), i64 (Int.ofNat k)]
def mdR (P : Program) (c : Cfg) (nq : Nat) (fq : Nat → Int) (v : Vw) (k : Nat) (path : List Dec) : Option VC :=
  view ([0, 3, 4, 5, 7] ++ []) (netIds ++ [1000]) (fC (ENf P) 100 (loopAt P 69 0) 1000000000000000000000000000000000000000000 10000000000000000000000000000000000000000 (stH 25 [0, 3, 4, 5, 7] (netIds ++ [1000]) (mdV c nq fq v k) (netBk c nq fq ++ [vwB v]) path []))
theorem md (c : Cfg) (nq : Nat) (fq : Nat → Int) (v : Vw) (k : Nat) (Q : VC → Prop) (H : (((decide (Int.ofNat k < Int.ofNat 8)) = true → (((decide (headN c nq fq (List.headD [Int.ofNat k] (Int.ofNat 0)) < Int.ofNat 0)) = true → Q (Exit.normal, [some (lkA (List.zip [0, 3, 4, 5, 7] (mdV c nq fq v k)) 0), some (lkA (List.zip [0, 3, 4, 5, 7] (mdV c nq fq v k)) (0 + 1 + 1 + 1)), some (lkA (List.zip [0, 3, 4, 5, 7] (mdV c nq fq v k)) (0 + 1 + 1 + 1 + 1)), some (lkA (List.zip [0, 3, 4, 5, 7] (mdV c nq fq v k)) (0 + 1 + 1 + 1 + 1 + 1)), some (AV.c (AC.v (Value.int IntKind.i64 (IntKind.wrap IntKind.i64 (Int.ofNat k + Int.ofNat 1)))))], [some (ABlk.mk false false 107 0 (Cs.lit [AC.v (Value.int IntKind.i64 (Int.ofNat 1)), AC.v (Value.int IntKind.i64 (Int.negSucc 0))])), some (ABlk.mk false false 3 1 (Cs.arr (Cfg.np c) fun k => List.map AC.v ((fun i => [Value.int IntKind.i64 (Cfg.fp c i)]) k))), some (ABlk.mk false false 3 1 (Cs.arr (Cfg.ns c) fun k => List.map AC.v ((fun i => [Value.int IntKind.i64 (Cfg.fs c i)]) k))), some (ABlk.mk false false 3 1 (Cs.arr (Cfg.nb c) fun k => List.map AC.v ((fun i => [Value.int IntKind.i64 (Cfg.fb c i)]) k))), some (ABlk.mk false false 47 3 (Cs.arr (Cfg.nt c) fun k => List.map AC.v ((fun i => [Value.int IntKind.i64 (Station.node (Cfg.ft c i)), Value.int IntKind.u32 (Station.safe (Cfg.ft c i)), Value.int IntKind.i64 (Station.hold (Cfg.ft c i))]) k))), some (ABlk.mk false false 3 1 (Cs.arr nq fun k => List.map AC.v ((fun i => [Value.int IntKind.i64 (fq i)]) k))), some (ABlk.mk false false 130 0 (Cs.lit [AC.v (Value.int IntKind.i64 (Cfg.nodes c)), AC.sl 0 0 0 (Cfg.np c) none, AC.sl 1 0 0 (Cfg.ns c) none, AC.v (Value.int IntKind.i64 (Cfg.long c)), AC.sl 2 0 0 (Cfg.nb c) none, AC.sl 3 0 0 (Cfg.nt c) none, AC.v (Value.int IntKind.i64 (Cfg.miss c)), AC.v (Value.int IntKind.i64 (Cfg.good c)), AC.v (Value.int IntKind.i64 (Cfg.fresh c)), AC.sl 4 0 0 nq none])), some (ABlk.mk true false 32 0 (Cs.lit (vwL v)))], 25, 1000000000000000000000000000000000000000008, [decide (headN c nq fq (List.headD [Int.ofNat k] (Int.ofNat 0)) < Int.ofNat 0) == true, netK c nq fq, true, decide (Int.ofNat k < Int.ofNat 8) == true], [])) ∧ ((decide (headN c nq fq (List.headD [Int.ofNat k] (Int.ofNat 0)) < Int.ofNat 0)) = false → (((asB (List.getD (vwL v) (0 + Int.toNat (Int.ofNat k) * 1) nov)) = true → Q (Exit.normal, [some (lkA (List.zip [0, 3, 4, 5, 7] (mdV c nq fq v k)) 0), some (lkA (List.zip [0, 3, 4, 5, 7] (mdV c nq fq v k)) (0 + 1 + 1 + 1)), some (AV.c (AC.v (Value.int IntKind.i64 (IntKind.wrap IntKind.i64 (Int.ofNat (cntF (inB c nq fq v) k) + Int.ofNat 1))))), some (AV.c (AC.v (Value.int IntKind.i64 (IntKind.wrap IntKind.i64 (Int.ofNat (cntF (hasB c nq fq) k) + Int.ofNat 1))))), some (AV.c (AC.v (Value.int IntKind.i64 (IntKind.wrap IntKind.i64 (Int.ofNat k + Int.ofNat 1)))))], [some (ABlk.mk false false 107 0 (Cs.lit [AC.v (Value.int IntKind.i64 (Int.ofNat 1)), AC.v (Value.int IntKind.i64 (Int.negSucc 0))])), some (ABlk.mk false false 3 1 (Cs.arr (Cfg.np c) fun k => List.map AC.v ((fun i => [Value.int IntKind.i64 (Cfg.fp c i)]) k))), some (ABlk.mk false false 3 1 (Cs.arr (Cfg.ns c) fun k => List.map AC.v ((fun i => [Value.int IntKind.i64 (Cfg.fs c i)]) k))), some (ABlk.mk false false 3 1 (Cs.arr (Cfg.nb c) fun k => List.map AC.v ((fun i => [Value.int IntKind.i64 (Cfg.fb c i)]) k))), some (ABlk.mk false false 47 3 (Cs.arr (Cfg.nt c) fun k => List.map AC.v ((fun i => [Value.int IntKind.i64 (Station.node (Cfg.ft c i)), Value.int IntKind.u32 (Station.safe (Cfg.ft c i)), Value.int IntKind.i64 (Station.hold (Cfg.ft c i))]) k))), some (ABlk.mk false false 3 1 (Cs.arr nq fun k => List.map AC.v ((fun i => [Value.int IntKind.i64 (fq i)]) k))), some (ABlk.mk false false 130 0 (Cs.lit [AC.v (Value.int IntKind.i64 (Cfg.nodes c)), AC.sl 0 0 0 (Cfg.np c) none, AC.sl 1 0 0 (Cfg.ns c) none, AC.v (Value.int IntKind.i64 (Cfg.long c)), AC.sl 2 0 0 (Cfg.nb c) none, AC.sl 3 0 0 (Cfg.nt c) none, AC.v (Value.int IntKind.i64 (Cfg.miss c)), AC.v (Value.int IntKind.i64 (Cfg.good c)), AC.v (Value.int IntKind.i64 (Cfg.fresh c)), AC.sl 4 0 0 nq none])), some (ABlk.mk true false 32 0 (Cs.lit (vwL v)))], 25, 1000000000000000000000000000000000000000018, [asB (List.getD (vwL v) (0 + Int.toNat (Int.ofNat k) * 1) nov) == true, ABlk.inb (ABlk.mk true false 32 0 (Cs.lit (vwL v))) 0 (0 + Int.toNat (Int.ofNat k) * 1 + 1), okl Kd.b (List.getD (vwL v) (0 + Int.toNat (Int.ofNat k) * 1) nov), decide (Int.ofNat 0 ≤ Int.ofNat k ∧ Int.ofNat k < Int.ofNat 8), decide (headN c nq fq (List.headD [Int.ofNat k] (Int.ofNat 0)) < Int.ofNat 0) == false, netK c nq fq, true, decide (Int.ofNat k < Int.ofNat 8) == true], [])) ∧ ((asB (List.getD (vwL v) (0 + Int.toNat (Int.ofNat k) * 1) nov)) = false → Q (Exit.normal, [some (lkA (List.zip [0, 3, 4, 5, 7] (mdV c nq fq v k)) 0), some (lkA (List.zip [0, 3, 4, 5, 7] (mdV c nq fq v k)) (0 + 1 + 1 + 1)), some (lkA (List.zip [0, 3, 4, 5, 7] (mdV c nq fq v k)) (0 + 1 + 1 + 1 + 1)), some (AV.c (AC.v (Value.int IntKind.i64 (IntKind.wrap IntKind.i64 (Int.ofNat (cntF (hasB c nq fq) k) + Int.ofNat 1))))), some (AV.c (AC.v (Value.int IntKind.i64 (IntKind.wrap IntKind.i64 (Int.ofNat k + Int.ofNat 1)))))], [some (ABlk.mk false false 107 0 (Cs.lit [AC.v (Value.int IntKind.i64 (Int.ofNat 1)), AC.v (Value.int IntKind.i64 (Int.negSucc 0))])), some (ABlk.mk false false 3 1 (Cs.arr (Cfg.np c) fun k => List.map AC.v ((fun i => [Value.int IntKind.i64 (Cfg.fp c i)]) k))), some (ABlk.mk false false 3 1 (Cs.arr (Cfg.ns c) fun k => List.map AC.v ((fun i => [Value.int IntKind.i64 (Cfg.fs c i)]) k))), some (ABlk.mk false false 3 1 (Cs.arr (Cfg.nb c) fun k => List.map AC.v ((fun i => [Value.int IntKind.i64 (Cfg.fb c i)]) k))), some (ABlk.mk false false 47 3 (Cs.arr (Cfg.nt c) fun k => List.map AC.v ((fun i => [Value.int IntKind.i64 (Station.node (Cfg.ft c i)), Value.int IntKind.u32 (Station.safe (Cfg.ft c i)), Value.int IntKind.i64 (Station.hold (Cfg.ft c i))]) k))), some (ABlk.mk false false 3 1 (Cs.arr nq fun k => List.map AC.v ((fun i => [Value.int IntKind.i64 (fq i)]) k))), some (ABlk.mk false false 130 0 (Cs.lit [AC.v (Value.int IntKind.i64 (Cfg.nodes c)), AC.sl 0 0 0 (Cfg.np c) none, AC.sl 1 0 0 (Cfg.ns c) none, AC.v (Value.int IntKind.i64 (Cfg.long c)), AC.sl 2 0 0 (Cfg.nb c) none, AC.sl 3 0 0 (Cfg.nt c) none, AC.v (Value.int IntKind.i64 (Cfg.miss c)), AC.v (Value.int IntKind.i64 (Cfg.good c)), AC.v (Value.int IntKind.i64 (Cfg.fresh c)), AC.sl 4 0 0 nq none])), some (ABlk.mk true false 32 0 (Cs.lit (vwL v)))], 25, 1000000000000000000000000000000000000000015, [asB (List.getD (vwL v) (0 + Int.toNat (Int.ofNat k) * 1) nov) == false, ABlk.inb (ABlk.mk true false 32 0 (Cs.lit (vwL v))) 0 (0 + Int.toNat (Int.ofNat k) * 1 + 1), okl Kd.b (List.getD (vwL v) (0 + Int.toNat (Int.ofNat k) * 1) nov), decide (Int.ofNat 0 ≤ Int.ofNat k ∧ Int.ofNat k < Int.ofNat 8), decide (headN c nq fq (List.headD [Int.ofNat k] (Int.ofNat 0)) < Int.ofNat 0) == false, netK c nq fq, true, decide (Int.ofNat k < Int.ofNat 8) == true], [])))))) ∧ ((decide (Int.ofNat k < Int.ofNat 8)) = false → Q (Exit.exit 0, [some (lkA (List.zip [0, 3, 4, 5, 7] (mdV c nq fq v k)) 0), some (lkA (List.zip [0, 3, 4, 5, 7] (mdV c nq fq v k)) (0 + 1 + 1 + 1)), some (lkA (List.zip [0, 3, 4, 5, 7] (mdV c nq fq v k)) (0 + 1 + 1 + 1 + 1)), some (lkA (List.zip [0, 3, 4, 5, 7] (mdV c nq fq v k)) (0 + 1 + 1 + 1 + 1 + 1)), some (lkA (List.zip [0, 3, 4, 5, 7] (mdV c nq fq v k)) (0 + 1 + 1 + 1 + 1 + 1 + 1 + 1))], [some (ABlk.mk false false 107 0 (Cs.lit [AC.v (Value.int IntKind.i64 (Int.ofNat 1)), AC.v (Value.int IntKind.i64 (Int.negSucc 0))])), some (ABlk.mk false false 3 1 (Cs.arr (Cfg.np c) fun k => List.map AC.v ((fun i => [Value.int IntKind.i64 (Cfg.fp c i)]) k))), some (ABlk.mk false false 3 1 (Cs.arr (Cfg.ns c) fun k => List.map AC.v ((fun i => [Value.int IntKind.i64 (Cfg.fs c i)]) k))), some (ABlk.mk false false 3 1 (Cs.arr (Cfg.nb c) fun k => List.map AC.v ((fun i => [Value.int IntKind.i64 (Cfg.fb c i)]) k))), some (ABlk.mk false false 47 3 (Cs.arr (Cfg.nt c) fun k => List.map AC.v ((fun i => [Value.int IntKind.i64 (Station.node (Cfg.ft c i)), Value.int IntKind.u32 (Station.safe (Cfg.ft c i)), Value.int IntKind.i64 (Station.hold (Cfg.ft c i))]) k))), some (ABlk.mk false false 3 1 (Cs.arr nq fun k => List.map AC.v ((fun i => [Value.int IntKind.i64 (fq i)]) k))), some (ABlk.mk false false 130 0 (Cs.lit [AC.v (Value.int IntKind.i64 (Cfg.nodes c)), AC.sl 0 0 0 (Cfg.np c) none, AC.sl 1 0 0 (Cfg.ns c) none, AC.v (Value.int IntKind.i64 (Cfg.long c)), AC.sl 2 0 0 (Cfg.nb c) none, AC.sl 3 0 0 (Cfg.nt c) none, AC.v (Value.int IntKind.i64 (Cfg.miss c)), AC.v (Value.int IntKind.i64 (Cfg.good c)), AC.v (Value.int IntKind.i64 (Cfg.fresh c)), AC.sl 4 0 0 nq none])), some (ABlk.mk true false 32 0 (Cs.lit (vwL v)))], 25, 1000000000000000000000000000000000000000001, [decide (Int.ofNat k < Int.ofNat 8) == false], [])))) :
    ∃ p r, mdR Tryd.prog c nq fq v k p = some r ∧ Q r := by
  rcases Bool.eq_false_or_eq_true (decide (Int.ofNat k < Int.ofNat 8)) with h2 | h2
  · have g2 := H.1 h2
    rcases Bool.eq_false_or_eq_true (decide (headN c nq fq (List.headD [Int.ofNat k] (Int.ofNat 0)) < Int.ofNat 0)) with h4 | h4
    · have g4 := g2.1 h4
      exact ⟨([.b true, .b true] : List Dec), _, by kernel_rfl, g4⟩
    · have g4 := g2.2 h4
      rcases Bool.eq_false_or_eq_true (asB (List.getD (vwL v) (0 + Int.toNat (Int.ofNat k) * 1) nov)) with h6 | h6
      · have g6 := g4.1 h6
        exact ⟨([.b true, .b false, .b true] : List Dec), _, by kernel_rfl, g6⟩
      · have g6 := g4.2 h6
        exact ⟨([.b true, .b false, .b false] : List Dec), _, by kernel_rfl, g6⟩
  · have g2 := H.2 h2
    exact ⟨([.b false] : List Dec), _, by kernel_rfl, g2⟩
end Go.Proofs.YtgfmjbfjodidpaaDoor
end
/- modes.in: how many pairs are in, of how many: its contract. -/
section
namespace Go.Proofs.YtgfmjbfjodidpaaDoor
open Go.RowKit

theorem vw_inn (v : Vw) (k : Nat) (h : k < 8) : asB (List.getD (vwL v) (0 + Int.toNat (Int.ofNat k) * 1) nov) = v.inn k := by
  match k, h with
  | 0, _ => rfl
  | 1, _ => rfl
  | 2, _ => rfl
  | 3, _ => rfl
  | 4, _ => rfl
  | 5, _ => rfl
  | 6, _ => rfl
  | 7, _ => rfl
theorem vw_innB (v : Vw) (k : Nat) (h : k < 8) : okl .b (List.getD (vwL v) (0 + Int.toNat (Int.ofNat k) * 1) nov) = true := by
  match k, h with
  | 0, _ => rfl
  | 1, _ => rfl
  | 2, _ => rfl
  | 3, _ => rfl
  | 4, _ => rfl
  | 5, _ => rfl
  | 6, _ => rfl
  | 7, _ => rfl
theorem vwB_low {n : Nat} {v : Vw} : lowB n (vwB v) := low_lit (List.all_eq_true.2 fun x hx => by
  obtain ⟨y, _, rfl⟩ := List.mem_map.1 hx
  rfl)
theorem netBk_low {c : Cfg} {nq : Nat} {fq : Nat → Int} {n : Nat} (hn : 10 ≤ n) : ∀ b ∈ netBk c nq fq, lowB n b := by
  intro b hb
  have hc : ∀ i, i < 10 → Nat.blt i n = true := fun i h => by rw [Nat.blt_eq]; omega
  simp only [List.mem_cons, List.not_mem_nil, or_false] at hb
  rcases hb with rfl | rfl | rfl | rfl | rfl | rfl | rfl
  · exact low_lit rfl
  · exact rBlk_low
  · exact rBlk_low
  · exact rBlk_low
  · exact rBlk_low
  · exact rBlk_low
  · exact low_lit (by simp [lowC, hc 0 (by omega), hc 1 (by omega), hc 2 (by omega), hc 3 (by omega), hc 4 (by omega), Nat.blt_eq]; try omega)
theorem cntF_succ (f : Nat → Bool) (k : Nat) : cntF f (k + 1) = cntF f k + (if f k then 1 else 0) := rfl
theorem wrap_nat1 (k : Nat) (h : k ≤ 1000000) : IntKind.wrap IntKind.i64 (Int.ofNat k + Int.ofNat 1) = Int.ofNat (k + 1) := by rw [wrap_nat _ (by simp; omega) (by simp; omega)]; simp
theorem md_sum (c : Cfg) (nq : Nat) (fq : Nat → Int) (v : Vw) {eblks : List (Option ABlk)} (heb : BL (netBk c nq fq ++ [vwB v]) eblks) :
    LoopV Tryd.prog (loopAt Tryd.prog 69 0) [0, 3, 4, 5, 7] (netIds ++ [1000]) ((mdV c nq fq v 0).map some) eblks 25 1004 (mkFr 25 [(4, i64 (Int.ofNat (cntF (inB c nq fq v) 8))), (5, i64 (Int.ofNat (cntF (hasB c nq fq) 8)))]) [] 100000000000000000000000000000000000000000000000000 (.exit 0) none := by
  refine loop_viewE hENf (fuel := 100) (str := 10000000000000000000000000000000000000000) (nh := 1000000000000000000000000000000000000000000) (S := Nat) (fun k => k ≤ 8) (fun k => 8 - k) [0, 3, 4, 5, 7] [] (netIds ++ [1000]) (mdV c nq fq v) (fun _ => netBk c nq fq ++ [vwB v]) (by decide) (by decide) (by unfold lim; omega) (s0 := 0) (by omega) (fun _ => ⟨rfl, rfl⟩) (by kernel_rfl) heb (fun k _ => ⟨rfl, ?_⟩) ?_
  · intro b hb
    rcases List.mem_append.1 hb with h | h
    · exact netBk_low (by omega) b h
    · rw [List.mem_singleton.1 h]; exact vwB_low
  intro k hk
  refine (?_ : (∃ p r, mdR Tryd.prog c nq fq v k p = some r ∧ _) → _) (md c nq fq v k (StepV 1004 100000000000000000000000000000000000000000000000000 25 [0, 3, 4, 5, 7] [] (netIds ++ [1000]) (fun k => k ≤ 8) (fun k => 8 - k) (mdV c nq fq v) (fun _ => netBk c nq fq ++ [vwB v]) (.exit 0) [(4, i64 (Int.ofNat (cntF (inB c nq fq v) 8))), (5, i64 (Int.ofNat (cntF (hasB c nq fq) 8)))] [] k) ?_)
  · rintro ⟨p, r, h1, h2⟩
    exact ⟨p, [], r, h1, h2⟩
  · have hb := cntF_le (hasB c nq fq) k
    have hi := cntF_le (inB c nq fq v) k
    have nx : ∀ {a b : Int} {i j : Nat}, i = cntF (inB c nq fq v) (k + 1) → j = cntF (hasB c nq fq) (k + 1) → k < 8 → a = Int.ofNat i → b = Int.ofNat j → [some (.c (.ptr 5 0 0)), some (.c (.ptr 1000 0 0)), some (i64 a), some (i64 b), some (i64 (Int.ofNat (k + 1)))] = (mdV c nq fq v (k + 1)).map some := by
      rintro a b i j rfl rfl _ rfl rfl; rfl
    refine ⟨fun c1 => ⟨fun c2 => ?_, fun c2 => ⟨fun c3 => ?_, fun c3 => ?_⟩⟩, fun c1 => ?_⟩
    · have hlt : k < 8 := by simp at c1; omega
      have h0 : hasB c nq fq k = false := by simpa [hasB] using c2
      refine ⟨?_, rfl, by dsimp only; omega, rfl, .inl ⟨rfl, k + 1, by omega, by show 8 - (k + 1) < 8 - k; omega, ?_, by exact BL.refl (netBk c nq fq ++ [vwB v])⟩⟩
      · simp [allT, hlt, c2, cfgK_t, netK_t, intsOk_ints, stsOk_sts, intsOk_s, stsOk_s]
        simp at c2
        omega
      · rw [wrap_nat1 k (by omega)]
        exact nx (i := cntF (inB c nq fq v) k) (j := cntF (hasB c nq fq) k) (by rw [cntF_succ]; simp [inB, h0]) (by rw [cntF_succ]; simp [h0]) hlt rfl rfl
    · have hlt : k < 8 := by simp at c1; omega
      have h0 : hasB c nq fq k = true := by simpa [hasB] using c2
      rw [vw_inn v k hlt] at c3
      refine ⟨?_, rfl, by dsimp only; omega, rfl, .inl ⟨rfl, k + 1, by omega, by show 8 - (k + 1) < 8 - k; omega, ?_, by exact BL.refl (netBk c nq fq ++ [vwB v])⟩⟩
      · simp only [allT, List.forall_mem_cons, vw_inn v k hlt, vw_innB v k hlt]
        simp [allT, hlt, c3, cfgK_t, netK_t, intsOk_ints, stsOk_sts, intsOk_s, stsOk_s, Vw.len, inb_lit, inb_arr]
        simp at c2
        omega
      · rw [wrap_nat1 k (by omega), wrap_nat1 _ (by omega), wrap_nat1 _ (by omega)]
        exact nx (i := cntF (inB c nq fq v) k + 1) (j := cntF (hasB c nq fq) k + 1) (by rw [cntF_succ]; simp [inB, h0, c3]) (by rw [cntF_succ]; simp [h0]) hlt rfl rfl
    · have hlt : k < 8 := by simp at c1; omega
      have h0 : hasB c nq fq k = true := by simpa [hasB] using c2
      rw [vw_inn v k hlt] at c3
      refine ⟨?_, rfl, by dsimp only; omega, rfl, .inl ⟨rfl, k + 1, by omega, by show 8 - (k + 1) < 8 - k; omega, ?_, by exact BL.refl (netBk c nq fq ++ [vwB v])⟩⟩
      · simp only [allT, List.forall_mem_cons, vw_inn v k hlt, vw_innB v k hlt]
        simp [allT, hlt, c3, cfgK_t, netK_t, intsOk_ints, stsOk_sts, intsOk_s, stsOk_s, Vw.len, inb_lit, inb_arr]
        simp at c2
        omega
      · rw [wrap_nat1 k (by omega), wrap_nat1 _ (by omega)]
        exact nx (i := cntF (inB c nq fq v) k) (j := cntF (hasB c nq fq) k + 1) (by rw [cntF_succ]; simp [inB, h0, c3]) (by rw [cntF_succ]; simp [h0]) hlt rfl rfl
    · have hge : k = 8 := by simp at c1; omega
      subst hge
      refine ⟨by simp [allT], rfl, by dsimp only; omega, rfl, .inr ⟨by simp, rfl, fun q hq => ?_, fun p hpp => (by cases hpp)⟩⟩
      simp only [List.mem_cons, List.not_mem_nil, or_false] at hq
      rcases hq with rfl | rfl
      · exact ⟨rfl, by simp [lkA]⟩
      · exact ⟨rfl, by simp [lkA]⟩
/-- of a view among the arguments -/
def rV (R : Cfg → Nat → (Nat → Int) → List AC → List AV → AV) : NetS → AV
  | ⟨c, nq, fq, .agg l :: r⟩ => R c nq fq l r
  | _ => i64 0
def pV (pre : List AC → List AV → Bool) : NetS → Bool
  | ⟨_, _, _, .agg l :: r⟩ => isVw l && pre l r
  | _ => false
theorem pV_out {G : AMem} (hG : (G.all fun p => Nat.ble lim p.1) = true) {pre : List AC → List AV → Bool} {s : NetS} (h : pV pre s = true) : ∃ c nq fq v r, pre (vwL v) r = true ∧ (netRdG G hG).args s = .c (.ptr 5 0 0) :: .agg (vwL v) :: r ∧ (netRdG G hG).mem s = G ++ netL c nq fq ∧ ∀ R, rV R s = R c nq fq (vwL v) r := by
  obtain ⟨c, nq, fq, rest⟩ := s
  match rest with
  | .agg l :: r =>
    simp only [pV, Bool.and_eq_true] at h
    have e := vw_eq h.1
    exact ⟨c, nq, fq, vwOf l, r, by rw [vwL, ← e]; exact h.2, by rw [vwL, ← e]; rfl, rfl, fun R => by rw [vwL, ← e]; rfl⟩
  | [] => simp [pV] at h
  | .c _ :: _ => simp [pV] at h
  | .tup _ :: _ => simp [pV] at h
  | .any :: _ => simp [pV] at h
theorem rV_plain {R : Cfg → Nat → (Nat → Int) → List AC → List AV → AV} (h : ∀ c nq fq v r, plainR (R c nq fq v r) = true) (s : NetS) : plainR (rV R s) = true := by
  unfold rV
  split
  · exact h _ _ _ _ _
  · rfl
/-- a contract of a function of a net and a view -/
theorem ctVwG_of {G : AMem} (hG : (G.all fun p => Nat.ble lim p.1) = true) {E : Env} (hE : EnvOk E) {f : FuncId} {R : Cfg → Nat → (Nat → Int) → List AC → List AV → AV} {pre : List AC → List AV → Bool} (hf : ∃ (fn : Func) (c : Code), E.P.funcs[f]? = some fn ∧ fn.body = some c) (hres : ∀ c nq fq v r, plainR (R c nq fq v r) = true)
    (run : ∀ c nq fq v r, pre (vwL v) r = true → ∃ p lp q, viewF [] (fCallF E (fC E 300) f (.c (.ptr 5 0 0) :: .agg (vwL v) :: r) 1000 10000000000000000000000000000000000000000 (stA (G ++ netL c nq fq) p lp)) = some q ∧ GoodF (R c nq fq (vwL v) r) q) : CtOk E.P f (ctRd (netRdG G hG) (rV R) (pV pre)) := by
  refine ctRd_ofE hE (netRdG G hG) (fuel := 300) (str := 10000000000000000000000000000000000000000) hf (rV_plain hres) fun s hs => ?_
  obtain ⟨c, nq, fq, v, r, h1, h2, h3, h4⟩ := pV_out hG hs
  rw [h2, h3, h4]
  exact run c nq fq v r h1
theorem ctVw_of {E : Env} (hE : EnvOk E) {f : FuncId} {R : Cfg → Nat → (Nat → Int) → List AC → List AV → AV} {pre : List AC → List AV → Bool} (hf : ∃ (fn : Func) (c : Code), E.P.funcs[f]? = some fn ∧ fn.body = some c) (hres : ∀ c nq fq v r, plainR (R c nq fq v r) = true)
    (run : ∀ c nq fq v r, pre (vwL v) r = true → ∃ p lp q, viewF [] (fCallF E (fC E 300) f (.c (.ptr 5 0 0) :: .agg (vwL v) :: r) 1000 10000000000000000000000000000000000000000 (stA (netM c nq fq) p lp)) = some q ∧ GoodF (R c nq fq (vwL v) r) q) : CtOk E.P f (ctRd netRd (rV R) (pV pre)) :=
  ctVwG_of (G := mS) (by kernel_rfl) hE hf hres run
/-- how many pairs are in, by the view's first cells; how many there are -/
def insN (c : Cfg) (nq : Nat) (fq : Nat → Int) (l : List AC) : Nat := cntF (fun p => hasB c nq fq p && asB (l.getD p nov)) 8
def allN (c : Cfg) (nq : Nat) (fq : Nat → Int) : Nat := cntF (hasB c nq fq) 8
abbrev inL (v : Vw) : List AC := [.v (.bool (v.inn 0)), .v (.bool (v.inn 1)), .v (.bool (v.inn 2)), .v (.bool (v.inn 3)), .v (.bool (v.inn 4)), .v (.bool (v.inn 5)), .v (.bool (v.inn 6)), .v (.bool (v.inn 7))]
theorem insN_eq (c : Cfg) (nq : Nat) (fq : Nat → Int) (v : Vw) : insN c nq fq (inL v) = cntF (inB c nq fq v) 8 :=
  cntF_congr fun i hi => by
    have : asB ((inL v).getD i nov) = v.inn i := by
      match i, hi with
      | 0, _ => rfl
      | 1, _ => rfl
      | 2, _ => rfl
      | 3, _ => rfl
      | 4, _ => rfl
      | 5, _ => rfl
      | 6, _ => rfl
      | 7, _ => rfl
    simp only [inB, this]
def modsR (c : Cfg) (nq : Nat) (fq : Nat → Int) (l : List AC) (_ : List AV) : AV := .tup [i64 (Int.ofNat (insN c nq fq (l.take 8))), i64 (Int.ofNat (allN c nq fq))]
def vwE (E : Env) (f : FuncId) (c : Cfg) (nq : Nat) (fq : Nat → Int) (v : Vw) (r : List AV) (path : List Dec) (lp : List (Option LSum)) : Option VF := viewF [] (fCallF E (fC E 300) f (.c (.ptr 5 0 0) :: .agg (vwL v) :: r) 1000 10000000000000000000000000000000000000000 (stA (netM c nq fq) path lp))
theorem mdIn (c : Cfg) (nq : Nat) (fq : Nat → Int) (v : Vw) (Q : VF → Prop) (H : Q (AV.tup [AV.c (AC.v (Value.int IntKind.i64 (Int.ofNat (cntF (inB c nq fq v) 8)))), AV.c (AC.v (Value.int IntKind.i64 (Int.ofNat (cntF (hasB c nq fq) 8))))], [], 100000000000000000000000000000000000000000000000004, [], [LoopV Tryd.prog (loopAt Tryd.prog 69 0) [0, 3, 4, 5, 7] (netIds ++ [1000]) [some (AV.c (AC.ptr 5 0 0)), some (AV.c (AC.ptr 1000 0 0)), some (AV.c (AC.v (Value.int IntKind.i64 (Int.ofNat 0)))), some (AV.c (AC.v (Value.int IntKind.i64 (Int.ofNat 0)))), some (AV.c (AC.v (Value.int IntKind.i64 (Int.ofNat 0))))] [some (ABlk.mk false false 107 0 (Cs.lit [AC.v (Value.int IntKind.i64 (Int.ofNat 1)), AC.v (Value.int IntKind.i64 (Int.negSucc 0))])), some (ABlk.mk false false 3 1 (Cs.arr (Cfg.np c) fun k => List.map AC.v ((fun i => [Value.int IntKind.i64 (Cfg.fp c i)]) k))), some (ABlk.mk false false 3 1 (Cs.arr (Cfg.ns c) fun k => List.map AC.v ((fun i => [Value.int IntKind.i64 (Cfg.fs c i)]) k))), some (ABlk.mk false false 3 1 (Cs.arr (Cfg.nb c) fun k => List.map AC.v ((fun i => [Value.int IntKind.i64 (Cfg.fb c i)]) k))), some (ABlk.mk false false 47 3 (Cs.arr (Cfg.nt c) fun k => List.map AC.v ((fun i => [Value.int IntKind.i64 (Station.node (Cfg.ft c i)), Value.int IntKind.u32 (Station.safe (Cfg.ft c i)), Value.int IntKind.i64 (Station.hold (Cfg.ft c i))]) k))), some (ABlk.mk false false 3 1 (Cs.arr nq fun k => List.map AC.v ((fun i => [Value.int IntKind.i64 (fq i)]) k))), some (ABlk.mk false false 130 0 (Cs.lit [AC.v (Value.int IntKind.i64 (Cfg.nodes c)), AC.sl 0 0 0 (Cfg.np c) none, AC.sl 1 0 0 (Cfg.ns c) none, AC.v (Value.int IntKind.i64 (Cfg.long c)), AC.sl 2 0 0 (Cfg.nb c) none, AC.sl 3 0 0 (Cfg.nt c) none, AC.v (Value.int IntKind.i64 (Cfg.miss c)), AC.v (Value.int IntKind.i64 (Cfg.good c)), AC.v (Value.int IntKind.i64 (Cfg.fresh c)), AC.sl 4 0 0 nq none])), some (ABlk.mk true false 32 0 (Cs.lit (vwL v)))] 25 1004 (mkFr 25 [(4, i64 (Int.ofNat (cntF (inB c nq fq v) 8))), (5, i64 (Int.ofNat (cntF (hasB c nq fq) 8)))]) [] 100000000000000000000000000000000000000000000000000 (Exit.exit 0) none])) :
    ∃ p r, vwE (ENf Tryd.prog) 69 c nq fq v [] p [some ⟨[0, 3, 4, 5, 7], netIds ++ [1000], mkFr 25 [(4, i64 (Int.ofNat (cntF (inB c nq fq v) 8))), (5, i64 (Int.ofNat (cntF (hasB c nq fq) 8)))], [], 100000000000000000000000000000000000000000000000000, .exit 0⟩] = some r ∧ Q r := by
  exact ⟨([] : List Dec), _, by kernel_rfl, H⟩
end Go.Proofs.YtgfmjbfjodidpaaDoor
end
/- Contracts of sennitref03.Distance, and of both Places. -/
section
namespace Go.Proofs.YtgfmjbfjodidpaaDoor
open Go.RowKit

theorem succ_mod {n x : Int} (hn : 0 < n) : (x + 1) % n = if x % n = n - 1 then 0 else x % n + 1 := by
  have h1 := Int.emod_nonneg x (show n ≠ 0 by omega)
  have h2 := Int.emod_lt_of_pos x hn
  have e : (x + 1) % n = (x % n + 1) % n := by rw [Int.emod_add_emod]
  rw [e]
  split
  · rename_i h
    rw [h, show n - 1 + 1 = n by omega, Int.emod_self]
  · exact Int.emod_eq_of_lt (by omega) (by omega)
theorem pred_mod {n x : Int} (hn : 0 < n) : (x - 1) % n = if x % n = 0 then n - 1 else x % n - 1 := by
  have h1 := Int.emod_nonneg x (show n ≠ 0 by omega)
  have h2 := Int.emod_lt_of_pos x hn
  have e : (x - 1) % n = (x % n - 1) % n := by rw [Int.emod_sub_emod]
  rw [e]
  split
  · rename_i h
    rw [h, show (0 : Int) - 1 = (n - 1) - n by omega, Int.sub_emod_right]
    exact Int.emod_eq_of_lt (by omega) (by omega)
  · exact Int.emod_eq_of_lt (by omega) (by omega)
/-- the place behind so many steps -/
def goF (n d a : Int) (k : Nat) : Int := if d = 0 then (a + k) % n else (a - k) % n
theorem goF_in {n d a : Int} (hn : 0 < n) (k : Nat) : 0 ≤ goF n d a k ∧ goF n d a k < n := by
  unfold goF
  split <;> exact ⟨Int.emod_nonneg _ (by omega), Int.emod_lt_of_pos _ hn⟩
theorem goF_succ {n d a : Int} (hn : 0 < n) (k : Nat) : goF n d a (k + 1) = if d = 0 then (if goF n d a k = n - 1 then 0 else goF n d a k + 1) else (if goF n d a k = 0 then n - 1 else goF n d a k - 1) := by
  unfold goF
  split
  · rw [show a + ((k + 1 : Nat) : Int) = a + k + 1 by omega]
    exact succ_mod hn
  · rw [show a - ((k + 1 : Nat) : Int) = a - k - 1 by omega]
    exact pred_mod hn
/-- one is reached behind so many steps as it is far -/
theorem goF_hit {n d a b : Int} (hn : 0 < n) (hb : 0 ≤ b ∧ b < n) {k : Nat} {z : Int} (hz : z = if d = 0 then (b - a) % n else (a - b) % n) (hk : (k : Int) ≤ z) : goF n d a k = b ↔ (k : Int) = z := by
  have hz1 : 0 ≤ z ∧ z < n := by rw [hz]; split <;> exact ⟨Int.emod_nonneg _ (by omega), Int.emod_lt_of_pos _ hn⟩
  unfold goF
  by_cases hd : d = 0
  · rw [if_pos hd] at hz ⊢
    constructor
    · intro h
      have e : (a + k - b) % n = 0 := by rw [Int.sub_emod, h, Int.emod_eq_of_lt hb.1 hb.2, Int.sub_self, Int.zero_emod]
      have e2 : (k - z) % n = 0 := by
        rw [hz, Int.sub_emod, Int.emod_emod_of_dvd _ (Int.dvd_refl n), ← Int.sub_emod, show (k : Int) - (b - a) = a + k - b by omega]
        exact e
      have := Int.emod_eq_of_lt (a := z - k) (b := n) (by omega) (by omega)
      have e3 : (z - k) % n = 0 := by
        have := Int.emod_eq_zero_of_dvd ((Int.dvd_neg).2 (Int.dvd_of_emod_eq_zero e2))
        rwa [Int.neg_sub] at this
      omega
    · intro h
      rw [h, hz, Int.add_emod, Int.emod_emod_of_dvd _ (Int.dvd_refl n), ← Int.add_emod, show a + (b - a) = b by omega]
      exact Int.emod_eq_of_lt hb.1 hb.2
  · rw [if_neg hd] at hz ⊢
    constructor
    · intro h
      have e : (a - k - b) % n = 0 := by rw [Int.sub_emod, h, Int.emod_eq_of_lt hb.1 hb.2, Int.sub_self, Int.zero_emod]
      have e2 : (z - k) % n = 0 := by
        rw [hz, Int.sub_emod, Int.emod_emod_of_dvd _ (Int.dvd_refl n), ← Int.sub_emod, show a - b - (k : Int) = a - k - b by omega]
        exact e
      have := Int.emod_eq_of_lt (a := z - k) (b := n) (by omega) (by omega)
      omega
    · intro h
      rw [h, hz, Int.sub_emod, Int.emod_emod_of_dvd _ (Int.dvd_refl n), ← Int.sub_emod, show a - (a - b) = b by omega]
      exact Int.emod_eq_of_lt hb.1 hb.2
theorem dist_in {n d a b : Int} (h : (ringB n d && (nodeB n a && nodeB n b)) = true) : distF n d a b = (if d = 0 then (b - a) % n else (a - b) % n) ∧ 0 ≤ distF n d a b ∧ distF n d a b < n := by
  have e : distF n d a b = (if d = 0 then (b - a) % n else (a - b) % n) := by unfold distF; rw [if_pos h]
  simp [ringB, nodeB] at h
  refine ⟨e, ?_⟩
  rw [e]
  split <;> exact ⟨Int.emod_nonneg _ (by omega), Int.emod_lt_of_pos _ (by omega)⟩
theorem rd_sum (n d a b : Int) (hd : 0 ≤ d) (h : (ringB n d && (nodeB n a && nodeB n b)) = true) :
    LoopV Tryd.prog (loopAt Tryd.prog 127 0) [0, 1, 2, 3, 9] [] ((rdV n d b a 0).map some) [] 42 1035 (mkFr 42 [(9, i64 (distF n d a b))]) [] 100000000000000000000000000000000000000000000000000 (.exit 0) none := by
  obtain ⟨e1, e2, e3⟩ := dist_in h
  generalize hz : distF n d a b = z at *
  obtain ⟨j, rfl⟩ := Int.eq_ofNat_of_zero_le e2
  simp [ringB, nodeB] at h
  have hg0 : goF n d a 0 = a := by unfold goF; split <;> simp <;> exact Int.emod_eq_of_lt (by omega) (by omega)
  have hn : 0 < n := by omega
  rw [show rdV n d b a 0 = rdV n d b (goF n d a 0) 0 by rw [hg0]]
  refine loop_view hE1 (fuel := 100) (str := 10000000000000000000000000000000000000000) (nh := 1000000000000000000000000000000000000000000) (n := 1035) (n' := 100000000000000000000000000000000000000000000000000) (S := Nat) (fun k => k ≤ j) (fun k => j - k) [0, 1, 2, 3, 9] [] [] (fun k => rdV n d b (goF n d a k) k) (fun _ => []) (by decide) (by decide) (by unfold lim; omega) (s0 := 0) (by omega) (fun _ => ⟨rfl, rfl⟩) (by kernel_rfl) (fun k _ => ⟨rfl, fun b hb => by cases hb⟩) ?_
  intro k hk
  refine (?_ : (∃ p r, rdR Tryd.prog n d b (goF n d a k) k p = some r ∧ _) → _) (rd3 n d b (goF n d a k) k (StepV 1035 100000000000000000000000000000000000000000000000000 42 [0, 1, 2, 3, 9] [] [] (fun k => k ≤ j) (fun k => j - k) (fun k => rdV n d b (goF n d a k) k) (fun _ => []) (.exit 0) [(9, i64 (j : Int))] [] k) ?_)
  · rintro ⟨p, r, h1, h2⟩
    exact ⟨p, [], r, h1, h2⟩
  · have hit := goF_hit hn ⟨h.2.2.1, h.2.2.2⟩ e1 (k := k) (by omega)
    have hin := goF_in (d := d) (a := a) hn k
    have hs := goF_succ (d := d) (a := a) hn k
    generalize hx : goF n d a k = x at *
    have w1 : IntKind.wrap IntKind.i64 (n - Int.ofNat 1) = n - 1 := wrap_nat _ (by simp; omega) (by simp; omega)
    have w2 : IntKind.wrap IntKind.i64 (x + Int.ofNat 1) = x + 1 := wrap_nat _ (by simp; omega) (by simp; omega)
    have w3 : IntKind.wrap IntKind.i64 (x - Int.ofNat 1) = x - 1 := wrap_nat _ (by simp; omega) (by simp; omega)
    have w4 := wrap_nat1 k (by omega)
    simp only [w1, w2, w3, w4]
    (repeat' (first | refine ⟨fun h => ?_, fun h => ?_⟩ | fail))
    all_goals (simp only [bne_iff_ne, ne_eq, beq_iff_eq, Bool.not_eq_true', beq_eq_false_iff_ne, bne_eq_false_iff_eq, Int.ofNat_eq_natCast, Int.cast_ofNat_Int] at *)
    all_goals (first
      | (refine ⟨(by simp_all [allT]), rfl, (by dsimp only; omega), rfl, .inl ⟨rfl, k + 1, (by omega), (by show j - (k + 1) < j - k; omega), ?_, trivial⟩⟩
         simp_all [rdV, lkA, i64])
      | (refine ⟨(by simp_all [allT]), rfl, (by dsimp only; omega), rfl, .inr ⟨by simp, rfl, (fun q hq => ?_), fun p hpp => (by cases hpp)⟩⟩
         rw [List.mem_singleton.1 hq]
         have : k = j := by omega
         subst this
         exact ⟨rfl, by simp [lkA]⟩))
end Go.Proofs.YtgfmjbfjodidpaaDoor
end
/- clocks.Ahead, sennitref06: as the evaluator runs them. -/
section
namespace Go.Proofs.YtgfmjbfjodidpaaDoor
open Go.RowKit

def ctsAg : List (FuncId × CtF) := (57, ctCkAge) :: ctNets
theorem ctsAg_ok : ∀ f g, (f, g) ∈ ctsAg → CtOk Tryd.prog f g := by
  intro f g h
  rcases List.mem_cons.1 h with h | h
  · cases h; exact ct_ckAge
  · exact ctNets_ok f g h
def ENag (P : Program) : Env := ⟨P, ctsAg⟩
theorem hENag : EnvOk (ENag Tryd.prog) := envOk ctsAg_ok (by kernel_rfl) (by kernel_rfl)
def ckAheadE (P : Program) (c : Cfg) (nq : Nat) (fq : Nat → Int) (x y z : Int) (path : List Dec) : Option VF := ntE (ENag P) 60 c nq fq [tmA x y z] path []
theorem ckAhead (c : Cfg) (nq : Nat) (fq : Nat → Int) (x y z : Int) (Q : VF → Prop) (H : (((agE c x y z != Int.ofNat 0) = true → Q (AV.c (AC.v (Value.int IntKind.i64 (Int.negSucc 0))), [], 1012, [(agE c x y z != Int.ofNat 0) == true, netK c nq fq, agP (NetS.mk c nq fq [AV.agg [AC.v (Value.int IntKind.i64 x), AC.v (Value.int IntKind.i64 y), AC.v (Value.int IntKind.i64 z)]]), true, true, true, true], [])) ∧ ((agE c x y z != Int.ofNat 0) = false → Q (AV.c (AC.v (Value.int IntKind.i64 (IntKind.wrap IntKind.i64 (IntKind.wrap IntKind.i64 (x * ↑(Cfg.ns c)) + y)))), [], 130000000000000000000000000000000000001011, [true, true, true, true, true, (agE c x y z != Int.ofNat 0) == false, netK c nq fq, agP (NetS.mk c nq fq [AV.agg [AC.v (Value.int IntKind.i64 x), AC.v (Value.int IntKind.i64 y), AC.v (Value.int IntKind.i64 z)]]), true, true, true, true], [])))) :
    ∃ p r, ckAheadE Tryd.prog c nq fq x y z p = some r ∧ Q r := by
  rcases Bool.eq_false_or_eq_true (agE c x y z != Int.ofNat 0) with h2 | h2
  · have g2 := H.1 h2
    exact ⟨([.b true] : List Dec), _, by kernel_rfl, g2⟩
  · have g2 := H.2 h2
    exact ⟨([.b false] : List Dec), _, by kernel_rfl, g2⟩
/-- a function of a config and plain values -/
def cfE (E : Env) (f : FuncId) (c : Cfg) (r : List AV) (path : List Dec) (lp : List (Option LSum)) : Option VF := viewF [] (fCallF E (fC E 300) f (.agg (cfgC c) :: r) 1000 10000000000000000000000000000000000000000 (stA (cfgM c) path lp))
theorem rfAge (c : Cfg) (x y z : Int) (Q : VF → Prop) (H : (((decide (x < Int.ofNat 0)) = true → Q (AV.tup [AV.c (AC.v (Value.int IntKind.i64 (Int.ofNat 0))), AV.c (AC.v (Value.int IntKind.i64 (Int.ofNat 1)))], [], 1019, [decide (x < Int.ofNat 0) == true, true, true], [])) ∧ ((decide (x < Int.ofNat 0)) = false → (((decide (x > Int.ofNat 1099511627776)) = true → Q (AV.tup [AV.c (AC.v (Value.int IntKind.i64 (Int.ofNat 0))), AV.c (AC.v (Value.int IntKind.i64 (Int.ofNat 1)))], [], 1022, [decide (x > Int.ofNat 1099511627776) == true, true, true, decide (x < Int.ofNat 0) == false, true, true], [])) ∧ ((decide (x > Int.ofNat 1099511627776)) = false → (((decide (y < Int.ofNat 0)) = true → Q (AV.tup [AV.c (AC.v (Value.int IntKind.i64 (Int.ofNat 0))), AV.c (AC.v (Value.int IntKind.i64 (Int.ofNat 1)))], [], 1025, [decide (y < Int.ofNat 0) == true, true, true, decide (x > Int.ofNat 1099511627776) == false, true, true, decide (x < Int.ofNat 0) == false, true, true], [])) ∧ ((decide (y < Int.ofNat 0)) = false → (((decide (y ≥ ↑(Cfg.ns c))) = true → Q (AV.tup [AV.c (AC.v (Value.int IntKind.i64 (Int.ofNat 0))), AV.c (AC.v (Value.int IntKind.i64 (Int.ofNat 1)))], [], 1031, [decide (y ≥ ↑(Cfg.ns c)) == true, true, true, true, decide (y < Int.ofNat 0) == false, true, true, decide (x > Int.ofNat 1099511627776) == false, true, true, decide (x < Int.ofNat 0) == false, true, true], [])) ∧ ((decide (y ≥ ↑(Cfg.ns c))) = false → (((decide (z < Int.ofNat 0)) = true → Q (AV.tup [AV.c (AC.v (Value.int IntKind.i64 (Int.ofNat 0))), AV.c (AC.v (Value.int IntKind.i64 (Int.ofNat 1)))], [], 1034, [decide (z < Int.ofNat 0) == true, true, true, decide (y ≥ ↑(Cfg.ns c)) == false, true, true, true, decide (y < Int.ofNat 0) == false, true, true, decide (x > Int.ofNat 1099511627776) == false, true, true, decide (x < Int.ofNat 0) == false, true, true], [])) ∧ ((decide (z < Int.ofNat 0)) = false → (((decide (z ≥ Cfg.long c)) = true → Q (AV.tup [AV.c (AC.v (Value.int IntKind.i64 (Int.ofNat 0))), AV.c (AC.v (Value.int IntKind.i64 (Int.ofNat 1)))], [], 1039, [decide (z ≥ Cfg.long c) == true, true, true, true, true, decide (z < Int.ofNat 0) == false, true, true, decide (y ≥ ↑(Cfg.ns c)) == false, true, true, true, decide (y < Int.ofNat 0) == false, true, true, decide (x > Int.ofNat 1099511627776) == false, true, true, decide (x < Int.ofNat 0) == false, true, true], [])) ∧ ((decide (z ≥ Cfg.long c)) = false → (((decide (IntKind.wrap IntKind.i64 (IntKind.wrap IntKind.i64 (x * IntKind.wrap IntKind.i64 (↑(Cfg.ns c) * Cfg.long c)) + IntKind.wrap IntKind.i64 (IntKind.wrap IntKind.i64 (y * Cfg.long c) + z)) > Int.ofNat 1099511627776)) = true → Q (AV.tup [AV.c (AC.v (Value.int IntKind.i64 (Int.ofNat 0))), AV.c (AC.v (Value.int IntKind.i64 (Int.ofNat 1)))], [], 150000000000000000000000000000000000001041, [decide (IntKind.wrap IntKind.i64 (IntKind.wrap IntKind.i64 (x * IntKind.wrap IntKind.i64 (↑(Cfg.ns c) * Cfg.long c)) + IntKind.wrap IntKind.i64 (IntKind.wrap IntKind.i64 (y * Cfg.long c) + z)) > Int.ofNat 1099511627776) == true, true, true, true, true, true, true, true, true, true, true, true, true, true, true, true, true, true, decide (z ≥ Cfg.long c) == false, true, true, true, true, decide (z < Int.ofNat 0) == false, true, true, decide (y ≥ ↑(Cfg.ns c)) == false, true, true, true, decide (y < Int.ofNat 0) == false, true, true, decide (x > Int.ofNat 1099511627776) == false, true, true, decide (x < Int.ofNat 0) == false, true, true], [])) ∧ ((decide (IntKind.wrap IntKind.i64 (IntKind.wrap IntKind.i64 (x * IntKind.wrap IntKind.i64 (↑(Cfg.ns c) * Cfg.long c)) + IntKind.wrap IntKind.i64 (IntKind.wrap IntKind.i64 (y * Cfg.long c) + z)) > Int.ofNat 1099511627776)) = false → Q (AV.tup [AV.c (AC.v (Value.int IntKind.i64 (IntKind.wrap IntKind.i64 (IntKind.wrap IntKind.i64 (x * IntKind.wrap IntKind.i64 (↑(Cfg.ns c) * Cfg.long c)) + IntKind.wrap IntKind.i64 (IntKind.wrap IntKind.i64 (y * Cfg.long c) + z))))), AV.c (AC.v (Value.int IntKind.i64 (Int.ofNat 0)))], [], 150000000000000000000000000000000000001042, [decide (IntKind.wrap IntKind.i64 (IntKind.wrap IntKind.i64 (x * IntKind.wrap IntKind.i64 (↑(Cfg.ns c) * Cfg.long c)) + IntKind.wrap IntKind.i64 (IntKind.wrap IntKind.i64 (y * Cfg.long c) + z)) > Int.ofNat 1099511627776) == false, true, true, true, true, true, true, true, true, true, true, true, true, true, true, true, true, true, decide (z ≥ Cfg.long c) == false, true, true, true, true, decide (z < Int.ofNat 0) == false, true, true, decide (y ≥ ↑(Cfg.ns c)) == false, true, true, true, decide (y < Int.ofNat 0) == false, true, true, decide (x > Int.ofNat 1099511627776) == false, true, true, decide (x < Int.ofNat 0) == false, true, true], [])))))))))))))))) :
    ∃ p r, cfE (E1 Tryd.prog) 58 c [tmA x y z] p [] = some r ∧ Q r := by
  rcases Bool.eq_false_or_eq_true (decide (x < Int.ofNat 0)) with h2 | h2
  · have g2 := H.1 h2
    exact ⟨([.b true, .a, .a, .a, .a, .a, .a, .a, .a, .a, .a, .a, .a, .a, .a, .a, .a, .a, .a, .a, .a] : List Dec), _, by kernel_rfl, g2⟩
  · have g2 := H.2 h2
    rcases Bool.eq_false_or_eq_true (decide (x > Int.ofNat 1099511627776)) with h4 | h4
    · have g4 := g2.1 h4
      exact ⟨([.b false, .a, .a, .b true, .a, .a, .a, .a, .a, .a, .a, .a, .a, .a, .a, .a, .a, .a, .a, .a, .a] : List Dec), _, by kernel_rfl, g4⟩
    · have g4 := g2.2 h4
      rcases Bool.eq_false_or_eq_true (decide (y < Int.ofNat 0)) with h6 | h6
      · have g6 := g4.1 h6
        exact ⟨([.b false, .a, .a, .b false, .a, .a, .b true, .a, .a, .a, .a, .a, .a, .a, .a, .a, .a, .a, .a, .a, .a] : List Dec), _, by kernel_rfl, g6⟩
      · have g6 := g4.2 h6
        rcases Bool.eq_false_or_eq_true (decide (y ≥ ↑(Cfg.ns c))) with h8 | h8
        · have g8 := g6.1 h8
          exact ⟨([.b false, .a, .a, .b false, .a, .a, .b false, .a, .a, .a, .a, .a, .b true, .a, .a, .a, .a, .a, .a, .a, .a] : List Dec), _, by kernel_rfl, g8⟩
        · have g8 := g6.2 h8
          rcases Bool.eq_false_or_eq_true (decide (z < Int.ofNat 0)) with h10 | h10
          · have g10 := g8.1 h10
            exact ⟨([.b false, .a, .a, .b false, .a, .a, .b false, .a, .a, .a, .a, .a, .b false, .a, .a, .b true, .a, .a, .a, .a, .a] : List Dec), _, by kernel_rfl, g10⟩
          · have g10 := g8.2 h10
            rcases Bool.eq_false_or_eq_true (decide (z ≥ Cfg.long c)) with h12 | h12
            · have g12 := g10.1 h12
              exact ⟨([.b false, .a, .a, .b false, .a, .a, .b false, .a, .a, .a, .a, .a, .b false, .a, .a, .b false, .a, .a, .a, .a, .b true] : List Dec), _, by kernel_rfl, g12⟩
            · have g12 := g10.2 h12
              rcases Bool.eq_false_or_eq_true (decide (IntKind.wrap IntKind.i64 (IntKind.wrap IntKind.i64 (x * IntKind.wrap IntKind.i64 (↑(Cfg.ns c) * Cfg.long c)) + IntKind.wrap IntKind.i64 (IntKind.wrap IntKind.i64 (y * Cfg.long c) + z)) > Int.ofNat 1099511627776)) with h14 | h14
              · have g14 := g12.1 h14
                exact ⟨([.b false, .a, .a, .b false, .a, .a, .b false, .a, .a, .a, .a, .a, .b false, .a, .a, .b false, .a, .a, .a, .a, .b false, .b true] : List Dec), _, by kernel_rfl, g14⟩
              · have g14 := g12.2 h14
                exact ⟨([.b false, .a, .a, .b false, .a, .a, .b false, .a, .a, .a, .a, .a, .b false, .a, .a, .b false, .a, .a, .a, .a, .b false, .b false] : List Dec), _, by kernel_rfl, g14⟩
theorem rfAhead (c : Cfg) (x y z : Int) (Q : VF → Prop) (H : (((decide (x < Int.ofNat 0)) = true → Q (AV.c (AC.v (Value.int IntKind.i64 (Int.negSucc 0))), [], 1032, [decide (x < Int.ofNat 0) == true, true, true, true, true, true, true, true, true, true, true, true, true], [])) ∧ ((decide (x < Int.ofNat 0)) = false → (((decide (x > Int.ofNat 1099511627776)) = true → Q (AV.c (AC.v (Value.int IntKind.i64 (Int.negSucc 0))), [], 1035, [decide (x > Int.ofNat 1099511627776) == true, true, true, decide (x < Int.ofNat 0) == false, true, true, true, true, true, true, true, true, true, true, true, true], [])) ∧ ((decide (x > Int.ofNat 1099511627776)) = false → (((decide (y < Int.ofNat 0)) = true → Q (AV.c (AC.v (Value.int IntKind.i64 (Int.negSucc 0))), [], 1038, [decide (y < Int.ofNat 0) == true, true, true, decide (x > Int.ofNat 1099511627776) == false, true, true, decide (x < Int.ofNat 0) == false, true, true, true, true, true, true, true, true, true, true, true, true], [])) ∧ ((decide (y < Int.ofNat 0)) = false → (((decide (y ≥ ↑(Cfg.ns c))) = true → Q (AV.c (AC.v (Value.int IntKind.i64 (Int.negSucc 0))), [], 1044, [decide (y ≥ ↑(Cfg.ns c)) == true, true, true, true, decide (y < Int.ofNat 0) == false, true, true, decide (x > Int.ofNat 1099511627776) == false, true, true, decide (x < Int.ofNat 0) == false, true, true, true, true, true, true, true, true, true, true, true, true], [])) ∧ ((decide (y ≥ ↑(Cfg.ns c))) = false → (((decide (z < Int.ofNat 0)) = true → Q (AV.c (AC.v (Value.int IntKind.i64 (Int.negSucc 0))), [], 1047, [decide (z < Int.ofNat 0) == true, true, true, decide (y ≥ ↑(Cfg.ns c)) == false, true, true, true, decide (y < Int.ofNat 0) == false, true, true, decide (x > Int.ofNat 1099511627776) == false, true, true, decide (x < Int.ofNat 0) == false, true, true, true, true, true, true, true, true, true, true, true, true], [])) ∧ ((decide (z < Int.ofNat 0)) = false → (((decide (z ≥ Cfg.long c)) = true → Q (AV.c (AC.v (Value.int IntKind.i64 (Int.negSucc 0))), [], 1052, [decide (z ≥ Cfg.long c) == true, true, true, true, true, decide (z < Int.ofNat 0) == false, true, true, decide (y ≥ ↑(Cfg.ns c)) == false, true, true, true, decide (y < Int.ofNat 0) == false, true, true, decide (x > Int.ofNat 1099511627776) == false, true, true, decide (x < Int.ofNat 0) == false, true, true, true, true, true, true, true, true, true, true, true, true], [])) ∧ ((decide (z ≥ Cfg.long c)) = false → (((decide (IntKind.wrap IntKind.i64 (IntKind.wrap IntKind.i64 (x * IntKind.wrap IntKind.i64 (↑(Cfg.ns c) * Cfg.long c)) + IntKind.wrap IntKind.i64 (IntKind.wrap IntKind.i64 (y * Cfg.long c) + z)) > Int.ofNat 1099511627776)) = true → Q (AV.c (AC.v (Value.int IntKind.i64 (Int.negSucc 0))), [], 150000000000000000000000000000000000001054, [decide (IntKind.wrap IntKind.i64 (IntKind.wrap IntKind.i64 (x * IntKind.wrap IntKind.i64 (↑(Cfg.ns c) * Cfg.long c)) + IntKind.wrap IntKind.i64 (IntKind.wrap IntKind.i64 (y * Cfg.long c) + z)) > Int.ofNat 1099511627776) == true, true, true, true, true, true, true, true, true, true, true, true, true, true, true, true, true, true, decide (z ≥ Cfg.long c) == false, true, true, true, true, decide (z < Int.ofNat 0) == false, true, true, decide (y ≥ ↑(Cfg.ns c)) == false, true, true, true, decide (y < Int.ofNat 0) == false, true, true, decide (x > Int.ofNat 1099511627776) == false, true, true, decide (x < Int.ofNat 0) == false, true, true, true, true, true, true, true, true, true, true, true, true], [])) ∧ ((decide (IntKind.wrap IntKind.i64 (IntKind.wrap IntKind.i64 (x * IntKind.wrap IntKind.i64 (↑(Cfg.ns c) * Cfg.long c)) + IntKind.wrap IntKind.i64 (IntKind.wrap IntKind.i64 (y * Cfg.long c) + z)) > Int.ofNat 1099511627776)) = false → Q (AV.c (AC.v (Value.int IntKind.i64 (IntKind.wrap IntKind.i64 (IntKind.wrap IntKind.i64 (x * ↑(Cfg.ns c)) + y)))), [], 150000000000000000000000000000000000001064, [true, true, true, true, true, decide (IntKind.wrap IntKind.i64 (IntKind.wrap IntKind.i64 (x * IntKind.wrap IntKind.i64 (↑(Cfg.ns c) * Cfg.long c)) + IntKind.wrap IntKind.i64 (IntKind.wrap IntKind.i64 (y * Cfg.long c) + z)) > Int.ofNat 1099511627776) == false, true, true, true, true, true, true, true, true, true, true, true, true, true, true, true, true, true, decide (z ≥ Cfg.long c) == false, true, true, true, true, decide (z < Int.ofNat 0) == false, true, true, decide (y ≥ ↑(Cfg.ns c)) == false, true, true, true, decide (y < Int.ofNat 0) == false, true, true, decide (x > Int.ofNat 1099511627776) == false, true, true, decide (x < Int.ofNat 0) == false, true, true, true, true, true, true, true, true, true, true, true, true], [])))))))))))))))) :
    ∃ p r, cfE (E1 Tryd.prog) 61 c [tmA x y z] p [] = some r ∧ Q r := by
  rcases Bool.eq_false_or_eq_true (decide (x < Int.ofNat 0)) with h2 | h2
  · have g2 := H.1 h2
    exact ⟨([.b true, .a, .a, .a, .a, .a, .a, .a, .a, .a, .a, .a, .a, .a, .a, .a, .a, .a, .a, .a, .a, .a] : List Dec), _, by kernel_rfl, g2⟩
  · have g2 := H.2 h2
    rcases Bool.eq_false_or_eq_true (decide (x > Int.ofNat 1099511627776)) with h4 | h4
    · have g4 := g2.1 h4
      exact ⟨([.b false, .a, .a, .b true, .a, .a, .a, .a, .a, .a, .a, .a, .a, .a, .a, .a, .a, .a, .a, .a, .a, .a] : List Dec), _, by kernel_rfl, g4⟩
    · have g4 := g2.2 h4
      rcases Bool.eq_false_or_eq_true (decide (y < Int.ofNat 0)) with h6 | h6
      · have g6 := g4.1 h6
        exact ⟨([.b false, .a, .a, .b false, .a, .a, .b true, .a, .a, .a, .a, .a, .a, .a, .a, .a, .a, .a, .a, .a, .a, .a] : List Dec), _, by kernel_rfl, g6⟩
      · have g6 := g4.2 h6
        rcases Bool.eq_false_or_eq_true (decide (y ≥ ↑(Cfg.ns c))) with h8 | h8
        · have g8 := g6.1 h8
          exact ⟨([.b false, .a, .a, .b false, .a, .a, .b false, .a, .a, .a, .a, .a, .b true, .a, .a, .a, .a, .a, .a, .a, .a, .a] : List Dec), _, by kernel_rfl, g8⟩
        · have g8 := g6.2 h8
          rcases Bool.eq_false_or_eq_true (decide (z < Int.ofNat 0)) with h10 | h10
          · have g10 := g8.1 h10
            exact ⟨([.b false, .a, .a, .b false, .a, .a, .b false, .a, .a, .a, .a, .a, .b false, .a, .a, .b true, .a, .a, .a, .a, .a, .a] : List Dec), _, by kernel_rfl, g10⟩
          · have g10 := g8.2 h10
            rcases Bool.eq_false_or_eq_true (decide (z ≥ Cfg.long c)) with h12 | h12
            · have g12 := g10.1 h12
              exact ⟨([.b false, .a, .a, .b false, .a, .a, .b false, .a, .a, .a, .a, .a, .b false, .a, .a, .b false, .a, .a, .a, .a, .b true, .a] : List Dec), _, by kernel_rfl, g12⟩
            · have g12 := g10.2 h12
              rcases Bool.eq_false_or_eq_true (decide (IntKind.wrap IntKind.i64 (IntKind.wrap IntKind.i64 (x * IntKind.wrap IntKind.i64 (↑(Cfg.ns c) * Cfg.long c)) + IntKind.wrap IntKind.i64 (IntKind.wrap IntKind.i64 (y * Cfg.long c) + z)) > Int.ofNat 1099511627776)) with h14 | h14
              · have g14 := g12.1 h14
                exact ⟨([.b false, .a, .a, .b false, .a, .a, .b false, .a, .a, .a, .a, .a, .b false, .a, .a, .b false, .a, .a, .a, .a, .b false, .b true, .a] : List Dec), _, by kernel_rfl, g14⟩
              · have g14 := g12.2 h14
                exact ⟨([.b false, .a, .a, .b false, .a, .a, .b false, .a, .a, .a, .a, .a, .b false, .a, .a, .b false, .a, .a, .a, .a, .b false, .b false, .a] : List Dec), _, by kernel_rfl, g14⟩
abbrev tmB (x y z : Int) : ABlk := ⟨true, false, 112, 0, .lit [.v (.int .i64 x), .v (.int .i64 y), .v (.int .i64 z)]⟩
abbrev roV (l : Int) : List AV := [.c (.ptr 1000 0 0), .c (.ptr 1001 0 0), .c (.ptr 1022 0 0), i64 l]
abbrev roB (c : Cfg) (t : Int) (k : Nat) : List ABlk := [cfgB c, tmB 0 0 0, tmB t (Int.ofNat k) 0]
def roR (P : Program) (c : Cfg) (t l : Int) (k : Nat) (path : List Dec) : Option VC :=
  view ([2, 4, 6, 7] ++ []) [1000, 1001, 1022] (fC (E1 P) 100 (loopAt P 56 0) 1000000000000000000000000000000000000000000 10000000000000000000000000000000000000000 (stH 42 [2, 4, 6, 7] [1000, 1001, 1022] (roV l) (roB c t k) path []))
theorem ro (c : Cfg) (t l : Int) (k : Nat) (Q : VC → Prop) (H : (((decide (l ≥ Cfg.long c)) = true → Q (Exit.normal, [some (lkA (List.zip [2, 4, 6, 7] (roV l)) (0 + 1 + 1)), some (lkA (List.zip [2, 4, 6, 7] (roV l)) (0 + 1 + 1 + 1 + 1)), some (lkA (List.zip [2, 4, 6, 7] (roV l)) (0 + 1 + 1 + 1 + 1 + 1 + 1)), some (AV.c (AC.v (Value.int IntKind.i64 (IntKind.wrap IntKind.i64 (l - Cfg.long c)))))], [some (ABlk.mk true false 25 0 (Cs.lit [AC.v (Value.int IntKind.i64 (Cfg.nodes c)), AC.sl 0 0 0 (Cfg.np c) none, AC.sl 1 0 0 (Cfg.ns c) none, AC.v (Value.int IntKind.i64 (Cfg.long c)), AC.sl 2 0 0 (Cfg.nb c) none, AC.sl 3 0 0 (Cfg.nt c) none, AC.v (Value.int IntKind.i64 (Cfg.miss c)), AC.v (Value.int IntKind.i64 (Cfg.good c)), AC.v (Value.int IntKind.i64 (Cfg.fresh c))])), some (ABlk.mk true false 112 0 (Cs.lit [AC.v (Value.int IntKind.i64 (Int.ofNat 0)), AC.v (Value.int IntKind.i64 (Int.ofNat 0)), AC.v (Value.int IntKind.i64 (Int.ofNat 0))])), some (ABlk.mk true false 112 0 (Cs.lit [AC.v (Value.int IntKind.i64 t), AC.v (Value.int IntKind.i64 (IntKind.wrap IntKind.i64 (Int.ofNat k + Int.ofNat 1))), AC.v (Value.int IntKind.i64 (Int.ofNat 0))]))], 42, 1000000000000000000000000000000000000000014, [true, true, true, true, true, decide (l ≥ Cfg.long c) == true, true, true], [])) ∧ ((decide (l ≥ Cfg.long c)) = false → Q (Exit.exit 0, [some (lkA (List.zip [2, 4, 6, 7] (roV l)) (0 + 1 + 1)), some (lkA (List.zip [2, 4, 6, 7] (roV l)) (0 + 1 + 1 + 1 + 1)), some (lkA (List.zip [2, 4, 6, 7] (roV l)) (0 + 1 + 1 + 1 + 1 + 1 + 1)), some (lkA (List.zip [2, 4, 6, 7] (roV l)) (0 + 1 + 1 + 1 + 1 + 1 + 1 + 1))], [some (ABlk.mk true false 25 0 (Cs.lit [AC.v (Value.int IntKind.i64 (Cfg.nodes c)), AC.sl 0 0 0 (Cfg.np c) none, AC.sl 1 0 0 (Cfg.ns c) none, AC.v (Value.int IntKind.i64 (Cfg.long c)), AC.sl 2 0 0 (Cfg.nb c) none, AC.sl 3 0 0 (Cfg.nt c) none, AC.v (Value.int IntKind.i64 (Cfg.miss c)), AC.v (Value.int IntKind.i64 (Cfg.good c)), AC.v (Value.int IntKind.i64 (Cfg.fresh c))])), some (ABlk.mk true false 112 0 (Cs.lit [AC.v (Value.int IntKind.i64 (Int.ofNat 0)), AC.v (Value.int IntKind.i64 (Int.ofNat 0)), AC.v (Value.int IntKind.i64 (Int.ofNat 0))])), some (ABlk.mk true false 112 0 (Cs.lit [AC.v (Value.int IntKind.i64 t), AC.v (Value.int IntKind.i64 (Int.ofNat k)), AC.v (Value.int IntKind.i64 (Int.ofNat 0))]))], 42, 1000000000000000000000000000000000000000004, [decide (l ≥ Cfg.long c) == false, true, true], [])))) :
    ∃ p r, roR Tryd.prog c t l k p = some r ∧ Q r := by
  rcases Bool.eq_false_or_eq_true (decide (l ≥ Cfg.long c)) with h2 | h2
  · have g2 := H.1 h2
    exact ⟨([.b true] : List Dec), _, by kernel_rfl, g2⟩
  · have g2 := H.2 h2
    exact ⟨([.b false] : List Dec), _, by kernel_rfl, g2⟩
abbrev roS (t l : Int) (k : Nat) : LSum := ⟨[2, 4, 6, 7], [1000, 1001, 1022], mkFr 42 [(4, .c (.ptr 1001 0 0)), (6, .c (.ptr 1022 0 0)), (7, i64 l)], [(1001, tmB 0 0 0), (1022, tmB t (Int.ofNat k) 0)], 100000000000000000000000000000000000000000000000000, .exit 0⟩
theorem rfOf (c : Cfg) (a t l : Int) (k : Nat) (Q : VF → Prop) (H : (((decide (a < Int.ofNat 0)) = true → Q (AV.tup [AV.agg [AC.v (Value.int IntKind.i64 (Int.ofNat 0)), AC.v (Value.int IntKind.i64 (Int.ofNat 0)), AC.v (Value.int IntKind.i64 (Int.ofNat 0))], AV.c (AC.v (Value.int IntKind.i64 (Int.ofNat 1)))], [], 1010, [true, true, true, true, true, decide (a < Int.ofNat 0) == true], [])) ∧ ((decide (a < Int.ofNat 0)) = false → (((decide (a > Int.ofNat 1099511627776)) = true → Q (AV.tup [AV.agg [AC.v (Value.int IntKind.i64 (Int.ofNat 0)), AC.v (Value.int IntKind.i64 (Int.ofNat 0)), AC.v (Value.int IntKind.i64 (Int.ofNat 0))], AV.c (AC.v (Value.int IntKind.i64 (Int.ofNat 1)))], [], 1012, [true, true, true, true, true, decide (a > Int.ofNat 1099511627776) == true, decide (a < Int.ofNat 0) == false], [])) ∧ ((decide (a > Int.ofNat 1099511627776)) = false → Q (AV.tup [AV.agg [AC.v (Value.int IntKind.i64 t), AC.v (Value.int IntKind.i64 (Int.ofNat k)), AC.v (Value.int IntKind.i64 l)], AV.c (AC.v (Value.int IntKind.i64 (Int.ofNat 0)))], [], 100000000000000000000000000000000000000000000000006, [true, true, true, true, true, true, true, true, true, true, true, true, true, true, true, true, true, true, true, true, true, true, decide (IntKind.wrap IntKind.i64 (↑(Cfg.ns c) * Cfg.long c) ≠ Int.ofNat 0), true, true, true, true, true, true, true, true, true, decide (a > Int.ofNat 1099511627776) == false, decide (a < Int.ofNat 0) == false], [LoopV Tryd.prog (loopAt Tryd.prog 56 0) [2, 4, 6, 7] [1000, 1001, 1022] [some (AV.c (AC.ptr 1000 0 0)), some (AV.c (AC.ptr 1001 0 0)), some (AV.c (AC.ptr 1022 0 0)), some (AV.c (AC.v (Value.int IntKind.i64 (IntKind.wrap IntKind.i64 (a - IntKind.wrap IntKind.i64 (IntKind.wrap IntKind.i64 (Int.tdiv a (IntKind.wrap IntKind.i64 (↑(Cfg.ns c) * Cfg.long c))) * IntKind.wrap IntKind.i64 (↑(Cfg.ns c) * Cfg.long c)))))))] [some (ABlk.mk true false 25 0 (Cs.lit [AC.v (Value.int IntKind.i64 (Cfg.nodes c)), AC.sl 0 0 0 (Cfg.np c) none, AC.sl 1 0 0 (Cfg.ns c) none, AC.v (Value.int IntKind.i64 (Cfg.long c)), AC.sl 2 0 0 (Cfg.nb c) none, AC.sl 3 0 0 (Cfg.nt c) none, AC.v (Value.int IntKind.i64 (Cfg.miss c)), AC.v (Value.int IntKind.i64 (Cfg.good c)), AC.v (Value.int IntKind.i64 (Cfg.fresh c))])), some (ABlk.mk true false 112 0 (Cs.lit [AC.v (Value.int IntKind.i64 (Int.ofNat 0)), AC.v (Value.int IntKind.i64 (Int.ofNat 0)), AC.v (Value.int IntKind.i64 (Int.ofNat 0))])), some (ABlk.mk true false 112 0 (Cs.lit [AC.v (Value.int IntKind.i64 (IntKind.wrap IntKind.i64 (Int.tdiv a (IntKind.wrap IntKind.i64 (↑(Cfg.ns c) * Cfg.long c))))), AC.v (Value.int IntKind.i64 (Int.ofNat 0)), AC.v (Value.int IntKind.i64 (Int.ofNat 0))]))] 42 80000000000000000000000000000000000001024 (mkFr 42 [(4, AV.c (AC.ptr 1001 0 0)), (6, AV.c (AC.ptr 1022 0 0)), (7, i64 l)]) [(1001, tmB 0 0 0), (1022, tmB t (Int.ofNat k) 0)] 100000000000000000000000000000000000000000000000000 (Exit.exit 0) none])))))) :
    ∃ p r, cfE (E1 Tryd.prog) 56 c [i64 a] p [some (roS t l k)] = some r ∧ Q r := by
  rcases Bool.eq_false_or_eq_true (decide (a < Int.ofNat 0)) with h2 | h2
  · have g2 := H.1 h2
    exact ⟨([.b true, .a, .a] : List Dec), _, by kernel_rfl, g2⟩
  · have g2 := H.2 h2
    rcases Bool.eq_false_or_eq_true (decide (a > Int.ofNat 1099511627776)) with h4 | h4
    · have g4 := g2.1 h4
      exact ⟨([.b false, .a, .b true] : List Dec), _, by kernel_rfl, g4⟩
    · have g4 := g2.2 h4
      exact ⟨([.b false, .a, .b false] : List Dec), _, by kernel_rfl, g4⟩
end Go.Proofs.YtgfmjbfjodidpaaDoor
end
