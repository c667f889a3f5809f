/- Parts, one behind the other. Contracts of clocks.Ahead, and of sennitref06. -/
import Derived.Test.YtgfmjbfjodidpaaDoorJClocksBack2
import Derived.Test.YtgfmjbfjodidpaaDoorJB19
import Derived.Test.YtgfmjbfjodidpaaDoorJClocksBack0
set_option linter.unusedSimpArgs false
set_option linter.unusedVariables false
/- Contracts of clocks.Ahead, and of sennitref06. -/
section
namespace Go.Proofs.YtgfmjbfjodidpaaDoor
open Go.RowKit

def ahR : NetS → AV
  | ⟨c, _, _, [.agg [.v (.int .i64 x), .v (.int .i64 y), .v (.int .i64 z)]]⟩ => i64 (agA c x y z)
  | _ => i64 0
def ctCkAhead : CtF := ctRd netRd ahR agP
theorem ag_small {c : Cfg} {nq : Nat} {x y z : Int} (h : ckPre c nq = true) (h2 : agOk c x y z) : 0 ≤ x ∧ x ≤ 1099511627776 ∧ 0 ≤ x * c.ns ∧ x * c.ns ≤ 17592186044416 ∧ 0 ≤ y ∧ y < 16 := by
  obtain ⟨_, r1, r2, q1, q2, q3, q4, q5⟩ := ck_round h
  obtain ⟨g1, g2, g3, g4, g5, g6, g7⟩ := h2
  unfold ckM at g2
  have a1 : x * c.ns ≤ 1099511627776 * 16 := mul_le_mul_of g1 g2 (by omega) (by omega)
  exact ⟨g1, g2, Int.mul_nonneg g1 (by omega), by omega, g3, by omega⟩
set_option maxRecDepth 100000 in
theorem ct_ckAhead : CtOk Tryd.prog 60 ctCkAhead := by
  refine ctRd_ofE (E := ENag Tryd.prog) hENag netRd (fuel := 300) (str := 10000000000000000000000000000000000000000) ⟨_, _, Tryd.func60, rfl⟩ (fun s => by unfold ahR; split <;> rfl) fun s hs => ?_
  unfold agP at hs
  split at hs
  · rename_i c nq fq x y z
    refine (?_ : (∃ p q, ckAheadE Tryd.prog c nq fq x y z p = some q ∧ GoodF (i64 (agA c x y z)) q) → _) (ckAhead c nq fq x y z _ ?_)
    · rintro ⟨p, q, h1, h2⟩
      exact ⟨p, [], q, h1, h2⟩
    · have hP : agP ⟨c, nq, fq, [.agg [.v (.int .i64 x), .v (.int .i64 y), .v (.int .i64 z)]]⟩ = true := hs
      rw [Bool.and_eq_true] at hs
      by_cases hy : agOk c x y z
      · obtain ⟨g1, g2, g3, g4, g5, g6⟩ := ag_small hs.1 hy
        have w1 : IntKind.wrap IntKind.i64 (x * ↑c.ns) = x * ↑c.ns := wrap_nat _ (by omega) (by omega)
        have w2 : IntKind.wrap IntKind.i64 (x * ↑c.ns + y) = x * ↑c.ns + y := wrap_nat _ (by omega) (by omega)
        (repeat' (first | refine ⟨fun h => ?_, fun h => ?_⟩ | fail))
        · exfalso; simp [agE, hy] at h
        · refine ⟨?_, (by first | (unfold lim; omega) | (dsimp only; unfold lim; omega)), ?_, by simp⟩
          · simp only [w1, w2]; simp [agA, hy, i64]
          · simp [allT, netK_t, hP, agE, hy]
      · (repeat' (first | refine ⟨fun h => ?_, fun h => ?_⟩ | fail))
        · refine ⟨?_, (by first | (unfold lim; omega) | (dsimp only; unfold lim; omega)), ?_, by simp⟩
          · simp [agA, hy, i64]
          · simp [allT, netK_t, hP, agE, hy]
        · exfalso; simp [agE, hy] at h
  · cases hs
def cagR : CfgS → AV
  | ⟨c, [.agg [.v (.int .i64 x), .v (.int .i64 y), .v (.int .i64 z)]]⟩ => .tup [i64 (agV c x y z), i64 (agE c x y z)]
  | _ => i64 0
def cahR : CfgS → AV
  | ⟨c, [.agg [.v (.int .i64 x), .v (.int .i64 y), .v (.int .i64 z)]]⟩ => i64 (agA c x y z)
  | _ => i64 0
def cagP : CfgS → Bool
  | ⟨c, [.agg [.v (.int .i64 _), .v (.int .i64 _), .v (.int .i64 _)]]⟩ => ckPre c 1
  | _ => false
def ctRfAge : CtF := ctRd cfgRd cagR cagP
def ctRfAhead : CtF := ctRd cfgRd cahR cagP
theorem rf_wrap {c : Cfg} {x y z : Int} (h : ckPre c 1 = true) (h1 : 0 ≤ x) (h2 : x ≤ 1099511627776) (h3 : 0 ≤ y) (h4 : y < c.ns) (h5 : 0 ≤ z) (h6 : z < c.long) :
    IntKind.wrap IntKind.i64 (IntKind.wrap IntKind.i64 (x * IntKind.wrap IntKind.i64 (↑c.ns * c.long)) + IntKind.wrap IntKind.i64 (IntKind.wrap IntKind.i64 (y * c.long) + z)) = x * (c.ns * c.long) + y * c.long + z ∧ IntKind.wrap IntKind.i64 (IntKind.wrap IntKind.i64 (x * ↑c.ns) + y) = x * c.ns + y := by
  obtain ⟨_, r1, r2, q1, q2, q3, q4, q5⟩ := ck_round h
  have a1 : x * (c.ns * c.long) ≤ 1099511627776 * 65536 := mul_le_mul_of h1 h2 (by omega) r2
  have a2 : 0 ≤ x * (c.ns * c.long) := Int.mul_nonneg h1 (by omega)
  have a3 : y * c.long ≤ 16 * 4096 := mul_le_mul_of h3 (by omega) (by omega) (by omega)
  have a4 : 0 ≤ y * c.long := Int.mul_nonneg h3 (by omega)
  have a5 : x * c.ns ≤ 1099511627776 * 16 := mul_le_mul_of h1 h2 (by omega) (by omega)
  have a6 : 0 ≤ x * c.ns := Int.mul_nonneg h1 (by omega)
  rw [wrap_nat (↑c.ns * c.long) (by omega) (by omega), wrap_nat (x * (↑c.ns * c.long)) (by omega) (by omega), wrap_nat (y * c.long) (by omega) (by omega), wrap_nat (y * c.long + z) (by omega) (by omega), wrap_nat _ (by omega) (by omega), wrap_nat (x * ↑c.ns) (by omega) (by omega), wrap_nat _ (by omega) (by omega)]
  exact ⟨by omega, rfl⟩
set_option maxRecDepth 100000 in
theorem ct_rfAge : CtOk Tryd.prog 58 ctRfAge := by
  refine ctRd_ofE (E := E1 Tryd.prog) hE1 cfgRd (fuel := 300) (str := 10000000000000000000000000000000000000000) ⟨_, _, Tryd.func58, rfl⟩ (fun s => by unfold cagR; split <;> rfl) fun s hs => ?_
  unfold cagP at hs
  split at hs
  · rename_i c x y z
    refine (?_ : (∃ p q, cfE (E1 Tryd.prog) 58 c [tmA x y z] p [] = some q ∧ GoodF (.tup [i64 (agV c x y z), i64 (agE c x y z)]) q) → _) (rfAge c x y z _ ?_)
    · rintro ⟨p, q, h1, h2⟩
      exact ⟨p, _, q, h1, h2⟩
    · have hw := fun h1 h2 h3 h4 h5 h6 => (rf_wrap (x := x) (y := y) (z := z) hs h1 h2 h3 h4 h5 h6).1
      (repeat' (first | refine ⟨fun h => ?_, fun h => ?_⟩ | fail))
      all_goals (refine ⟨?_, (by first | (unfold lim; omega) | (dsimp only; unfold lim; omega)), ?_, by simp⟩)
      all_goals (simp only [decide_eq_true_eq, decide_eq_false_iff_not, Int.ofNat_eq_natCast, Int.cast_ofNat_Int, gt_iff_lt, ge_iff_le] at *)
      all_goals first
        | (have hn : ¬ agOk c x y z := (by unfold agOk ckM; omega)
           simp [agV, agE, hn, i64]; done)
        | (have hn : ¬ agOk c x y z := (by
             unfold agOk ckM
             rintro ⟨g1, g2, g3, g4, g5, g6, g7⟩
             have := hw g1 g2 g3 g4 g5 g6
             omega)
           simp [agV, agE, hn, i64]; done)
        | (have e9 := hw (by omega) (by omega) (by omega) (by omega) (by omega) (by omega)
           have hy : agOk c x y z := (by
             unfold agOk ckM
             refine ⟨by omega, by omega, by omega, by omega, by omega, by omega, by omega⟩)
           rw [e9]
           simp [agV, agE, hy, i64]; done)
        | (simp only [allT, List.forall_mem_cons, List.not_mem_nil, false_implies, implies_true, and_true, true_and, cfgK_t, netK_t, intsOk_ints, stsOk_sts, intsOk_s, stsOk_s, beq_iff_eq, decide_eq_true_eq, decide_eq_false_iff_not, beq_eq_false_iff_ne, bne_iff_ne, bne_eq_false_iff_eq, Bool.not_eq_true', Bool.not_eq_false', ne_eq, Int.ofNat_eq_natCast, Int.cast_ofNat_Int, gt_iff_lt, ge_iff_le]; omega)
  · cases hs
set_option maxRecDepth 100000 in
theorem ct_rfAhead : CtOk Tryd.prog 61 ctRfAhead := by
  refine ctRd_ofE (E := E1 Tryd.prog) hE1 cfgRd (fuel := 300) (str := 10000000000000000000000000000000000000000) ⟨_, _, Tryd.func61, rfl⟩ (fun s => by unfold cahR; split <;> rfl) fun s hs => ?_
  unfold cagP at hs
  split at hs
  · rename_i c x y z
    refine (?_ : (∃ p q, cfE (E1 Tryd.prog) 61 c [tmA x y z] p [] = some q ∧ GoodF (i64 (agA c x y z)) q) → _) (rfAhead c x y z _ ?_)
    · rintro ⟨p, q, h1, h2⟩
      exact ⟨p, _, q, h1, h2⟩
    · have hw := fun h1 h2 h3 h4 h5 h6 => (rf_wrap (x := x) (y := y) (z := z) hs h1 h2 h3 h4 h5 h6)
      (repeat' (first | refine ⟨fun h => ?_, fun h => ?_⟩ | fail))
      all_goals (refine ⟨?_, (by first | (unfold lim; omega) | (dsimp only; unfold lim; omega)), ?_, by simp⟩)
      all_goals (simp only [decide_eq_true_eq, decide_eq_false_iff_not, Int.ofNat_eq_natCast, Int.cast_ofNat_Int, gt_iff_lt, ge_iff_le] at *)
      all_goals first
        | (have hn : ¬ agOk c x y z := (by unfold agOk ckM; omega)
           simp [agA, hn, i64]; done)
        | (have hn : ¬ agOk c x y z := (by
             unfold agOk ckM
             rintro ⟨g1, g2, g3, g4, g5, g6, g7⟩
             have := (hw g1 g2 g3 g4 g5 g6).1
             omega)
           simp [agA, hn, i64]; done)
        | (obtain ⟨e9, e8⟩ := hw (by omega) (by omega) (by omega) (by omega) (by omega) (by omega)
           have hy : agOk c x y z := (by
             unfold agOk ckM
             refine ⟨by omega, by omega, by omega, by omega, by omega, by omega, by omega⟩)
           rw [e8]
           simp [agA, hy, i64]; done)
        | (simp only [allT, List.forall_mem_cons, List.not_mem_nil, false_implies, implies_true, and_true, true_and, cfgK_t, netK_t, intsOk_ints, stsOk_sts, intsOk_s, stsOk_s, beq_iff_eq, decide_eq_true_eq, decide_eq_false_iff_not, beq_eq_false_iff_ne, bne_iff_ne, bne_eq_false_iff_eq, Bool.not_eq_true', Bool.not_eq_false', ne_eq, Int.ofNat_eq_natCast, Int.cast_ofNat_Int, gt_iff_lt, ge_iff_le]; omega)
  · cases hs
theorem ro_sum (c : Cfg) (t l0 : Int) (h : ckPre c 1 = true) (h0 : 0 ≤ l0) (h1 : l0 ≤ 65536) :
    LoopV Tryd.prog (loopAt Tryd.prog 56 0) [2, 4, 6, 7] [1000, 1001, 1022] ((roV l0).map some) ((roB c t 0).map some) 42 80000000000000000000000000000000000001024 (mkFr 42 [(4, .c (.ptr 1001 0 0)), (6, .c (.ptr 1022 0 0)), (7, i64 (l0 % c.long))]) [(1001, tmB 0 0 0), (1022, tmB t (l0 / c.long) 0)] 100000000000000000000000000000000000000000000000000 (.exit 0) none := by
  obtain ⟨_, r1, r2, q1, q2, q3, q4, q5⟩ := ck_round h
  have d0 := Int.ediv_nonneg (a := l0) (b := c.long) (by omega) (by omega)
  have d1 : l0 / c.long ≤ l0 := Int.ediv_le_self _ (by omega)
  have d2 := Int.mul_ediv_add_emod l0 c.long
  have d3 := Int.emod_nonneg l0 (show c.long ≠ 0 by omega)
  have d4 := Int.emod_lt_of_pos l0 (show 0 < c.long by omega)
  generalize hj : l0 / c.long = q at *
  obtain ⟨j, rfl⟩ := Int.eq_ofNat_of_zero_le d0
  generalize hm : l0 % c.long = m at *
  have e0 : roV l0 = roV (l0 - c.long * ((0 : Nat) : Int)) := by simp
  rw [e0]
  refine loop_view hE1 (fuel := 100) (str := 10000000000000000000000000000000000000000) (nh := 1000000000000000000000000000000000000000000) (n := 80000000000000000000000000000000000001024) (n' := 100000000000000000000000000000000000000000000000000) (S := Nat) (fun k => k ≤ j) (fun k => j - k) [2, 4, 6, 7] [] [1000, 1001, 1022] (fun k => roV (l0 - c.long * (k : Int))) (fun k => roB c t k) (by decide) (by decide) (by unfold lim; omega) (s0 := 0) (by omega) (fun _ => ⟨rfl, rfl⟩) (by kernel_rfl) (fun k _ => ⟨rfl, ?_⟩) ?_
  · intro b hb
    simp only [List.mem_cons, List.not_mem_nil, or_false] at hb
    rcases hb with rfl | rfl | rfl
    · exact cfgB_low (by omega)
    · exact low_lit rfl
    · exact low_lit rfl
  intro k hk
  refine (?_ : (∃ p r, roR Tryd.prog c t (l0 - c.long * (k : Int)) k p = some r ∧ _) → _) (ro c t (l0 - c.long * (k : Int)) k (StepV 80000000000000000000000000000000000001024 100000000000000000000000000000000000000000000000000 42 [2, 4, 6, 7] [] [1000, 1001, 1022] (fun k => k ≤ j) (fun k => j - k) (fun k => roV (l0 - c.long * (k : Int))) (fun k => roB c t k) (.exit 0) [(4, .c (.ptr 1001 0 0)), (6, .c (.ptr 1022 0 0)), (7, i64 m)] [(1001, tmB 0 0 0), (1022, tmB t (j : Int) 0)] k) ?_)
  · rintro ⟨p, r, h1, h2⟩
    exact ⟨p, [], r, h1, h2⟩
  · have b1 : c.long * (k : Int) ≤ c.long * (j : Int) := Int.mul_le_mul_of_nonneg_left (by omega) (by omega)
    have b0 : 0 ≤ c.long * (k : Int) := Int.mul_nonneg (by omega) (by omega)
    have b2 : c.long * ((k + 1 : Nat) : Int) = c.long * (k : Int) + c.long := by rw [Int.natCast_add, Int.mul_add]; omega
    have b3 : k < j → c.long * (k : Int) + c.long ≤ c.long * (j : Int) := fun hlt => by rw [← b2]; exact Int.mul_le_mul_of_nonneg_left (by omega) (by omega)
    have b4 : (l0 - c.long * (k : Int) ≥ c.long) ↔ k < j := by
      constructor
      · intro hge
        rcases Nat.lt_or_ge k j with hlt | hge2
        · exact hlt
        · obtain rfl : k = j := by omega
          omega
      · intro hlt
        have := b3 hlt
        omega
    have w1 : IntKind.wrap IntKind.i64 (l0 - c.long * (k : Int) - c.long) = l0 - c.long * ((k + 1 : Nat) : Int) := by rw [wrap_nat _ (by omega) (by omega), b2]; omega
    have w2 := wrap_nat1 k (by omega)
    refine ⟨fun c1 => ?_, fun c1 => ?_⟩
    · have hlt := b4.1 (by simpa using c1)
      refine ⟨?_, rfl, by dsimp only; omega, rfl, .inl ⟨rfl, k + 1, hlt, by show j - (k + 1) < j - k; omega, ?_, ?_⟩⟩
      · simp [allT, c1]
      · simp only [w1]; rfl
      · simp only [w2]; exact BL.refl (roB c t (k + 1))
    · have hge : k = j := by
        have := mt b4.2 (by simpa using c1)
        omega
      subst hge
      refine ⟨by simp [allT, c1], rfl, by dsimp only; omega, rfl, .inr ⟨by simp, rfl, fun q hq => ?_, fun p hpp => ?_⟩⟩
      · simp only [List.mem_cons, List.not_mem_nil, or_false] at hq
        rcases hq with rfl | rfl | rfl
        · exact ⟨rfl, by simp [lkA]⟩
        · exact ⟨rfl, by simp [lkA]⟩
        · refine ⟨rfl, ?_⟩
          have : l0 - c.long * (k : Int) = m := by omega
          simp [lkA, i64, this]
      · simp only [List.mem_cons, List.not_mem_nil, or_false] at hpp
        rcases hpp with rfl | rfl
        · exact ⟨by kernel_rfl, low_lit rfl, tmB 0 0 0, List.mem_cons_of_mem _ (List.mem_cons_self ..), BEq.refl _⟩
        · exact ⟨by kernel_rfl, low_lit rfl, tmB t (k : Int) 0, List.mem_cons_of_mem _ (List.mem_cons_of_mem _ (List.mem_cons_self ..)), BEq.refl _⟩
def cofR : CfgS → AV
  | ⟨c, [.c (.v (.int .i64 a))]⟩ => .tup [tmA (ckT c a) (ckS c a) (ckP c a), i64 (ckErr a)]
  | _ => i64 0
def cofP : CfgS → Bool
  | ⟨c, [.c (.v (.int .i64 _))]⟩ => ckPre c 1
  | _ => false
def ctRfOf : CtF := ctRd cfgRd cofR cofP
end Go.Proofs.YtgfmjbfjodidpaaDoor
end
/- Contract of sennitref06.Of; the contracts that layer 06's laws use. -/
section
namespace Go.Proofs.YtgfmjbfjodidpaaDoor
open Go.RowKit

set_option maxRecDepth 100000 in
theorem ct_rfOf : CtOk Tryd.prog 56 ctRfOf := by
  refine ctRd_ofE (E := E1 Tryd.prog) hE1 cfgRd (fuel := 300) (str := 10000000000000000000000000000000000000000) ⟨_, _, Tryd.func56, rfl⟩ (fun s => by unfold cofR; split <;> rfl) fun s hs => ?_
  unfold cofP at hs
  split at hs
  · rename_i c a
    obtain ⟨_, r1, r2, q1, q2, q3, q4, q5⟩ := ck_round hs
    obtain ⟨R, hR⟩ : ∃ R : Int, (c.ns : Int) * c.long = R := ⟨_, rfl⟩
    rw [hR] at r1 r2
    refine (?_ : (∃ p q, cfE (E1 Tryd.prog) 56 c [i64 a] p [some (roS (a / R) (a % R % c.long) (a % R / c.long).toNat)] = some q ∧ GoodF (.tup [tmA (ckT c a) (ckS c a) (ckP c a), i64 (ckErr a)]) q) → _) (rfOf c a (a / R) (a % R % c.long) (a % R / c.long).toNat _ ?_)
    · rintro ⟨p, q, h1, h2⟩
      exact ⟨p, [some (roS (a / R) (a % R % c.long) (a % R / c.long).toNat)], q, h1, h2⟩
    · have wR : IntKind.wrap IntKind.i64 (↑c.ns * c.long) = R := by rw [hR]; exact wrap_nat _ (by omega) (by omega)
      simp only [wR]
      (repeat' (first | refine ⟨fun h => ?_, fun h => ?_⟩ | fail))
      · have h' : a < 0 := by simpa using h
        have hn : ¬ ckIn a := by unfold ckIn ckM; omega
        exact ⟨by simp [ckT, ckS, ckP, ckErr, hn, i64], (by first | (unfold lim; omega) | (dsimp only; unfold lim; omega)), by (simp only [allT, List.forall_mem_cons, List.not_mem_nil, false_implies, implies_true, and_true, true_and, cfgK_t, netK_t, intsOk_ints, stsOk_sts, intsOk_s, stsOk_s, beq_iff_eq, decide_eq_true_eq, decide_eq_false_iff_not, beq_eq_false_iff_ne, bne_iff_ne, bne_eq_false_iff_eq, Bool.not_eq_true', Bool.not_eq_false', ne_eq, Int.ofNat_eq_natCast, Int.cast_ofNat_Int, gt_iff_lt, ge_iff_le]; omega), by simp⟩
      · have h' : 1099511627776 < a := by simpa using h
        have hn : ¬ ckIn a := by unfold ckIn ckM; omega
        exact ⟨by simp [ckT, ckS, ckP, ckErr, hn, i64], (by first | (unfold lim; omega) | (dsimp only; unfold lim; omega)), by (simp only [allT, List.forall_mem_cons, List.not_mem_nil, false_implies, implies_true, and_true, true_and, cfgK_t, netK_t, intsOk_ints, stsOk_sts, intsOk_s, stsOk_s, beq_iff_eq, decide_eq_true_eq, decide_eq_false_iff_not, beq_eq_false_iff_ne, bne_iff_ne, bne_eq_false_iff_eq, Bool.not_eq_true', Bool.not_eq_false', ne_eq, Int.ofNat_eq_natCast, Int.cast_ofNat_Int, gt_iff_lt, ge_iff_le]; omega), by simp⟩
      · rename_i g
        have h' : ¬ 1099511627776 < a := by simpa using h
        have g' : ¬ a < 0 := by simpa using g
        have hy : ckIn a := by unfold ckIn ckM; omega
        have t2 : Int.tdiv a R = a / R := Int.tdiv_eq_ediv_of_nonneg (by omega)
        have d0 := Int.ediv_nonneg (a := a) (b := R) (by omega) (by omega)
        have d1 : a / R ≤ a := Int.ediv_le_self _ (by omega)
        have d2 := Int.mul_ediv_add_emod a R
        have d3 := Int.emod_nonneg a (show R ≠ 0 by omega)
        have d4 := Int.emod_lt_of_pos a (show 0 < R by omega)
        have d5 : R * (a / R) = a / R * R := Int.mul_comm _ _
        have e0 := Int.ediv_nonneg (a := a % R) (b := c.long) (by omega) (by omega)
        have w1 : IntKind.wrap IntKind.i64 (a / R) = a / R := wrap_nat _ (by omega) (by omega)
        have w2 : IntKind.wrap IntKind.i64 (a / R * R) = a / R * R := wrap_nat _ (by omega) (by omega)
        have w3 : IntKind.wrap IntKind.i64 (a - a / R * R) = a % R := by rw [wrap_nat _ (by omega) (by omega)]; omega
        have e1 : (((a % R / c.long).toNat : Nat) : Int) = a % R / c.long := Int.toNat_of_nonneg e0
        refine ⟨?_, (by first | (unfold lim; omega) | (dsimp only; unfold lim; omega)), ?_, fun q hq => ?_⟩
        · simp [ckT, ckS, ckP, ckErr, hy, i64, hR, e1]
        · (simp only [allT, List.forall_mem_cons, List.not_mem_nil, false_implies, implies_true, and_true, true_and, cfgK_t, netK_t, intsOk_ints, stsOk_sts, intsOk_s, stsOk_s, beq_iff_eq, decide_eq_true_eq, decide_eq_false_iff_not, beq_eq_false_iff_ne, bne_iff_ne, bne_eq_false_iff_eq, Bool.not_eq_true', Bool.not_eq_false', ne_eq, Int.ofNat_eq_natCast, Int.cast_ofNat_Int, gt_iff_lt, ge_iff_le]; omega)
        · rw [List.mem_singleton.1 hq]
          simp only [t2, w1, w2, w3]
          have := ro_sum c (a / R) (a % R) hs d3 (by omega)
          rw [← e1] at this
          simp only [Int.ofNat_eq_natCast]
          exact this
  · cases hs
def ctsCk : List (FuncId × CtF) := [(55, ctCkOf), (57, ctCkAge), (60, ctCkAhead), (56, ctRfOf), (58, ctRfAge), (61, ctRfAhead), (54, ctTG mS)]
theorem ctsCk_ok : ∀ f g, (f, g) ∈ ctsCk → CtOk Tryd.prog f g := by
  intro f g h
  simp only [ctsCk, List.mem_cons, Prod.mk.injEq, List.not_mem_nil, or_false] at h
  rcases h with ⟨rfl, rfl⟩ | ⟨rfl, rfl⟩ | ⟨rfl, rfl⟩ | ⟨rfl, rfl⟩ | ⟨rfl, rfl⟩ | ⟨rfl, rfl⟩ | ⟨rfl, rfl⟩
  · exact ct_ckOf
  · exact ct_ckAge
  · exact ct_ckAhead
  · exact ct_rfOf
  · exact ct_rfAge
  · exact ct_rfAhead
  · exact ctTG_of (E := E1 Tryd.prog) hE1 ⟨_, _, Tryd.func54, rfl⟩ (by kernel_rfl) (by unfold lim; omega) lv06_run
end Go.Proofs.YtgfmjbfjodidpaaDoor
end
/- ClocksBack as the evaluator runs it. -/
section
namespace Go.Proofs.YtgfmjbfjodidpaaDoor
open Go.RowKit

/-- an age's lower bits -/
def ckMask (a : Int) : Int := IntKind.wrap IntKind.i64 ↑(BitVec.toNat (BitVec.ofInt (IntKind.bits IntKind.i64) a &&& BitVec.ofInt (IntKind.bits IntKind.i64) 1099511627775))
theorem cbE (err : Cfg → Int) (c : Cfg) (a : Int) (Q : VF → Prop) (H : (((decide (↑(Cfg.np c) > Int.ofNat 60)) = true → Q (AV.c (AC.v (Value.bool true)), [], 36, [decide (↑(Cfg.np c) > Int.ofNat 60) == true, true, true, true, true, true, true, true, true, true, true, true, true, true], [])) ∧ ((decide (↑(Cfg.np c) > Int.ofNat 60)) = false → (((decide (↑(Cfg.ns c) > Int.ofNat 60)) = true → Q (AV.c (AC.v (Value.bool true)), [], 40, [decide (↑(Cfg.ns c) > Int.ofNat 60) == true, true, decide (↑(Cfg.np c) > Int.ofNat 60) == false, true, true, true, true, true, true, true, true, true, true, true, true, true], [])) ∧ ((decide (↑(Cfg.ns c) > Int.ofNat 60)) = false → (((decide (↑(Cfg.nb c) > Int.ofNat 60)) = true → Q (AV.c (AC.v (Value.bool true)), [], 44, [decide (↑(Cfg.nb c) > Int.ofNat 60) == true, true, decide (↑(Cfg.ns c) > Int.ofNat 60) == false, true, decide (↑(Cfg.np c) > Int.ofNat 60) == false, true, true, true, true, true, true, true, true, true, true, true, true, true], [])) ∧ ((decide (↑(Cfg.nb c) > Int.ofNat 60)) = false → (((decide (↑(Cfg.nt c) > Int.ofNat 60)) = true → Q (AV.c (AC.v (Value.bool true)), [], 48, [decide (↑(Cfg.nt c) > Int.ofNat 60) == true, true, decide (↑(Cfg.nb c) > Int.ofNat 60) == false, true, decide (↑(Cfg.ns c) > Int.ofNat 60) == false, true, decide (↑(Cfg.np c) > Int.ofNat 60) == false, true, true, true, true, true, true, true, true, true, true, true, true, true], [])) ∧ ((decide (↑(Cfg.nt c) > Int.ofNat 60)) = false → Q (AV.c (AC.v (Value.bool true)), [], 50, [(err c != Int.ofNat 0) == true, cfgK c, true, true, true, true, true, true, true, decide (↑(Cfg.nt c) > Int.ofNat 60) == false, true, decide (↑(Cfg.nb c) > Int.ofNat 60) == false, true, decide (↑(Cfg.ns c) > Int.ofNat 60) == false, true, decide (↑(Cfg.np c) > Int.ofNat 60) == false, true, true, true, true, true, true, true, true, true, true, true, true, true], [])))))))))) :
    ∃ p r, lwR (ENl1 Tryd.prog err ctsCk) 14 mS c [i64 a] p [] = some r ∧ Q r := by
  rcases Bool.eq_false_or_eq_true (decide (↑(Cfg.np c) > Int.ofNat 60)) with h2 | h2
  · have g2 := H.1 h2
    exact ⟨([.b true, .a, .a, .a, .a, .a, .a, .a, .a, .a, .a, .a, .a, .a, .a, .a, .a] : List Dec), _, by kernel_rfl, g2⟩
  · have g2 := H.2 h2
    rcases Bool.eq_false_or_eq_true (decide (↑(Cfg.ns c) > Int.ofNat 60)) with h4 | h4
    · have g4 := g2.1 h4
      exact ⟨([.b false, .a, .a, .a, .b true, .a, .a, .a, .a, .a, .a, .a, .a, .a, .a, .a, .a] : List Dec), _, by kernel_rfl, g4⟩
    · have g4 := g2.2 h4
      rcases Bool.eq_false_or_eq_true (decide (↑(Cfg.nb c) > Int.ofNat 60)) with h6 | h6
      · have g6 := g4.1 h6
        exact ⟨([.b false, .a, .a, .a, .b false, .a, .a, .a, .b true, .a, .a, .a, .a, .a, .a, .a, .a] : List Dec), _, by kernel_rfl, g6⟩
      · have g6 := g4.2 h6
        rcases Bool.eq_false_or_eq_true (decide (↑(Cfg.nt c) > Int.ofNat 60)) with h8 | h8
        · have g8 := g6.1 h8
          exact ⟨([.b false, .a, .a, .a, .b false, .a, .a, .a, .b false, .a, .a, .a, .b true, .a, .a, .a, .a] : List Dec), _, by kernel_rfl, g8⟩
        · have g8 := g6.2 h8
          exact ⟨([.b false, .a, .a, .a, .b false, .a, .a, .a, .b false, .a, .a, .a, .b false, .a, .a, .b true, .a] : List Dec), _, by kernel_rfl, g8⟩
theorem cbA (err : Cfg → Int) (c : Cfg) (a : Int) (Q : VF → Prop) (H : (((ckErr (ckMask a) != Int.ofNat 0) = true → Q (AV.c (AC.v (Value.bool false)), [], 500000000000000000000000000000000000000090, [(ckErr (ckMask a) != Int.ofNat 0) == true, netK c (Int.toNat (Cfg.nodes c)) (pairF c (2 * Cfg.np c)), agP (NetS.mk c (Int.toNat (Cfg.nodes c)) (pairF c (2 * Cfg.np c)) [AV.agg [AC.v (Value.int IntKind.i64 (ckT c (ckMask a))), AC.v (Value.int IntKind.i64 (ckS c (ckMask a))), AC.v (Value.int IntKind.i64 (ckP c (ckMask a)))]]), true, true, true, true, true, netK c (Int.toNat (Cfg.nodes c)) (pairF c (2 * Cfg.np c)), ofP (NetS.mk c (Int.toNat (Cfg.nodes c)) (pairF c (2 * Cfg.np c)) [AV.c (AC.v (Value.int IntKind.i64 (IntKind.wrap IntKind.i64 ((ckMask a) + Int.ofNat 1))))]), true, netK c (Int.toNat (Cfg.nodes c)) (pairF c (2 * Cfg.np c)), ofP (NetS.mk c (Int.toNat (Cfg.nodes c)) (pairF c (2 * Cfg.np c)) [AV.c (AC.v (Value.int IntKind.i64 (ckMask a)))]), cfgK c, decide (Cfg.nb c ≤ 9223372036854775807), decide (err c = Int.ofNat 0), true, true, true, true, true, true, (err c != Int.ofNat 0) == false, cfgK c, true, true, true, true, true, true, true, decide (↑(Cfg.nt c) > Int.ofNat 60) == false, true, decide (↑(Cfg.nb c) > Int.ofNat 60) == false, true, decide (↑(Cfg.ns c) > Int.ofNat 60) == false, true, decide (↑(Cfg.np c) > Int.ofNat 60) == false, true, true, true, true, true, true, true, true, true, true, true, true, true], [])) ∧ ((ckErr (ckMask a) != Int.ofNat 0) = false → (((ckErr (IntKind.wrap IntKind.i64 ((ckMask a) + Int.ofNat 1)) != Int.ofNat 0) = true → Q (AV.c (AC.v (Value.bool false)), [], 500000000000000000000000000000000000000090, [(ckErr (IntKind.wrap IntKind.i64 ((ckMask a) + Int.ofNat 1)) != Int.ofNat 0) == true, (ckErr (ckMask a) != Int.ofNat 0) == false, netK c (Int.toNat (Cfg.nodes c)) (pairF c (2 * Cfg.np c)), agP (NetS.mk c (Int.toNat (Cfg.nodes c)) (pairF c (2 * Cfg.np c)) [AV.agg [AC.v (Value.int IntKind.i64 (ckT c (ckMask a))), AC.v (Value.int IntKind.i64 (ckS c (ckMask a))), AC.v (Value.int IntKind.i64 (ckP c (ckMask a)))]]), true, true, true, true, true, netK c (Int.toNat (Cfg.nodes c)) (pairF c (2 * Cfg.np c)), ofP (NetS.mk c (Int.toNat (Cfg.nodes c)) (pairF c (2 * Cfg.np c)) [AV.c (AC.v (Value.int IntKind.i64 (IntKind.wrap IntKind.i64 ((ckMask a) + Int.ofNat 1))))]), true, netK c (Int.toNat (Cfg.nodes c)) (pairF c (2 * Cfg.np c)), ofP (NetS.mk c (Int.toNat (Cfg.nodes c)) (pairF c (2 * Cfg.np c)) [AV.c (AC.v (Value.int IntKind.i64 (ckMask a)))]), cfgK c, decide (Cfg.nb c ≤ 9223372036854775807), decide (err c = Int.ofNat 0), true, true, true, true, true, true, (err c != Int.ofNat 0) == false, cfgK c, true, true, true, true, true, true, true, decide (↑(Cfg.nt c) > Int.ofNat 60) == false, true, decide (↑(Cfg.nb c) > Int.ofNat 60) == false, true, decide (↑(Cfg.ns c) > Int.ofNat 60) == false, true, decide (↑(Cfg.np c) > Int.ofNat 60) == false, true, true, true, true, true, true, true, true, true, true, true, true, true], [])) ∧ ((ckErr (IntKind.wrap IntKind.i64 ((ckMask a) + Int.ofNat 1)) != Int.ofNat 0) = false → (((agE c (ckT c (ckMask a)) (ckS c (ckMask a)) (ckP c (ckMask a)) != Int.ofNat 0) = true → Q (AV.c (AC.v (Value.bool false)), [], 500000000000000000000000000000000000000090, [(agE c (ckT c (ckMask a)) (ckS c (ckMask a)) (ckP c (ckMask a)) != Int.ofNat 0) == true, (ckErr (IntKind.wrap IntKind.i64 ((ckMask a) + Int.ofNat 1)) != Int.ofNat 0) == false, (ckErr (ckMask a) != Int.ofNat 0) == false, netK c (Int.toNat (Cfg.nodes c)) (pairF c (2 * Cfg.np c)), agP (NetS.mk c (Int.toNat (Cfg.nodes c)) (pairF c (2 * Cfg.np c)) [AV.agg [AC.v (Value.int IntKind.i64 (ckT c (ckMask a))), AC.v (Value.int IntKind.i64 (ckS c (ckMask a))), AC.v (Value.int IntKind.i64 (ckP c (ckMask a)))]]), true, true, true, true, true, netK c (Int.toNat (Cfg.nodes c)) (pairF c (2 * Cfg.np c)), ofP (NetS.mk c (Int.toNat (Cfg.nodes c)) (pairF c (2 * Cfg.np c)) [AV.c (AC.v (Value.int IntKind.i64 (IntKind.wrap IntKind.i64 ((ckMask a) + Int.ofNat 1))))]), true, netK c (Int.toNat (Cfg.nodes c)) (pairF c (2 * Cfg.np c)), ofP (NetS.mk c (Int.toNat (Cfg.nodes c)) (pairF c (2 * Cfg.np c)) [AV.c (AC.v (Value.int IntKind.i64 (ckMask a)))]), cfgK c, decide (Cfg.nb c ≤ 9223372036854775807), decide (err c = Int.ofNat 0), true, true, true, true, true, true, (err c != Int.ofNat 0) == false, cfgK c, true, true, true, true, true, true, true, decide (↑(Cfg.nt c) > Int.ofNat 60) == false, true, decide (↑(Cfg.nb c) > Int.ofNat 60) == false, true, decide (↑(Cfg.ns c) > Int.ofNat 60) == false, true, decide (↑(Cfg.np c) > Int.ofNat 60) == false, true, true, true, true, true, true, true, true, true, true, true, true, true], [])) ∧ ((agE c (ckT c (ckMask a)) (ckS c (ckMask a)) (ckP c (ckMask a)) != Int.ofNat 0) = false → (((agV c (ckT c (ckMask a)) (ckS c (ckMask a)) (ckP c (ckMask a)) != (ckMask a)) = true → Q (AV.c (AC.v (Value.bool false)), [], 500000000000000000000000000000000000000090, [(agV c (ckT c (ckMask a)) (ckS c (ckMask a)) (ckP c (ckMask a)) != (ckMask a)) == true, (agE c (ckT c (ckMask a)) (ckS c (ckMask a)) (ckP c (ckMask a)) != Int.ofNat 0) == false, (ckErr (IntKind.wrap IntKind.i64 ((ckMask a) + Int.ofNat 1)) != Int.ofNat 0) == false, (ckErr (ckMask a) != Int.ofNat 0) == false, netK c (Int.toNat (Cfg.nodes c)) (pairF c (2 * Cfg.np c)), agP (NetS.mk c (Int.toNat (Cfg.nodes c)) (pairF c (2 * Cfg.np c)) [AV.agg [AC.v (Value.int IntKind.i64 (ckT c (ckMask a))), AC.v (Value.int IntKind.i64 (ckS c (ckMask a))), AC.v (Value.int IntKind.i64 (ckP c (ckMask a)))]]), true, true, true, true, true, netK c (Int.toNat (Cfg.nodes c)) (pairF c (2 * Cfg.np c)), ofP (NetS.mk c (Int.toNat (Cfg.nodes c)) (pairF c (2 * Cfg.np c)) [AV.c (AC.v (Value.int IntKind.i64 (IntKind.wrap IntKind.i64 ((ckMask a) + Int.ofNat 1))))]), true, netK c (Int.toNat (Cfg.nodes c)) (pairF c (2 * Cfg.np c)), ofP (NetS.mk c (Int.toNat (Cfg.nodes c)) (pairF c (2 * Cfg.np c)) [AV.c (AC.v (Value.int IntKind.i64 (ckMask a)))]), cfgK c, decide (Cfg.nb c ≤ 9223372036854775807), decide (err c = Int.ofNat 0), true, true, true, true, true, true, (err c != Int.ofNat 0) == false, cfgK c, true, true, true, true, true, true, true, decide (↑(Cfg.nt c) > Int.ofNat 60) == false, true, decide (↑(Cfg.nb c) > Int.ofNat 60) == false, true, decide (↑(Cfg.ns c) > Int.ofNat 60) == false, true, decide (↑(Cfg.np c) > Int.ofNat 60) == false, true, true, true, true, true, true, true, true, true, true, true, true, true], [])) ∧ ((agV c (ckT c (ckMask a)) (ckS c (ckMask a)) (ckP c (ckMask a)) != (ckMask a)) = false → (((agA c (ckT c (ckMask a)) (ckS c (ckMask a)) (ckP c (ckMask a)) != IntKind.wrap IntKind.i64 (Int.tdiv (ckMask a) (Cfg.long c))) = true → Q (AV.c (AC.v (Value.bool false)), [], 500000000000000000000000000000000000000090, [(agA c (ckT c (ckMask a)) (ckS c (ckMask a)) (ckP c (ckMask a)) != IntKind.wrap IntKind.i64 (Int.tdiv (ckMask a) (Cfg.long c))) == true, decide (Cfg.long c ≠ Int.ofNat 0), true, true, netK c (Int.toNat (Cfg.nodes c)) (pairF c (2 * Cfg.np c)), agP (NetS.mk c (Int.toNat (Cfg.nodes c)) (pairF c (2 * Cfg.np c)) [AV.agg [AC.v (Value.int IntKind.i64 (ckT c (ckMask a))), AC.v (Value.int IntKind.i64 (ckS c (ckMask a))), AC.v (Value.int IntKind.i64 (ckP c (ckMask a)))]]), true, true, true, true, (agV c (ckT c (ckMask a)) (ckS c (ckMask a)) (ckP c (ckMask a)) != (ckMask a)) == false, (agE c (ckT c (ckMask a)) (ckS c (ckMask a)) (ckP c (ckMask a)) != Int.ofNat 0) == false, (ckErr (IntKind.wrap IntKind.i64 ((ckMask a) + Int.ofNat 1)) != Int.ofNat 0) == false, (ckErr (ckMask a) != Int.ofNat 0) == false, netK c (Int.toNat (Cfg.nodes c)) (pairF c (2 * Cfg.np c)), agP (NetS.mk c (Int.toNat (Cfg.nodes c)) (pairF c (2 * Cfg.np c)) [AV.agg [AC.v (Value.int IntKind.i64 (ckT c (ckMask a))), AC.v (Value.int IntKind.i64 (ckS c (ckMask a))), AC.v (Value.int IntKind.i64 (ckP c (ckMask a)))]]), true, true, true, true, true, netK c (Int.toNat (Cfg.nodes c)) (pairF c (2 * Cfg.np c)), ofP (NetS.mk c (Int.toNat (Cfg.nodes c)) (pairF c (2 * Cfg.np c)) [AV.c (AC.v (Value.int IntKind.i64 (IntKind.wrap IntKind.i64 ((ckMask a) + Int.ofNat 1))))]), true, netK c (Int.toNat (Cfg.nodes c)) (pairF c (2 * Cfg.np c)), ofP (NetS.mk c (Int.toNat (Cfg.nodes c)) (pairF c (2 * Cfg.np c)) [AV.c (AC.v (Value.int IntKind.i64 (ckMask a)))]), cfgK c, decide (Cfg.nb c ≤ 9223372036854775807), decide (err c = Int.ofNat 0), true, true, true, true, true, true, (err c != Int.ofNat 0) == false, cfgK c, true, true, true, true, true, true, true, decide (↑(Cfg.nt c) > Int.ofNat 60) == false, true, decide (↑(Cfg.nb c) > Int.ofNat 60) == false, true, decide (↑(Cfg.ns c) > Int.ofNat 60) == false, true, decide (↑(Cfg.np c) > Int.ofNat 60) == false, true, true, true, true, true, true, true, true, true, true, true, true, true], [])) ∧ ((agA c (ckT c (ckMask a)) (ckS c (ckMask a)) (ckP c (ckMask a)) != IntKind.wrap IntKind.i64 (Int.tdiv (ckMask a) (Cfg.long c))) = false → (((decide (ckS c (ckMask a) < Int.ofNat 0)) = true → Q (AV.c (AC.v (Value.bool false)), [], 500000000000000000000000000000000000000090, [decide (ckS c (ckMask a) < Int.ofNat 0) == true, true, true, (agA c (ckT c (ckMask a)) (ckS c (ckMask a)) (ckP c (ckMask a)) != IntKind.wrap IntKind.i64 (Int.tdiv (ckMask a) (Cfg.long c))) == false, decide (Cfg.long c ≠ Int.ofNat 0), true, true, netK c (Int.toNat (Cfg.nodes c)) (pairF c (2 * Cfg.np c)), agP (NetS.mk c (Int.toNat (Cfg.nodes c)) (pairF c (2 * Cfg.np c)) [AV.agg [AC.v (Value.int IntKind.i64 (ckT c (ckMask a))), AC.v (Value.int IntKind.i64 (ckS c (ckMask a))), AC.v (Value.int IntKind.i64 (ckP c (ckMask a)))]]), true, true, true, true, (agV c (ckT c (ckMask a)) (ckS c (ckMask a)) (ckP c (ckMask a)) != (ckMask a)) == false, (agE c (ckT c (ckMask a)) (ckS c (ckMask a)) (ckP c (ckMask a)) != Int.ofNat 0) == false, (ckErr (IntKind.wrap IntKind.i64 ((ckMask a) + Int.ofNat 1)) != Int.ofNat 0) == false, (ckErr (ckMask a) != Int.ofNat 0) == false, netK c (Int.toNat (Cfg.nodes c)) (pairF c (2 * Cfg.np c)), agP (NetS.mk c (Int.toNat (Cfg.nodes c)) (pairF c (2 * Cfg.np c)) [AV.agg [AC.v (Value.int IntKind.i64 (ckT c (ckMask a))), AC.v (Value.int IntKind.i64 (ckS c (ckMask a))), AC.v (Value.int IntKind.i64 (ckP c (ckMask a)))]]), true, true, true, true, true, netK c (Int.toNat (Cfg.nodes c)) (pairF c (2 * Cfg.np c)), ofP (NetS.mk c (Int.toNat (Cfg.nodes c)) (pairF c (2 * Cfg.np c)) [AV.c (AC.v (Value.int IntKind.i64 (IntKind.wrap IntKind.i64 ((ckMask a) + Int.ofNat 1))))]), true, netK c (Int.toNat (Cfg.nodes c)) (pairF c (2 * Cfg.np c)), ofP (NetS.mk c (Int.toNat (Cfg.nodes c)) (pairF c (2 * Cfg.np c)) [AV.c (AC.v (Value.int IntKind.i64 (ckMask a)))]), cfgK c, decide (Cfg.nb c ≤ 9223372036854775807), decide (err c = Int.ofNat 0), true, true, true, true, true, true, (err c != Int.ofNat 0) == false, cfgK c, true, true, true, true, true, true, true, decide (↑(Cfg.nt c) > Int.ofNat 60) == false, true, decide (↑(Cfg.nb c) > Int.ofNat 60) == false, true, decide (↑(Cfg.ns c) > Int.ofNat 60) == false, true, decide (↑(Cfg.np c) > Int.ofNat 60) == false, true, true, true, true, true, true, true, true, true, true, true, true, true], [])) ∧ ((decide (ckS c (ckMask a) < Int.ofNat 0)) = false → (((decide (ckS c (ckMask a) ≥ ↑(Cfg.ns c))) = true → Q (AV.c (AC.v (Value.bool false)), [], 500000000000000000000000000000000000000090, [decide (ckS c (ckMask a) ≥ ↑(Cfg.ns c)) == true, true, true, true, decide (ckS c (ckMask a) < Int.ofNat 0) == false, true, true, (agA c (ckT c (ckMask a)) (ckS c (ckMask a)) (ckP c (ckMask a)) != IntKind.wrap IntKind.i64 (Int.tdiv (ckMask a) (Cfg.long c))) == false, decide (Cfg.long c ≠ Int.ofNat 0), true, true, netK c (Int.toNat (Cfg.nodes c)) (pairF c (2 * Cfg.np c)), agP (NetS.mk c (Int.toNat (Cfg.nodes c)) (pairF c (2 * Cfg.np c)) [AV.agg [AC.v (Value.int IntKind.i64 (ckT c (ckMask a))), AC.v (Value.int IntKind.i64 (ckS c (ckMask a))), AC.v (Value.int IntKind.i64 (ckP c (ckMask a)))]]), true, true, true, true, (agV c (ckT c (ckMask a)) (ckS c (ckMask a)) (ckP c (ckMask a)) != (ckMask a)) == false, (agE c (ckT c (ckMask a)) (ckS c (ckMask a)) (ckP c (ckMask a)) != Int.ofNat 0) == false, (ckErr (IntKind.wrap IntKind.i64 ((ckMask a) + Int.ofNat 1)) != Int.ofNat 0) == false, (ckErr (ckMask a) != Int.ofNat 0) == false, netK c (Int.toNat (Cfg.nodes c)) (pairF c (2 * Cfg.np c)), agP (NetS.mk c (Int.toNat (Cfg.nodes c)) (pairF c (2 * Cfg.np c)) [AV.agg [AC.v (Value.int IntKind.i64 (ckT c (ckMask a))), AC.v (Value.int IntKind.i64 (ckS c (ckMask a))), AC.v (Value.int IntKind.i64 (ckP c (ckMask a)))]]), true, true, true, true, true, netK c (Int.toNat (Cfg.nodes c)) (pairF c (2 * Cfg.np c)), ofP (NetS.mk c (Int.toNat (Cfg.nodes c)) (pairF c (2 * Cfg.np c)) [AV.c (AC.v (Value.int IntKind.i64 (IntKind.wrap IntKind.i64 ((ckMask a) + Int.ofNat 1))))]), true, netK c (Int.toNat (Cfg.nodes c)) (pairF c (2 * Cfg.np c)), ofP (NetS.mk c (Int.toNat (Cfg.nodes c)) (pairF c (2 * Cfg.np c)) [AV.c (AC.v (Value.int IntKind.i64 (ckMask a)))]), cfgK c, decide (Cfg.nb c ≤ 9223372036854775807), decide (err c = Int.ofNat 0), true, true, true, true, true, true, (err c != Int.ofNat 0) == false, cfgK c, true, true, true, true, true, true, true, decide (↑(Cfg.nt c) > Int.ofNat 60) == false, true, decide (↑(Cfg.nb c) > Int.ofNat 60) == false, true, decide (↑(Cfg.ns c) > Int.ofNat 60) == false, true, decide (↑(Cfg.np c) > Int.ofNat 60) == false, true, true, true, true, true, true, true, true, true, true, true, true, true], [])) ∧ ((decide (ckS c (ckMask a) ≥ ↑(Cfg.ns c))) = false → (((decide (ckP c (ckMask a) < Int.ofNat 0)) = true → Q (AV.c (AC.v (Value.bool false)), [], 500000000000000000000000000000000000000090, [decide (ckP c (ckMask a) < Int.ofNat 0) == true, true, true, decide (ckS c (ckMask a) ≥ ↑(Cfg.ns c)) == false, true, true, true, decide (ckS c (ckMask a) < Int.ofNat 0) == false, true, true, (agA c (ckT c (ckMask a)) (ckS c (ckMask a)) (ckP c (ckMask a)) != IntKind.wrap IntKind.i64 (Int.tdiv (ckMask a) (Cfg.long c))) == false, decide (Cfg.long c ≠ Int.ofNat 0), true, true, netK c (Int.toNat (Cfg.nodes c)) (pairF c (2 * Cfg.np c)), agP (NetS.mk c (Int.toNat (Cfg.nodes c)) (pairF c (2 * Cfg.np c)) [AV.agg [AC.v (Value.int IntKind.i64 (ckT c (ckMask a))), AC.v (Value.int IntKind.i64 (ckS c (ckMask a))), AC.v (Value.int IntKind.i64 (ckP c (ckMask a)))]]), true, true, true, true, (agV c (ckT c (ckMask a)) (ckS c (ckMask a)) (ckP c (ckMask a)) != (ckMask a)) == false, (agE c (ckT c (ckMask a)) (ckS c (ckMask a)) (ckP c (ckMask a)) != Int.ofNat 0) == false, (ckErr (IntKind.wrap IntKind.i64 ((ckMask a) + Int.ofNat 1)) != Int.ofNat 0) == false, (ckErr (ckMask a) != Int.ofNat 0) == false, netK c (Int.toNat (Cfg.nodes c)) (pairF c (2 * Cfg.np c)), agP (NetS.mk c (Int.toNat (Cfg.nodes c)) (pairF c (2 * Cfg.np c)) [AV.agg [AC.v (Value.int IntKind.i64 (ckT c (ckMask a))), AC.v (Value.int IntKind.i64 (ckS c (ckMask a))), AC.v (Value.int IntKind.i64 (ckP c (ckMask a)))]]), true, true, true, true, true, netK c (Int.toNat (Cfg.nodes c)) (pairF c (2 * Cfg.np c)), ofP (NetS.mk c (Int.toNat (Cfg.nodes c)) (pairF c (2 * Cfg.np c)) [AV.c (AC.v (Value.int IntKind.i64 (IntKind.wrap IntKind.i64 ((ckMask a) + Int.ofNat 1))))]), true, netK c (Int.toNat (Cfg.nodes c)) (pairF c (2 * Cfg.np c)), ofP (NetS.mk c (Int.toNat (Cfg.nodes c)) (pairF c (2 * Cfg.np c)) [AV.c (AC.v (Value.int IntKind.i64 (ckMask a)))]), cfgK c, decide (Cfg.nb c ≤ 9223372036854775807), decide (err c = Int.ofNat 0), true, true, true, true, true, true, (err c != Int.ofNat 0) == false, cfgK c, true, true, true, true, true, true, true, decide (↑(Cfg.nt c) > Int.ofNat 60) == false, true, decide (↑(Cfg.nb c) > Int.ofNat 60) == false, true, decide (↑(Cfg.ns c) > Int.ofNat 60) == false, true, decide (↑(Cfg.np c) > Int.ofNat 60) == false, true, true, true, true, true, true, true, true, true, true, true, true, true], [])) ∧ ((decide (ckP c (ckMask a) < Int.ofNat 0)) = false → (((decide (ckP c (ckMask a) ≥ Cfg.long c)) = true → Q (AV.c (AC.v (Value.bool false)), [], 500000000000000000000000000000000000000090, [decide (ckP c (ckMask a) ≥ Cfg.long c) == true, true, true, true, true, decide (ckP c (ckMask a) < Int.ofNat 0) == false, true, true, decide (ckS c (ckMask a) ≥ ↑(Cfg.ns c)) == false, true, true, true, decide (ckS c (ckMask a) < Int.ofNat 0) == false, true, true, (agA c (ckT c (ckMask a)) (ckS c (ckMask a)) (ckP c (ckMask a)) != IntKind.wrap IntKind.i64 (Int.tdiv (ckMask a) (Cfg.long c))) == false, decide (Cfg.long c ≠ Int.ofNat 0), true, true, netK c (Int.toNat (Cfg.nodes c)) (pairF c (2 * Cfg.np c)), agP (NetS.mk c (Int.toNat (Cfg.nodes c)) (pairF c (2 * Cfg.np c)) [AV.agg [AC.v (Value.int IntKind.i64 (ckT c (ckMask a))), AC.v (Value.int IntKind.i64 (ckS c (ckMask a))), AC.v (Value.int IntKind.i64 (ckP c (ckMask a)))]]), true, true, true, true, (agV c (ckT c (ckMask a)) (ckS c (ckMask a)) (ckP c (ckMask a)) != (ckMask a)) == false, (agE c (ckT c (ckMask a)) (ckS c (ckMask a)) (ckP c (ckMask a)) != Int.ofNat 0) == false, (ckErr (IntKind.wrap IntKind.i64 ((ckMask a) + Int.ofNat 1)) != Int.ofNat 0) == false, (ckErr (ckMask a) != Int.ofNat 0) == false, netK c (Int.toNat (Cfg.nodes c)) (pairF c (2 * Cfg.np c)), agP (NetS.mk c (Int.toNat (Cfg.nodes c)) (pairF c (2 * Cfg.np c)) [AV.agg [AC.v (Value.int IntKind.i64 (ckT c (ckMask a))), AC.v (Value.int IntKind.i64 (ckS c (ckMask a))), AC.v (Value.int IntKind.i64 (ckP c (ckMask a)))]]), true, true, true, true, true, netK c (Int.toNat (Cfg.nodes c)) (pairF c (2 * Cfg.np c)), ofP (NetS.mk c (Int.toNat (Cfg.nodes c)) (pairF c (2 * Cfg.np c)) [AV.c (AC.v (Value.int IntKind.i64 (IntKind.wrap IntKind.i64 ((ckMask a) + Int.ofNat 1))))]), true, netK c (Int.toNat (Cfg.nodes c)) (pairF c (2 * Cfg.np c)), ofP (NetS.mk c (Int.toNat (Cfg.nodes c)) (pairF c (2 * Cfg.np c)) [AV.c (AC.v (Value.int IntKind.i64 (ckMask a)))]), cfgK c, decide (Cfg.nb c ≤ 9223372036854775807), decide (err c = Int.ofNat 0), true, true, true, true, true, true, (err c != Int.ofNat 0) == false, cfgK c, true, true, true, true, true, true, true, decide (↑(Cfg.nt c) > Int.ofNat 60) == false, true, decide (↑(Cfg.nb c) > Int.ofNat 60) == false, true, decide (↑(Cfg.ns c) > Int.ofNat 60) == false, true, decide (↑(Cfg.np c) > Int.ofNat 60) == false, true, true, true, true, true, true, true, true, true, true, true, true, true], [])) ∧ ((decide (ckP c (ckMask a) ≥ Cfg.long c)) = false → (((decide (IntKind.wrap IntKind.i64 (ckP c (ckMask a) + Int.ofNat 1) < Cfg.long c)) = true → (((eqF [some IntKind.i64, some IntKind.i64, some IntKind.i64] [AC.v (Value.int IntKind.i64 (ckT c (IntKind.wrap IntKind.i64 ((ckMask a) + Int.ofNat 1)))), AC.v (Value.int IntKind.i64 (ckS c (IntKind.wrap IntKind.i64 ((ckMask a) + Int.ofNat 1)))), AC.v (Value.int IntKind.i64 (ckP c (IntKind.wrap IntKind.i64 ((ckMask a) + Int.ofNat 1))))] [AC.v (Value.int IntKind.i64 (ckT c (ckMask a))), AC.v (Value.int IntKind.i64 (ckS c (ckMask a))), AC.v (Value.int IntKind.i64 (IntKind.wrap IntKind.i64 (ckP c (ckMask a) + Int.ofNat 1)))]) = true → Q (AV.c (AC.v (Value.bool true)), [], 500000000000000000000000000000000000000109, [eqF [some IntKind.i64, some IntKind.i64, some IntKind.i64] [AC.v (Value.int IntKind.i64 (ckT c (IntKind.wrap IntKind.i64 ((ckMask a) + Int.ofNat 1)))), AC.v (Value.int IntKind.i64 (ckS c (IntKind.wrap IntKind.i64 ((ckMask a) + Int.ofNat 1)))), AC.v (Value.int IntKind.i64 (ckP c (IntKind.wrap IntKind.i64 ((ckMask a) + Int.ofNat 1))))] [AC.v (Value.int IntKind.i64 (ckT c (ckMask a))), AC.v (Value.int IntKind.i64 (ckS c (ckMask a))), AC.v (Value.int IntKind.i64 (IntKind.wrap IntKind.i64 (ckP c (ckMask a) + Int.ofNat 1)))] == true, true, true, true, true, true, true, true, true, true, true, true, true, true, true, true, true, decide (IntKind.wrap IntKind.i64 (ckP c (ckMask a) + Int.ofNat 1) < Cfg.long c) == true, true, true, true, true, decide (ckP c (ckMask a) ≥ Cfg.long c) == false, true, true, true, true, decide (ckP c (ckMask a) < Int.ofNat 0) == false, true, true, decide (ckS c (ckMask a) ≥ ↑(Cfg.ns c)) == false, true, true, true, decide (ckS c (ckMask a) < Int.ofNat 0) == false, true, true, (agA c (ckT c (ckMask a)) (ckS c (ckMask a)) (ckP c (ckMask a)) != IntKind.wrap IntKind.i64 (Int.tdiv (ckMask a) (Cfg.long c))) == false, decide (Cfg.long c ≠ Int.ofNat 0), true, true, netK c (Int.toNat (Cfg.nodes c)) (pairF c (2 * Cfg.np c)), agP (NetS.mk c (Int.toNat (Cfg.nodes c)) (pairF c (2 * Cfg.np c)) [AV.agg [AC.v (Value.int IntKind.i64 (ckT c (ckMask a))), AC.v (Value.int IntKind.i64 (ckS c (ckMask a))), AC.v (Value.int IntKind.i64 (ckP c (ckMask a)))]]), true, true, true, true, (agV c (ckT c (ckMask a)) (ckS c (ckMask a)) (ckP c (ckMask a)) != (ckMask a)) == false, (agE c (ckT c (ckMask a)) (ckS c (ckMask a)) (ckP c (ckMask a)) != Int.ofNat 0) == false, (ckErr (IntKind.wrap IntKind.i64 ((ckMask a) + Int.ofNat 1)) != Int.ofNat 0) == false, (ckErr (ckMask a) != Int.ofNat 0) == false, netK c (Int.toNat (Cfg.nodes c)) (pairF c (2 * Cfg.np c)), agP (NetS.mk c (Int.toNat (Cfg.nodes c)) (pairF c (2 * Cfg.np c)) [AV.agg [AC.v (Value.int IntKind.i64 (ckT c (ckMask a))), AC.v (Value.int IntKind.i64 (ckS c (ckMask a))), AC.v (Value.int IntKind.i64 (ckP c (ckMask a)))]]), true, true, true, true, true, netK c (Int.toNat (Cfg.nodes c)) (pairF c (2 * Cfg.np c)), ofP (NetS.mk c (Int.toNat (Cfg.nodes c)) (pairF c (2 * Cfg.np c)) [AV.c (AC.v (Value.int IntKind.i64 (IntKind.wrap IntKind.i64 ((ckMask a) + Int.ofNat 1))))]), true, netK c (Int.toNat (Cfg.nodes c)) (pairF c (2 * Cfg.np c)), ofP (NetS.mk c (Int.toNat (Cfg.nodes c)) (pairF c (2 * Cfg.np c)) [AV.c (AC.v (Value.int IntKind.i64 (ckMask a)))]), cfgK c, decide (Cfg.nb c ≤ 9223372036854775807), decide (err c = Int.ofNat 0), true, true, true, true, true, true, (err c != Int.ofNat 0) == false, cfgK c, true, true, true, true, true, true, true, decide (↑(Cfg.nt c) > Int.ofNat 60) == false, true, decide (↑(Cfg.nb c) > Int.ofNat 60) == false, true, decide (↑(Cfg.ns c) > Int.ofNat 60) == false, true, decide (↑(Cfg.np c) > Int.ofNat 60) == false, true, true, true, true, true, true, true, true, true, true, true, true, true], [])) ∧ ((eqF [some IntKind.i64, some IntKind.i64, some IntKind.i64] [AC.v (Value.int IntKind.i64 (ckT c (IntKind.wrap IntKind.i64 ((ckMask a) + Int.ofNat 1)))), AC.v (Value.int IntKind.i64 (ckS c (IntKind.wrap IntKind.i64 ((ckMask a) + Int.ofNat 1)))), AC.v (Value.int IntKind.i64 (ckP c (IntKind.wrap IntKind.i64 ((ckMask a) + Int.ofNat 1))))] [AC.v (Value.int IntKind.i64 (ckT c (ckMask a))), AC.v (Value.int IntKind.i64 (ckS c (ckMask a))), AC.v (Value.int IntKind.i64 (IntKind.wrap IntKind.i64 (ckP c (ckMask a) + Int.ofNat 1)))]) = false → Q (AV.c (AC.v (Value.bool false)), [], 500000000000000000000000000000000000000109, [eqF [some IntKind.i64, some IntKind.i64, some IntKind.i64] [AC.v (Value.int IntKind.i64 (ckT c (IntKind.wrap IntKind.i64 ((ckMask a) + Int.ofNat 1)))), AC.v (Value.int IntKind.i64 (ckS c (IntKind.wrap IntKind.i64 ((ckMask a) + Int.ofNat 1)))), AC.v (Value.int IntKind.i64 (ckP c (IntKind.wrap IntKind.i64 ((ckMask a) + Int.ofNat 1))))] [AC.v (Value.int IntKind.i64 (ckT c (ckMask a))), AC.v (Value.int IntKind.i64 (ckS c (ckMask a))), AC.v (Value.int IntKind.i64 (IntKind.wrap IntKind.i64 (ckP c (ckMask a) + Int.ofNat 1)))] == false, true, true, true, true, true, true, true, true, true, true, true, true, true, true, true, true, decide (IntKind.wrap IntKind.i64 (ckP c (ckMask a) + Int.ofNat 1) < Cfg.long c) == true, true, true, true, true, decide (ckP c (ckMask a) ≥ Cfg.long c) == false, true, true, true, true, decide (ckP c (ckMask a) < Int.ofNat 0) == false, true, true, decide (ckS c (ckMask a) ≥ ↑(Cfg.ns c)) == false, true, true, true, decide (ckS c (ckMask a) < Int.ofNat 0) == false, true, true, (agA c (ckT c (ckMask a)) (ckS c (ckMask a)) (ckP c (ckMask a)) != IntKind.wrap IntKind.i64 (Int.tdiv (ckMask a) (Cfg.long c))) == false, decide (Cfg.long c ≠ Int.ofNat 0), true, true, netK c (Int.toNat (Cfg.nodes c)) (pairF c (2 * Cfg.np c)), agP (NetS.mk c (Int.toNat (Cfg.nodes c)) (pairF c (2 * Cfg.np c)) [AV.agg [AC.v (Value.int IntKind.i64 (ckT c (ckMask a))), AC.v (Value.int IntKind.i64 (ckS c (ckMask a))), AC.v (Value.int IntKind.i64 (ckP c (ckMask a)))]]), true, true, true, true, (agV c (ckT c (ckMask a)) (ckS c (ckMask a)) (ckP c (ckMask a)) != (ckMask a)) == false, (agE c (ckT c (ckMask a)) (ckS c (ckMask a)) (ckP c (ckMask a)) != Int.ofNat 0) == false, (ckErr (IntKind.wrap IntKind.i64 ((ckMask a) + Int.ofNat 1)) != Int.ofNat 0) == false, (ckErr (ckMask a) != Int.ofNat 0) == false, netK c (Int.toNat (Cfg.nodes c)) (pairF c (2 * Cfg.np c)), agP (NetS.mk c (Int.toNat (Cfg.nodes c)) (pairF c (2 * Cfg.np c)) [AV.agg [AC.v (Value.int IntKind.i64 (ckT c (ckMask a))), AC.v (Value.int IntKind.i64 (ckS c (ckMask a))), AC.v (Value.int IntKind.i64 (ckP c (ckMask a)))]]), true, true, true, true, true, netK c (Int.toNat (Cfg.nodes c)) (pairF c (2 * Cfg.np c)), ofP (NetS.mk c (Int.toNat (Cfg.nodes c)) (pairF c (2 * Cfg.np c)) [AV.c (AC.v (Value.int IntKind.i64 (IntKind.wrap IntKind.i64 ((ckMask a) + Int.ofNat 1))))]), true, netK c (Int.toNat (Cfg.nodes c)) (pairF c (2 * Cfg.np c)), ofP (NetS.mk c (Int.toNat (Cfg.nodes c)) (pairF c (2 * Cfg.np c)) [AV.c (AC.v (Value.int IntKind.i64 (ckMask a)))]), cfgK c, decide (Cfg.nb c ≤ 9223372036854775807), decide (err c = Int.ofNat 0), true, true, true, true, true, true, (err c != Int.ofNat 0) == false, cfgK c, true, true, true, true, true, true, true, decide (↑(Cfg.nt c) > Int.ofNat 60) == false, true, decide (↑(Cfg.nb c) > Int.ofNat 60) == false, true, decide (↑(Cfg.ns c) > Int.ofNat 60) == false, true, decide (↑(Cfg.np c) > Int.ofNat 60) == false, true, true, true, true, true, true, true, true, true, true, true, true, true], [])))) ∧ ((decide (IntKind.wrap IntKind.i64 (ckP c (ckMask a) + Int.ofNat 1) < Cfg.long c)) = false → (((decide (IntKind.wrap IntKind.i64 (ckS c (ckMask a) + Int.ofNat 1) < ↑(Cfg.ns c))) = true → (((eqF [some IntKind.i64, some IntKind.i64, some IntKind.i64] [AC.v (Value.int IntKind.i64 (ckT c (IntKind.wrap IntKind.i64 ((ckMask a) + Int.ofNat 1)))), AC.v (Value.int IntKind.i64 (ckS c (IntKind.wrap IntKind.i64 ((ckMask a) + Int.ofNat 1)))), AC.v (Value.int IntKind.i64 (ckP c (IntKind.wrap IntKind.i64 ((ckMask a) + Int.ofNat 1))))] [AC.v (Value.int IntKind.i64 (ckT c (ckMask a))), AC.v (Value.int IntKind.i64 (IntKind.wrap IntKind.i64 (ckS c (ckMask a) + Int.ofNat 1))), AC.v (Value.int IntKind.i64 (Int.ofNat 0))]) = true → Q (AV.c (AC.v (Value.bool true)), [], 500000000000000000000000000000000000000115, [eqF [some IntKind.i64, some IntKind.i64, some IntKind.i64] [AC.v (Value.int IntKind.i64 (ckT c (IntKind.wrap IntKind.i64 ((ckMask a) + Int.ofNat 1)))), AC.v (Value.int IntKind.i64 (ckS c (IntKind.wrap IntKind.i64 ((ckMask a) + Int.ofNat 1)))), AC.v (Value.int IntKind.i64 (ckP c (IntKind.wrap IntKind.i64 ((ckMask a) + Int.ofNat 1))))] [AC.v (Value.int IntKind.i64 (ckT c (ckMask a))), AC.v (Value.int IntKind.i64 (IntKind.wrap IntKind.i64 (ckS c (ckMask a) + Int.ofNat 1))), AC.v (Value.int IntKind.i64 (Int.ofNat 0))] == true, true, true, true, true, true, true, true, true, true, true, true, true, true, true, decide (IntKind.wrap IntKind.i64 (ckS c (ckMask a) + Int.ofNat 1) < ↑(Cfg.ns c)) == true, true, true, true, decide (IntKind.wrap IntKind.i64 (ckP c (ckMask a) + Int.ofNat 1) < Cfg.long c) == false, true, true, true, true, decide (ckP c (ckMask a) ≥ Cfg.long c) == false, true, true, true, true, decide (ckP c (ckMask a) < Int.ofNat 0) == false, true, true, decide (ckS c (ckMask a) ≥ ↑(Cfg.ns c)) == false, true, true, true, decide (ckS c (ckMask a) < Int.ofNat 0) == false, true, true, (agA c (ckT c (ckMask a)) (ckS c (ckMask a)) (ckP c (ckMask a)) != IntKind.wrap IntKind.i64 (Int.tdiv (ckMask a) (Cfg.long c))) == false, decide (Cfg.long c ≠ Int.ofNat 0), true, true, netK c (Int.toNat (Cfg.nodes c)) (pairF c (2 * Cfg.np c)), agP (NetS.mk c (Int.toNat (Cfg.nodes c)) (pairF c (2 * Cfg.np c)) [AV.agg [AC.v (Value.int IntKind.i64 (ckT c (ckMask a))), AC.v (Value.int IntKind.i64 (ckS c (ckMask a))), AC.v (Value.int IntKind.i64 (ckP c (ckMask a)))]]), true, true, true, true, (agV c (ckT c (ckMask a)) (ckS c (ckMask a)) (ckP c (ckMask a)) != (ckMask a)) == false, (agE c (ckT c (ckMask a)) (ckS c (ckMask a)) (ckP c (ckMask a)) != Int.ofNat 0) == false, (ckErr (IntKind.wrap IntKind.i64 ((ckMask a) + Int.ofNat 1)) != Int.ofNat 0) == false, (ckErr (ckMask a) != Int.ofNat 0) == false, netK c (Int.toNat (Cfg.nodes c)) (pairF c (2 * Cfg.np c)), agP (NetS.mk c (Int.toNat (Cfg.nodes c)) (pairF c (2 * Cfg.np c)) [AV.agg [AC.v (Value.int IntKind.i64 (ckT c (ckMask a))), AC.v (Value.int IntKind.i64 (ckS c (ckMask a))), AC.v (Value.int IntKind.i64 (ckP c (ckMask a)))]]), true, true, true, true, true, netK c (Int.toNat (Cfg.nodes c)) (pairF c (2 * Cfg.np c)), ofP (NetS.mk c (Int.toNat (Cfg.nodes c)) (pairF c (2 * Cfg.np c)) [AV.c (AC.v (Value.int IntKind.i64 (IntKind.wrap IntKind.i64 ((ckMask a) + Int.ofNat 1))))]), true, netK c (Int.toNat (Cfg.nodes c)) (pairF c (2 * Cfg.np c)), ofP (NetS.mk c (Int.toNat (Cfg.nodes c)) (pairF c (2 * Cfg.np c)) [AV.c (AC.v (Value.int IntKind.i64 (ckMask a)))]), cfgK c, decide (Cfg.nb c ≤ 9223372036854775807), decide (err c = Int.ofNat 0), true, true, true, true, true, true, (err c != Int.ofNat 0) == false, cfgK c, true, true, true, true, true, true, true, decide (↑(Cfg.nt c) > Int.ofNat 60) == false, true, decide (↑(Cfg.nb c) > Int.ofNat 60) == false, true, decide (↑(Cfg.ns c) > Int.ofNat 60) == false, true, decide (↑(Cfg.np c) > Int.ofNat 60) == false, true, true, true, true, true, true, true, true, true, true, true, true, true], [])) ∧ ((eqF [some IntKind.i64, some IntKind.i64, some IntKind.i64] [AC.v (Value.int IntKind.i64 (ckT c (IntKind.wrap IntKind.i64 ((ckMask a) + Int.ofNat 1)))), AC.v (Value.int IntKind.i64 (ckS c (IntKind.wrap IntKind.i64 ((ckMask a) + Int.ofNat 1)))), AC.v (Value.int IntKind.i64 (ckP c (IntKind.wrap IntKind.i64 ((ckMask a) + Int.ofNat 1))))] [AC.v (Value.int IntKind.i64 (ckT c (ckMask a))), AC.v (Value.int IntKind.i64 (IntKind.wrap IntKind.i64 (ckS c (ckMask a) + Int.ofNat 1))), AC.v (Value.int IntKind.i64 (Int.ofNat 0))]) = false → Q (AV.c (AC.v (Value.bool false)), [], 500000000000000000000000000000000000000115, [eqF [some IntKind.i64, some IntKind.i64, some IntKind.i64] [AC.v (Value.int IntKind.i64 (ckT c (IntKind.wrap IntKind.i64 ((ckMask a) + Int.ofNat 1)))), AC.v (Value.int IntKind.i64 (ckS c (IntKind.wrap IntKind.i64 ((ckMask a) + Int.ofNat 1)))), AC.v (Value.int IntKind.i64 (ckP c (IntKind.wrap IntKind.i64 ((ckMask a) + Int.ofNat 1))))] [AC.v (Value.int IntKind.i64 (ckT c (ckMask a))), AC.v (Value.int IntKind.i64 (IntKind.wrap IntKind.i64 (ckS c (ckMask a) + Int.ofNat 1))), AC.v (Value.int IntKind.i64 (Int.ofNat 0))] == false, true, true, true, true, true, true, true, true, true, true, true, true, true, true, decide (IntKind.wrap IntKind.i64 (ckS c (ckMask a) + Int.ofNat 1) < ↑(Cfg.ns c)) == true, true, true, true, decide (IntKind.wrap IntKind.i64 (ckP c (ckMask a) + Int.ofNat 1) < Cfg.long c) == false, true, true, true, true, decide (ckP c (ckMask a) ≥ Cfg.long c) == false, true, true, true, true, decide (ckP c (ckMask a) < Int.ofNat 0) == false, true, true, decide (ckS c (ckMask a) ≥ ↑(Cfg.ns c)) == false, true, true, true, decide (ckS c (ckMask a) < Int.ofNat 0) == false, true, true, (agA c (ckT c (ckMask a)) (ckS c (ckMask a)) (ckP c (ckMask a)) != IntKind.wrap IntKind.i64 (Int.tdiv (ckMask a) (Cfg.long c))) == false, decide (Cfg.long c ≠ Int.ofNat 0), true, true, netK c (Int.toNat (Cfg.nodes c)) (pairF c (2 * Cfg.np c)), agP (NetS.mk c (Int.toNat (Cfg.nodes c)) (pairF c (2 * Cfg.np c)) [AV.agg [AC.v (Value.int IntKind.i64 (ckT c (ckMask a))), AC.v (Value.int IntKind.i64 (ckS c (ckMask a))), AC.v (Value.int IntKind.i64 (ckP c (ckMask a)))]]), true, true, true, true, (agV c (ckT c (ckMask a)) (ckS c (ckMask a)) (ckP c (ckMask a)) != (ckMask a)) == false, (agE c (ckT c (ckMask a)) (ckS c (ckMask a)) (ckP c (ckMask a)) != Int.ofNat 0) == false, (ckErr (IntKind.wrap IntKind.i64 ((ckMask a) + Int.ofNat 1)) != Int.ofNat 0) == false, (ckErr (ckMask a) != Int.ofNat 0) == false, netK c (Int.toNat (Cfg.nodes c)) (pairF c (2 * Cfg.np c)), agP (NetS.mk c (Int.toNat (Cfg.nodes c)) (pairF c (2 * Cfg.np c)) [AV.agg [AC.v (Value.int IntKind.i64 (ckT c (ckMask a))), AC.v (Value.int IntKind.i64 (ckS c (ckMask a))), AC.v (Value.int IntKind.i64 (ckP c (ckMask a)))]]), true, true, true, true, true, netK c (Int.toNat (Cfg.nodes c)) (pairF c (2 * Cfg.np c)), ofP (NetS.mk c (Int.toNat (Cfg.nodes c)) (pairF c (2 * Cfg.np c)) [AV.c (AC.v (Value.int IntKind.i64 (IntKind.wrap IntKind.i64 ((ckMask a) + Int.ofNat 1))))]), true, netK c (Int.toNat (Cfg.nodes c)) (pairF c (2 * Cfg.np c)), ofP (NetS.mk c (Int.toNat (Cfg.nodes c)) (pairF c (2 * Cfg.np c)) [AV.c (AC.v (Value.int IntKind.i64 (ckMask a)))]), cfgK c, decide (Cfg.nb c ≤ 9223372036854775807), decide (err c = Int.ofNat 0), true, true, true, true, true, true, (err c != Int.ofNat 0) == false, cfgK c, true, true, true, true, true, true, true, decide (↑(Cfg.nt c) > Int.ofNat 60) == false, true, decide (↑(Cfg.nb c) > Int.ofNat 60) == false, true, decide (↑(Cfg.ns c) > Int.ofNat 60) == false, true, decide (↑(Cfg.np c) > Int.ofNat 60) == false, true, true, true, true, true, true, true, true, true, true, true, true, true], [])))) ∧ ((decide (IntKind.wrap IntKind.i64 (ckS c (ckMask a) + Int.ofNat 1) < ↑(Cfg.ns c))) = false → (((eqF [some IntKind.i64, some IntKind.i64, some IntKind.i64] [AC.v (Value.int IntKind.i64 (ckT c (IntKind.wrap IntKind.i64 ((ckMask a) + Int.ofNat 1)))), AC.v (Value.int IntKind.i64 (ckS c (IntKind.wrap IntKind.i64 ((ckMask a) + Int.ofNat 1)))), AC.v (Value.int IntKind.i64 (ckP c (IntKind.wrap IntKind.i64 ((ckMask a) + Int.ofNat 1))))] [AC.v (Value.int IntKind.i64 (IntKind.wrap IntKind.i64 (ckT c (ckMask a) + Int.ofNat 1))), AC.v (Value.int IntKind.i64 (Int.ofNat 0)), AC.v (Value.int IntKind.i64 (Int.ofNat 0))]) = true → Q (AV.c (AC.v (Value.bool true)), [], 500000000000000000000000000000000000000113, [eqF [some IntKind.i64, some IntKind.i64, some IntKind.i64] [AC.v (Value.int IntKind.i64 (ckT c (IntKind.wrap IntKind.i64 ((ckMask a) + Int.ofNat 1)))), AC.v (Value.int IntKind.i64 (ckS c (IntKind.wrap IntKind.i64 ((ckMask a) + Int.ofNat 1)))), AC.v (Value.int IntKind.i64 (ckP c (IntKind.wrap IntKind.i64 ((ckMask a) + Int.ofNat 1))))] [AC.v (Value.int IntKind.i64 (IntKind.wrap IntKind.i64 (ckT c (ckMask a) + Int.ofNat 1))), AC.v (Value.int IntKind.i64 (Int.ofNat 0)), AC.v (Value.int IntKind.i64 (Int.ofNat 0))] == true, true, true, true, true, true, true, true, true, true, true, true, true, decide (IntKind.wrap IntKind.i64 (ckS c (ckMask a) + Int.ofNat 1) < ↑(Cfg.ns c)) == false, true, true, true, decide (IntKind.wrap IntKind.i64 (ckP c (ckMask a) + Int.ofNat 1) < Cfg.long c) == false, true, true, true, true, decide (ckP c (ckMask a) ≥ Cfg.long c) == false, true, true, true, true, decide (ckP c (ckMask a) < Int.ofNat 0) == false, true, true, decide (ckS c (ckMask a) ≥ ↑(Cfg.ns c)) == false, true, true, true, decide (ckS c (ckMask a) < Int.ofNat 0) == false, true, true, (agA c (ckT c (ckMask a)) (ckS c (ckMask a)) (ckP c (ckMask a)) != IntKind.wrap IntKind.i64 (Int.tdiv (ckMask a) (Cfg.long c))) == false, decide (Cfg.long c ≠ Int.ofNat 0), true, true, netK c (Int.toNat (Cfg.nodes c)) (pairF c (2 * Cfg.np c)), agP (NetS.mk c (Int.toNat (Cfg.nodes c)) (pairF c (2 * Cfg.np c)) [AV.agg [AC.v (Value.int IntKind.i64 (ckT c (ckMask a))), AC.v (Value.int IntKind.i64 (ckS c (ckMask a))), AC.v (Value.int IntKind.i64 (ckP c (ckMask a)))]]), true, true, true, true, (agV c (ckT c (ckMask a)) (ckS c (ckMask a)) (ckP c (ckMask a)) != (ckMask a)) == false, (agE c (ckT c (ckMask a)) (ckS c (ckMask a)) (ckP c (ckMask a)) != Int.ofNat 0) == false, (ckErr (IntKind.wrap IntKind.i64 ((ckMask a) + Int.ofNat 1)) != Int.ofNat 0) == false, (ckErr (ckMask a) != Int.ofNat 0) == false, netK c (Int.toNat (Cfg.nodes c)) (pairF c (2 * Cfg.np c)), agP (NetS.mk c (Int.toNat (Cfg.nodes c)) (pairF c (2 * Cfg.np c)) [AV.agg [AC.v (Value.int IntKind.i64 (ckT c (ckMask a))), AC.v (Value.int IntKind.i64 (ckS c (ckMask a))), AC.v (Value.int IntKind.i64 (ckP c (ckMask a)))]]), true, true, true, true, true, netK c (Int.toNat (Cfg.nodes c)) (pairF c (2 * Cfg.np c)), ofP (NetS.mk c (Int.toNat (Cfg.nodes c)) (pairF c (2 * Cfg.np c)) [AV.c (AC.v (Value.int IntKind.i64 (IntKind.wrap IntKind.i64 ((ckMask a) + Int.ofNat 1))))]), true, netK c (Int.toNat (Cfg.nodes c)) (pairF c (2 * Cfg.np c)), ofP (NetS.mk c (Int.toNat (Cfg.nodes c)) (pairF c (2 * Cfg.np c)) [AV.c (AC.v (Value.int IntKind.i64 (ckMask a)))]), cfgK c, decide (Cfg.nb c ≤ 9223372036854775807), decide (err c = Int.ofNat 0), true, true, true, true, true, true, (err c != Int.ofNat 0) == false, cfgK c, true, true, true, true, true, true, true, decide (↑(Cfg.nt c) > Int.ofNat 60) == false, true, decide (↑(Cfg.nb c) > Int.ofNat 60) == false, true, decide (↑(Cfg.ns c) > Int.ofNat 60) == false, true, decide (↑(Cfg.np c) > Int.ofNat 60) == false, true, true, true, true, true, true, true, true, true, true, true, true, true], [])) ∧ ((eqF [some IntKind.i64, some IntKind.i64, some IntKind.i64] [AC.v (Value.int IntKind.i64 (ckT c (IntKind.wrap IntKind.i64 ((ckMask a) + Int.ofNat 1)))), AC.v (Value.int IntKind.i64 (ckS c (IntKind.wrap IntKind.i64 ((ckMask a) + Int.ofNat 1)))), AC.v (Value.int IntKind.i64 (ckP c (IntKind.wrap IntKind.i64 ((ckMask a) + Int.ofNat 1))))] [AC.v (Value.int IntKind.i64 (IntKind.wrap IntKind.i64 (ckT c (ckMask a) + Int.ofNat 1))), AC.v (Value.int IntKind.i64 (Int.ofNat 0)), AC.v (Value.int IntKind.i64 (Int.ofNat 0))]) = false → Q (AV.c (AC.v (Value.bool false)), [], 500000000000000000000000000000000000000113, [eqF [some IntKind.i64, some IntKind.i64, some IntKind.i64] [AC.v (Value.int IntKind.i64 (ckT c (IntKind.wrap IntKind.i64 ((ckMask a) + Int.ofNat 1)))), AC.v (Value.int IntKind.i64 (ckS c (IntKind.wrap IntKind.i64 ((ckMask a) + Int.ofNat 1)))), AC.v (Value.int IntKind.i64 (ckP c (IntKind.wrap IntKind.i64 ((ckMask a) + Int.ofNat 1))))] [AC.v (Value.int IntKind.i64 (IntKind.wrap IntKind.i64 (ckT c (ckMask a) + Int.ofNat 1))), AC.v (Value.int IntKind.i64 (Int.ofNat 0)), AC.v (Value.int IntKind.i64 (Int.ofNat 0))] == false, true, true, true, true, true, true, true, true, true, true, true, true, decide (IntKind.wrap IntKind.i64 (ckS c (ckMask a) + Int.ofNat 1) < ↑(Cfg.ns c)) == false, true, true, true, decide (IntKind.wrap IntKind.i64 (ckP c (ckMask a) + Int.ofNat 1) < Cfg.long c) == false, true, true, true, true, decide (ckP c (ckMask a) ≥ Cfg.long c) == false, true, true, true, true, decide (ckP c (ckMask a) < Int.ofNat 0) == false, true, true, decide (ckS c (ckMask a) ≥ ↑(Cfg.ns c)) == false, true, true, true, decide (ckS c (ckMask a) < Int.ofNat 0) == false, true, true, (agA c (ckT c (ckMask a)) (ckS c (ckMask a)) (ckP c (ckMask a)) != IntKind.wrap IntKind.i64 (Int.tdiv (ckMask a) (Cfg.long c))) == false, decide (Cfg.long c ≠ Int.ofNat 0), true, true, netK c (Int.toNat (Cfg.nodes c)) (pairF c (2 * Cfg.np c)), agP (NetS.mk c (Int.toNat (Cfg.nodes c)) (pairF c (2 * Cfg.np c)) [AV.agg [AC.v (Value.int IntKind.i64 (ckT c (ckMask a))), AC.v (Value.int IntKind.i64 (ckS c (ckMask a))), AC.v (Value.int IntKind.i64 (ckP c (ckMask a)))]]), true, true, true, true, (agV c (ckT c (ckMask a)) (ckS c (ckMask a)) (ckP c (ckMask a)) != (ckMask a)) == false, (agE c (ckT c (ckMask a)) (ckS c (ckMask a)) (ckP c (ckMask a)) != Int.ofNat 0) == false, (ckErr (IntKind.wrap IntKind.i64 ((ckMask a) + Int.ofNat 1)) != Int.ofNat 0) == false, (ckErr (ckMask a) != Int.ofNat 0) == false, netK c (Int.toNat (Cfg.nodes c)) (pairF c (2 * Cfg.np c)), agP (NetS.mk c (Int.toNat (Cfg.nodes c)) (pairF c (2 * Cfg.np c)) [AV.agg [AC.v (Value.int IntKind.i64 (ckT c (ckMask a))), AC.v (Value.int IntKind.i64 (ckS c (ckMask a))), AC.v (Value.int IntKind.i64 (ckP c (ckMask a)))]]), true, true, true, true, true, netK c (Int.toNat (Cfg.nodes c)) (pairF c (2 * Cfg.np c)), ofP (NetS.mk c (Int.toNat (Cfg.nodes c)) (pairF c (2 * Cfg.np c)) [AV.c (AC.v (Value.int IntKind.i64 (IntKind.wrap IntKind.i64 ((ckMask a) + Int.ofNat 1))))]), true, netK c (Int.toNat (Cfg.nodes c)) (pairF c (2 * Cfg.np c)), ofP (NetS.mk c (Int.toNat (Cfg.nodes c)) (pairF c (2 * Cfg.np c)) [AV.c (AC.v (Value.int IntKind.i64 (ckMask a)))]), cfgK c, decide (Cfg.nb c ≤ 9223372036854775807), decide (err c = Int.ofNat 0), true, true, true, true, true, true, (err c != Int.ofNat 0) == false, cfgK c, true, true, true, true, true, true, true, decide (↑(Cfg.nt c) > Int.ofNat 60) == false, true, decide (↑(Cfg.nb c) > Int.ofNat 60) == false, true, decide (↑(Cfg.ns c) > Int.ofNat 60) == false, true, decide (↑(Cfg.np c) > Int.ofNat 60) == false, true, true, true, true, true, true, true, true, true, true, true, true, true], [])))))))))))))))))))))))))) :
    ∃ p r, lwR (ENl0 Tryd.prog err ctsCk) 14 mS c [i64 a] p [] = some r ∧ Q r := by
  rcases Bool.eq_false_or_eq_true (ckErr (ckMask a) != Int.ofNat 0) with h2 | h2
  · have g2 := H.1 h2
    exact ⟨([.b false, .a, .a, .a, .b false, .a, .a, .a, .b false, .a, .a, .a, .b false, .a, .a, .b false, .a, .b true, .a, .a, .a, .a, .a, .a, .a, .a, .a, .a, .a, .a, .a, .a, .a, .a, .a, .a, .a, .a, .a, .a, .a, .a, .a, .a, .a, .a, .a, .a, .a, .a] : List Dec), _, by kernel_rfl, g2⟩
  · have g2 := H.2 h2
    rcases Bool.eq_false_or_eq_true (ckErr (IntKind.wrap IntKind.i64 ((ckMask a) + Int.ofNat 1)) != Int.ofNat 0) with h4 | h4
    · have g4 := g2.1 h4
      exact ⟨([.b false, .a, .a, .a, .b false, .a, .a, .a, .b false, .a, .a, .a, .b false, .a, .a, .b false, .a, .b false, .a, .b true, .a, .a, .a, .a, .a, .a, .a, .a, .a, .a, .a, .a, .a, .a, .a, .a, .a, .a, .a, .a, .a, .a, .a, .a, .a, .a, .a, .a, .a, .a] : List Dec), _, by kernel_rfl, g4⟩
    · have g4 := g2.2 h4
      rcases Bool.eq_false_or_eq_true (agE c (ckT c (ckMask a)) (ckS c (ckMask a)) (ckP c (ckMask a)) != Int.ofNat 0) with h6 | h6
      · have g6 := g4.1 h6
        exact ⟨([.b false, .a, .a, .a, .b false, .a, .a, .a, .b false, .a, .a, .a, .b false, .a, .a, .b false, .a, .b false, .a, .b false, .a, .b true, .a, .a, .a, .a, .a, .a, .a, .a, .a, .a, .a, .a, .a, .a, .a, .a, .a, .a, .a, .a, .a, .a, .a, .a, .a, .a, .a, .a] : List Dec), _, by kernel_rfl, g6⟩
      · have g6 := g4.2 h6
        rcases Bool.eq_false_or_eq_true (agV c (ckT c (ckMask a)) (ckS c (ckMask a)) (ckP c (ckMask a)) != (ckMask a)) with h8 | h8
        · have g8 := g6.1 h8
          exact ⟨([.b false, .a, .a, .a, .b false, .a, .a, .a, .b false, .a, .a, .a, .b false, .a, .a, .b false, .a, .b false, .a, .b false, .a, .b false, .a, .a, .b true, .a, .a, .a, .a, .a, .a, .a, .a, .a, .a, .a, .a, .a, .a, .a, .a, .a, .a, .a, .a, .a, .a, .a, .a, .a] : List Dec), _, by kernel_rfl, g8⟩
        · have g8 := g6.2 h8
          rcases Bool.eq_false_or_eq_true (agA c (ckT c (ckMask a)) (ckS c (ckMask a)) (ckP c (ckMask a)) != IntKind.wrap IntKind.i64 (Int.tdiv (ckMask a) (Cfg.long c))) with h10 | h10
          · have g10 := g8.1 h10
            exact ⟨([.b false, .a, .a, .a, .b false, .a, .a, .a, .b false, .a, .a, .a, .b false, .a, .a, .b false, .a, .b false, .a, .b false, .a, .b false, .a, .a, .b false, .a, .a, .a, .a, .a, .a, .a, .b true, .a, .a, .a, .a, .a, .a, .a, .a, .a, .a, .a, .a, .a, .a, .a, .a, .a] : List Dec), _, by kernel_rfl, g10⟩
          · have g10 := g8.2 h10
            rcases Bool.eq_false_or_eq_true (decide (ckS c (ckMask a) < Int.ofNat 0)) with h12 | h12
            · have g12 := g10.1 h12
              exact ⟨([.b false, .a, .a, .a, .b false, .a, .a, .a, .b false, .a, .a, .a, .b false, .a, .a, .b false, .a, .b false, .a, .b false, .a, .b false, .a, .a, .b false, .a, .a, .a, .a, .a, .a, .a, .b false, .a, .a, .b true, .a, .a, .a, .a, .a, .a, .a, .a, .a, .a, .a, .a, .a, .a] : List Dec), _, by kernel_rfl, g12⟩
            · have g12 := g10.2 h12
              rcases Bool.eq_false_or_eq_true (decide (ckS c (ckMask a) ≥ ↑(Cfg.ns c))) with h14 | h14
              · have g14 := g12.1 h14
                exact ⟨([.b false, .a, .a, .a, .b false, .a, .a, .a, .b false, .a, .a, .a, .b false, .a, .a, .b false, .a, .b false, .a, .b false, .a, .b false, .a, .a, .b false, .a, .a, .a, .a, .a, .a, .a, .b false, .a, .a, .b false, .a, .a, .a, .a, .a, .b true, .a, .a, .a, .a, .a, .a, .a, .a] : List Dec), _, by kernel_rfl, g14⟩
              · have g14 := g12.2 h14
                rcases Bool.eq_false_or_eq_true (decide (ckP c (ckMask a) < Int.ofNat 0)) with h16 | h16
                · have g16 := g14.1 h16
                  exact ⟨([.b false, .a, .a, .a, .b false, .a, .a, .a, .b false, .a, .a, .a, .b false, .a, .a, .b false, .a, .b false, .a, .b false, .a, .b false, .a, .a, .b false, .a, .a, .a, .a, .a, .a, .a, .b false, .a, .a, .b false, .a, .a, .a, .a, .a, .b false, .a, .a, .b true, .a, .a, .a, .a, .a] : List Dec), _, by kernel_rfl, g16⟩
                · have g16 := g14.2 h16
                  rcases Bool.eq_false_or_eq_true (decide (ckP c (ckMask a) ≥ Cfg.long c)) with h18 | h18
                  · have g18 := g16.1 h18
                    exact ⟨([.b false, .a, .a, .a, .b false, .a, .a, .a, .b false, .a, .a, .a, .b false, .a, .a, .b false, .a, .b false, .a, .b false, .a, .b false, .a, .a, .b false, .a, .a, .a, .a, .a, .a, .a, .b false, .a, .a, .b false, .a, .a, .a, .a, .a, .b false, .a, .a, .b false, .a, .a, .a, .a, .b true] : List Dec), _, by kernel_rfl, g18⟩
                  · have g18 := g16.2 h18
                    rcases Bool.eq_false_or_eq_true (decide (IntKind.wrap IntKind.i64 (ckP c (ckMask a) + Int.ofNat 1) < Cfg.long c)) with h20 | h20
                    · have g20 := g18.1 h20
                      rcases Bool.eq_false_or_eq_true (eqF [some IntKind.i64, some IntKind.i64, some IntKind.i64] [AC.v (Value.int IntKind.i64 (ckT c (IntKind.wrap IntKind.i64 ((ckMask a) + Int.ofNat 1)))), AC.v (Value.int IntKind.i64 (ckS c (IntKind.wrap IntKind.i64 ((ckMask a) + Int.ofNat 1)))), AC.v (Value.int IntKind.i64 (ckP c (IntKind.wrap IntKind.i64 ((ckMask a) + Int.ofNat 1))))] [AC.v (Value.int IntKind.i64 (ckT c (ckMask a))), AC.v (Value.int IntKind.i64 (ckS c (ckMask a))), AC.v (Value.int IntKind.i64 (IntKind.wrap IntKind.i64 (ckP c (ckMask a) + Int.ofNat 1)))]) with h22 | h22
                      · have g22 := g20.1 h22
                        exact ⟨([.b false, .a, .a, .a, .b false, .a, .a, .a, .b false, .a, .a, .a, .b false, .a, .a, .b false, .a, .b false, .a, .b false, .a, .b false, .a, .a, .b false, .a, .a, .a, .a, .a, .a, .a, .b false, .a, .a, .b false, .a, .a, .a, .a, .a, .b false, .a, .a, .b false, .a, .a, .a, .a, .b false, .b true, .b true] : List Dec), _, by kernel_rfl, g22⟩
                      · have g22 := g20.2 h22
                        exact ⟨([.b false, .a, .a, .a, .b false, .a, .a, .a, .b false, .a, .a, .a, .b false, .a, .a, .b false, .a, .b false, .a, .b false, .a, .b false, .a, .a, .b false, .a, .a, .a, .a, .a, .a, .a, .b false, .a, .a, .b false, .a, .a, .a, .a, .a, .b false, .a, .a, .b false, .a, .a, .a, .a, .b false, .b true, .b false] : List Dec), _, by kernel_rfl, g22⟩
                    · have g20 := g18.2 h20
                      rcases Bool.eq_false_or_eq_true (decide (IntKind.wrap IntKind.i64 (ckS c (ckMask a) + Int.ofNat 1) < ↑(Cfg.ns c))) with h22 | h22
                      · have g22 := g20.1 h22
                        rcases Bool.eq_false_or_eq_true (eqF [some IntKind.i64, some IntKind.i64, some IntKind.i64] [AC.v (Value.int IntKind.i64 (ckT c (IntKind.wrap IntKind.i64 ((ckMask a) + Int.ofNat 1)))), AC.v (Value.int IntKind.i64 (ckS c (IntKind.wrap IntKind.i64 ((ckMask a) + Int.ofNat 1)))), AC.v (Value.int IntKind.i64 (ckP c (IntKind.wrap IntKind.i64 ((ckMask a) + Int.ofNat 1))))] [AC.v (Value.int IntKind.i64 (ckT c (ckMask a))), AC.v (Value.int IntKind.i64 (IntKind.wrap IntKind.i64 (ckS c (ckMask a) + Int.ofNat 1))), AC.v (Value.int IntKind.i64 (Int.ofNat 0))]) with h24 | h24
                        · have g24 := g22.1 h24
                          exact ⟨([.b false, .a, .a, .a, .b false, .a, .a, .a, .b false, .a, .a, .a, .b false, .a, .a, .b false, .a, .b false, .a, .b false, .a, .b false, .a, .a, .b false, .a, .a, .a, .a, .a, .a, .a, .b false, .a, .a, .b false, .a, .a, .a, .a, .a, .b false, .a, .a, .b false, .a, .a, .a, .a, .b false, .b false, .b true, .b true] : List Dec), _, by kernel_rfl, g24⟩
                        · have g24 := g22.2 h24
                          exact ⟨([.b false, .a, .a, .a, .b false, .a, .a, .a, .b false, .a, .a, .a, .b false, .a, .a, .b false, .a, .b false, .a, .b false, .a, .b false, .a, .a, .b false, .a, .a, .a, .a, .a, .a, .a, .b false, .a, .a, .b false, .a, .a, .a, .a, .a, .b false, .a, .a, .b false, .a, .a, .a, .a, .b false, .b false, .b true, .b false] : List Dec), _, by kernel_rfl, g24⟩
                      · have g22 := g20.2 h22
                        rcases Bool.eq_false_or_eq_true (eqF [some IntKind.i64, some IntKind.i64, some IntKind.i64] [AC.v (Value.int IntKind.i64 (ckT c (IntKind.wrap IntKind.i64 ((ckMask a) + Int.ofNat 1)))), AC.v (Value.int IntKind.i64 (ckS c (IntKind.wrap IntKind.i64 ((ckMask a) + Int.ofNat 1)))), AC.v (Value.int IntKind.i64 (ckP c (IntKind.wrap IntKind.i64 ((ckMask a) + Int.ofNat 1))))] [AC.v (Value.int IntKind.i64 (IntKind.wrap IntKind.i64 (ckT c (ckMask a) + Int.ofNat 1))), AC.v (Value.int IntKind.i64 (Int.ofNat 0)), AC.v (Value.int IntKind.i64 (Int.ofNat 0))]) with h24 | h24
                        · have g24 := g22.1 h24
                          exact ⟨([.b false, .a, .a, .a, .b false, .a, .a, .a, .b false, .a, .a, .a, .b false, .a, .a, .b false, .a, .b false, .a, .b false, .a, .b false, .a, .a, .b false, .a, .a, .a, .a, .a, .a, .a, .b false, .a, .a, .b false, .a, .a, .a, .a, .a, .b false, .a, .a, .b false, .a, .a, .a, .a, .b false, .b false, .b false, .b true] : List Dec), _, by kernel_rfl, g24⟩
                        · have g24 := g22.2 h24
                          exact ⟨([.b false, .a, .a, .a, .b false, .a, .a, .a, .b false, .a, .a, .a, .b false, .a, .a, .b false, .a, .b false, .a, .b false, .a, .b false, .a, .a, .b false, .a, .a, .a, .a, .a, .a, .a, .b false, .a, .a, .b false, .a, .a, .a, .a, .a, .b false, .a, .a, .b false, .a, .a, .a, .a, .b false, .b false, .b false, .b false] : List Dec), _, by kernel_rfl, g24⟩
end Go.Proofs.YtgfmjbfjodidpaaDoor
end
/- ClocksBack: what its runs answer. -/
section
namespace Go.Proofs.YtgfmjbfjodidpaaDoor
open Go.RowKit

theorem ckMask_in (a : Int) : 0 ≤ ckMask a ∧ ckMask a ≤ 1099511627775 := by
  unfold ckMask
  have h : BitVec.toNat (BitVec.ofInt (IntKind.bits IntKind.i64) a &&& BitVec.ofInt (IntKind.bits IntKind.i64) 1099511627775) ≤ 1099511627775 := by
    rw [BitVec.toNat_and]
    exact Nat.le_trans Nat.and_le_right (by decide)
  rw [wrap_nat _ (by omega) (by omega)]
  omega
/-- one time alone has an age -/
theorem time_uniq {n L T S P A : Int} (hn : 0 < n) (hL : 0 < L) (h1 : 0 ≤ S) (h2 : S < n) (h3 : 0 ≤ P) (h4 : P < L) (e : A = T * (n * L) + S * L + P) : A / (n * L) = T ∧ A % (n * L) / L = S ∧ A % (n * L) % L = P := by
  have hR : 0 < n * L := Int.mul_pos hn hL
  have a1 : (S + 1) * L ≤ n * L := Int.mul_le_mul_of_nonneg_right (by omega) (by omega)
  have a2 : (S + 1) * L = S * L + L := by rw [Int.add_mul, Int.one_mul]
  have a3 : 0 ≤ S * L := Int.mul_nonneg h1 (by omega)
  have m1 : A % (n * L) = S * L + P := by
    rw [e, show T * (n * L) + S * L + P = (S * L + P) + T * (n * L) by omega, Int.add_mul_emod_self_right]
    exact Int.emod_eq_of_lt (by omega) (by omega)
  have d1 : A / (n * L) = T := by
    rw [e, show T * (n * L) + S * L + P = (S * L + P) + T * (n * L) by omega, Int.add_mul_ediv_right _ _ (by omega), Int.ediv_eq_zero_of_lt (by omega) (by omega)]
    omega
  rw [m1]
  refine ⟨d1, ?_, ?_⟩
  · rw [Int.add_comm, Int.add_mul_ediv_right _ _ (by omega), Int.ediv_eq_zero_of_lt (by omega) (by omega)]
    omega
  · rw [Int.add_comm, Int.add_mul_emod_self_right]
    exact Int.emod_eq_of_lt (by omega) (by omega)
theorem time_of {n L A : Int} (hn : 0 < n) (hL : 0 < L) : A = A / (n * L) * (n * L) + A % (n * L) / L * L + A % (n * L) % L ∧ 0 ≤ A % (n * L) / L ∧ A % (n * L) / L < n ∧ 0 ≤ A % (n * L) % L ∧ A % (n * L) % L < L := by
  have hR : 0 < n * L := Int.mul_pos hn hL
  have b1 := Int.mul_ediv_add_emod A (n * L)
  have b2 := Int.emod_nonneg A (show n * L ≠ 0 by omega)
  have b3 := Int.emod_lt_of_pos A hR
  have b4 := Int.mul_ediv_add_emod (A % (n * L)) L
  have b5 := Int.emod_nonneg (A % (n * L)) (show L ≠ 0 by omega)
  have b6 := Int.emod_lt_of_pos (A % (n * L)) hL
  have b7 := Int.ediv_nonneg (a := A % (n * L)) (b := L) (by omega) (by omega)
  have b8 : A % (n * L) / L < n := Int.ediv_lt_of_lt_mul hL b3
  have c1 : n * L * (A / (n * L)) = A / (n * L) * (n * L) := Int.mul_comm _ _
  have c2 : L * (A % (n * L) / L) = A % (n * L) / L * L := Int.mul_comm _ _
  exact ⟨by omega, b7, b8, b5, b6⟩
theorem ofP_eq (c : Cfg) (nq : Nat) (fq : Nat → Int) (a : Int) : ofP ⟨c, nq, fq, [.c (.v (.int .i64 a))]⟩ = ckPre c nq := rfl
theorem agP_eq (c : Cfg) (nq : Nat) (fq : Nat → Int) (x y z : Int) : agP ⟨c, nq, fq, [.agg [.v (.int .i64 x), .v (.int .i64 y), .v (.int .i64 z)]]⟩ = (ckPre c nq && slotsOk c) := rfl
theorem cofP_eq (c : Cfg) (a : Int) : cofP ⟨c, [.c (.v (.int .i64 a))]⟩ = ckPre c 1 := rfl
theorem cagP_eq (c : Cfg) (x y z : Int) : cagP ⟨c, [.agg [.v (.int .i64 x), .v (.int .i64 y), .v (.int .i64 z)]]⟩ = ckPre c 1 := rfl
theorem good_pre {c : Cfg} (g : CfgGood c) {nq : Nat} (h : 0 < nq) : ckPre c nq = true := by
  have := g.s1
  have := g.s16
  have := g.l1
  have := g.l4
  have := g.n4
  simp [ckPre]; omega
theorem good_slots {c : Cfg} (g : CfgGood c) : slotsOk c = true := by
  refine List.all_eq_true.2 fun i hi => ?_
  have := g.fs i (by simpa using hi)
  simpa using this.1
set_option maxRecDepth 1000000 in
theorem cb_run1 (c : Cfg) (a : Int) (h0 : cfgErr c ≠ 0) (hb : c.nb ≤ 9223372036854775807) : ∃ p r, lwR (ENl1 Tryd.prog cfgErr ctsCk) 14 mS c [i64 a] p [] = some r ∧ GoodF (bo true) r := by
  refine cbE cfgErr c a _ ?_
  (repeat' (first | refine ⟨fun h => ?_, fun h => ?_⟩ | fail))
  all_goals (refine ⟨rfl, (by first | (unfold lim; omega) | (dsimp only; unfold lim; omega)), ?_, by simp⟩)
  all_goals (simp_all [allT, cfgK_t, netK_t, intsOk_ints, stsOk_sts, intsOk_s, stsOk_s, h0, hb])
set_option maxRecDepth 1000000 in
theorem cb_run0 (c : Cfg) (a : Int) (h0 : cfgErr c = 0) (hb : c.nb ≤ 9223372036854775807) : ∃ p r, lwR (ENl0 Tryd.prog cfgErr ctsCk) 14 mS c [i64 a] p [] = some r ∧ GoodF (bo true) r := by
  refine cbA cfgErr c a _ ?_
  have g := cfg_good h0
  have hA := ckMask_in a
  obtain ⟨A, eA⟩ : ∃ A, ckMask a = A := ⟨_, rfl⟩
  rw [eA] at hA
  have hp0 := good_pre g (nq := c.nodes.toNat) (by have := g.n4; omega)
  have hp1 := good_pre g (nq := 1) (by omega)
  have hsl := good_slots g
  have := g.s1
  have := g.s16
  have := g.l1
  have := g.l4
  have := g.n4
  have := g.n16
  have := g.p8
  have := g.nt
  have := g.nb
  obtain ⟨e1, e2, e3, e4, e5⟩ := time_of (n := c.ns) (L := c.long) (A := A) (by omega) (by omega)
  have iA : ckIn A := by unfold ckIn ckM; omega
  have iB : ckIn (A + 1) := by unfold ckIn ckM; omega
  have u := fun (T S P : Int) h1 h2 h3 h4 e => time_uniq (n := c.ns) (L := c.long) (T := T) (S := S) (P := P) (A := A + 1) (by omega) (by omega) h1 h2 h3 h4 e
  have kA : ckErr A = 0 := by unfold ckErr; rw [if_pos iA]
  have kB : ckErr (A + 1) = 0 := by unfold ckErr; rw [if_pos iB]
  have tA : ckT c A = A / (c.ns * c.long) := by unfold ckT; rw [if_pos iA]
  have sA : ckS c A = A % (c.ns * c.long) / c.long := by unfold ckS; rw [if_pos iA]
  have pA : ckP c A = A % (c.ns * c.long) % c.long := by unfold ckP; rw [if_pos iA]
  have tB : ckT c (A + 1) = (A + 1) / (c.ns * c.long) := by unfold ckT; rw [if_pos iB]
  have sB : ckS c (A + 1) = (A + 1) % (c.ns * c.long) / c.long := by unfold ckS; rw [if_pos iB]
  have pB : ckP c (A + 1) = (A + 1) % (c.ns * c.long) % c.long := by unfold ckP; rw [if_pos iB]
  have hR : 0 < (c.ns : Int) * c.long := Int.mul_pos (by omega) (by omega)
  have d0 := Int.ediv_nonneg (a := A) (b := c.ns * c.long) (by omega) (by omega)
  have d1 : A / (c.ns * c.long) ≤ A := Int.ediv_le_self _ (by omega)
  have hL : Int.tdiv A c.long = A / c.long := Int.tdiv_eq_ediv_of_nonneg (by omega)
  have hL0 := Int.ediv_nonneg (a := A) (b := c.long) (by omega) (by omega)
  have hL1 : A / c.long ≤ A := Int.ediv_le_self _ (by omega)
  have hah : A / c.long = A / (c.ns * c.long) * c.ns + A % (c.ns * c.long) / c.long := by
    generalize A / (c.ns * c.long) = T at *
    generalize A % (c.ns * c.long) / c.long = S at *
    generalize A % (c.ns * c.long) % c.long = P at *
    rw [e1, show T * (↑c.ns * c.long) + S * c.long + P = P + (T * c.ns + S) * c.long by rw [Int.add_mul, Int.mul_assoc]; omega, Int.add_mul_ediv_right _ _ (by omega), Int.ediv_eq_zero_of_lt (by omega) (by omega)]
    omega
  have r1 : (c.ns : Int) * c.long = c.ns * c.long := rfl
  generalize A / (c.ns * c.long) = T at *
  generalize A % (c.ns * c.long) / c.long = S at *
  generalize A % (c.ns * c.long) % c.long = P at *
  have ok : agOk c T S P := by unfold agOk ckM; exact ⟨d0, by omega, e2, e3, e4, e5, by omega⟩
  have aE : agE c T S P = 0 := by unfold agE; rw [if_pos ok]
  have aV : agV c T S P = A := by unfold agV; rw [if_pos ok, ← e1]
  have aA : agA c T S P = A / c.long := by unfold agA; rw [if_pos ok, hah]
  have w1 : IntKind.wrap IntKind.i64 (A + Int.ofNat 1) = A + 1 := wrap_nat _ (by simp; omega) (by simp; omega)
  have w2 : IntKind.wrap IntKind.i64 (A / c.long) = A / c.long := wrap_nat _ (by omega) (by omega)
  have w3 : IntKind.wrap IntKind.i64 (P + Int.ofNat 1) = P + 1 := wrap_nat _ (by simp; omega) (by simp; omega)
  have w4 : IntKind.wrap IntKind.i64 (S + Int.ofNat 1) = S + 1 := wrap_nat _ (by simp; omega) (by simp; omega)
  have w5 : IntKind.wrap IntKind.i64 (T + Int.ofNat 1) = T + 1 := wrap_nat _ (by simp; omega) (by simp; omega)
  have n1 : P + 1 < c.long → (A + 1) / (c.ns * c.long) = T ∧ (A + 1) % (c.ns * c.long) / c.long = S ∧ (A + 1) % (c.ns * c.long) % c.long = P + 1 := fun h => u T S (P + 1) e2 e3 (by omega) h (by omega)
  have n2 : ¬ P + 1 < c.long → S + 1 < c.ns → (A + 1) / (c.ns * c.long) = T ∧ (A + 1) % (c.ns * c.long) / c.long = S + 1 ∧ (A + 1) % (c.ns * c.long) % c.long = 0 := fun h h' => u T (S + 1) 0 (by omega) h' (by omega) (by omega) (by
    have : (S + 1) * c.long = S * c.long + c.long := by rw [Int.add_mul, Int.one_mul]
    omega)
  have n3 : ¬ P + 1 < c.long → ¬ S + 1 < c.ns → (A + 1) / (c.ns * c.long) = T + 1 ∧ (A + 1) % (c.ns * c.long) / c.long = 0 ∧ (A + 1) % (c.ns * c.long) % c.long = 0 := fun h h' => u (T + 1) 0 0 (by omega) (by omega) (by omega) (by omega) (by
    have b1 : (T + 1) * (c.ns * c.long) = T * (c.ns * c.long) + c.ns * c.long := by rw [Int.add_mul, Int.one_mul]
    have b2 : (S + 1) * c.long = S * c.long + c.long := by rw [Int.add_mul, Int.one_mul]
    have b3 : S + 1 = c.ns := by omega
    rw [b3] at b2
    omega)
  simp only [eA, w1, kA, kB, tA, sA, pA, tB, sB, pB, aE, aV, aA, hL, w2, w3, w4, w5, eqF3]
  clear u e1 hah
  generalize (A + 1) / (c.ns * c.long) = T' at *
  generalize (A + 1) % (c.ns * c.long) / c.long = S' at *
  generalize (A + 1) % (c.ns * c.long) % c.long = P' at *
  (repeat' (first | refine ⟨fun h => ?_, fun h => ?_⟩ | fail))
  all_goals (simp only [bne_iff_ne, ne_eq, beq_iff_eq, Bool.and_eq_true, Bool.and_eq_false_iff, bne_eq_false_iff_eq, decide_eq_true_eq, decide_eq_false_iff_not, Int.ofNat_eq_natCast, Int.cast_ofNat_Int, gt_iff_lt, ge_iff_le] at *)
  all_goals (first | (exfalso; omega) | skip)
  all_goals (refine ⟨?_, (by first | (unfold lim; omega) | (dsimp only; unfold lim; omega)), ?_, by simp⟩)
  all_goals (first | rfl | skip)
  all_goals (first | (simp_all [allT, cfgK_t, netK_t, intsOk_ints, stsOk_sts, intsOk_s, stsOk_s, ofP_eq, agP_eq]; done) | (simp [allT, cfgK_t, netK_t, intsOk_ints, stsOk_sts, intsOk_s, stsOk_s, ofP_eq, agP_eq, hp0, hsl, h0]; omega) | skip)
end Go.Proofs.YtgfmjbfjodidpaaDoor
end
