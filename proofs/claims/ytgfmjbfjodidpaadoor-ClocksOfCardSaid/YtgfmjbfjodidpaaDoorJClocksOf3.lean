/- Parts, one behind the other. Contracts of clocks.Ahead, and of sennitref06. -/
import Derived.Test.YtgfmjbfjodidpaaDoorJClocksOf2
import Derived.Test.YtgfmjbfjodidpaaDoorJB0x17
import Derived.Test.YtgfmjbfjodidpaaDoorJClocksOf0
set_option linter.unusedSimpArgs false
set_option linter.unusedVariables false
/- Contracts of clocks.Ahead, and of sennitref06. -/
section
namespace Go.Proofs.YtgfmjbfjodidpaaDoor
open Go.RowKit

def cahdR : NetS → AV
  | ⟨c, _, _, [.agg [.v (.int .i64 x), .v (.int .i64 y), .v (.int .i64 z)]]⟩ => i64 (agA c x y z)
  | _ => i64 0
def ctCkAhead : CtF := ctRd netRd cahdR agP
theorem ag_small {c : Cfg} {nq : Nat} {x y z : Int} (h : ckPre c nq = true) (h2 : agOk c x y z) : 0 ≤ x ∧ x ≤ 1099511627776 ∧ 0 ≤ x * c.ns ∧ x * c.ns ≤ 17592186044416 ∧ 0 ≤ y ∧ y < 16 := by
  obtain ⟨_, r1, r2, q1, q2, q3, q4, q5⟩ := ck_round h
  obtain ⟨g1, g2, g3, g4, g5, g6, g7⟩ := h2
  unfold ckM at g2
  have a1 : x * c.ns ≤ 1099511627776 * 16 := mul_le_mul_of g1 g2 (by omega) (by omega)
  exact ⟨g1, g2, Int.mul_nonneg g1 (by omega), by omega, g3, by omega⟩
set_option maxRecDepth 100000 in
theorem ct_ckAhead : CtOk Tryd.prog 60 ctCkAhead := by
  refine ctRd_ofE (E := ENag Tryd.prog) hENag netRd (fuel := 300) (str := 10000000000000000000000000000000000000000) ⟨_, _, Tryd.func60, rfl⟩ (fun s => by unfold cahdR; split <;> rfl) fun s hs => ?_
  unfold agP at hs
  split at hs
  · rename_i c nq fq x y z
    refine (?_ : (∃ p q, ckAheadE Tryd.prog c nq fq x y z p = some q ∧ GoodF (i64 (agA c x y z)) q) → _) (ckAhead c nq fq x y z _ ?_)
    · rintro ⟨p, q, h1, h2⟩
      exact ⟨p, [], q, h1, h2⟩
    · have hP : agP ⟨c, nq, fq, [.agg [.v (.int .i64 x), .v (.int .i64 y), .v (.int .i64 z)]]⟩ = true := hs
      rw [Bool.and_eq_true] at hs
      by_cases hy : agOk c x y z
      · obtain ⟨g1, g2, g3, g4, g5, g6⟩ := ag_small hs.1 hy
        have w1 : IntKind.wrap IntKind.i64 (x * ↑c.ns) = x * ↑c.ns := wrap_nat _ (by omega) (by omega)
        have w2 : IntKind.wrap IntKind.i64 (x * ↑c.ns + y) = x * ↑c.ns + y := wrap_nat _ (by omega) (by omega)
        (repeat' (first | refine ⟨fun h => ?_, fun h => ?_⟩ | fail))
        · exfalso; simp [agE, hy] at h
        · refine ⟨?_, (by first | (unfold lim; omega) | (dsimp only; unfold lim; omega)), ?_, by simp⟩
          · simp only [w1, w2]; simp [agA, hy, i64]
          · simp [allT, netK_t, hP, agE, hy]
      · (repeat' (first | refine ⟨fun h => ?_, fun h => ?_⟩ | fail))
        · refine ⟨?_, (by first | (unfold lim; omega) | (dsimp only; unfold lim; omega)), ?_, by simp⟩
          · simp [agA, hy, i64]
          · simp [allT, netK_t, hP, agE, hy]
        · exfalso; simp [agE, hy] at h
  · cases hs
def cagR : CfgS → AV
  | ⟨c, [.agg [.v (.int .i64 x), .v (.int .i64 y), .v (.int .i64 z)]]⟩ => .tup [i64 (agV c x y z), i64 (agE c x y z)]
  | _ => i64 0
def cahR : CfgS → AV
  | ⟨c, [.agg [.v (.int .i64 x), .v (.int .i64 y), .v (.int .i64 z)]]⟩ => i64 (agA c x y z)
  | _ => i64 0
def cagP : CfgS → Bool
  | ⟨c, [.agg [.v (.int .i64 _), .v (.int .i64 _), .v (.int .i64 _)]]⟩ => ckPre c 1
  | _ => false
def ctRfAge : CtF := ctRd cfgRd cagR cagP
def ctRfAhead : CtF := ctRd cfgRd cahR cagP
theorem rf_wrap {c : Cfg} {x y z : Int} (h : ckPre c 1 = true) (h1 : 0 ≤ x) (h2 : x ≤ 1099511627776) (h3 : 0 ≤ y) (h4 : y < c.ns) (h5 : 0 ≤ z) (h6 : z < c.long) :
    IntKind.wrap IntKind.i64 (IntKind.wrap IntKind.i64 (x * IntKind.wrap IntKind.i64 (↑c.ns * c.long)) + IntKind.wrap IntKind.i64 (IntKind.wrap IntKind.i64 (y * c.long) + z)) = x * (c.ns * c.long) + y * c.long + z ∧ IntKind.wrap IntKind.i64 (IntKind.wrap IntKind.i64 (x * ↑c.ns) + y) = x * c.ns + y := by
  obtain ⟨_, r1, r2, q1, q2, q3, q4, q5⟩ := ck_round h
  have a1 : x * (c.ns * c.long) ≤ 1099511627776 * 65536 := mul_le_mul_of h1 h2 (by omega) r2
  have a2 : 0 ≤ x * (c.ns * c.long) := Int.mul_nonneg h1 (by omega)
  have a3 : y * c.long ≤ 16 * 4096 := mul_le_mul_of h3 (by omega) (by omega) (by omega)
  have a4 : 0 ≤ y * c.long := Int.mul_nonneg h3 (by omega)
  have a5 : x * c.ns ≤ 1099511627776 * 16 := mul_le_mul_of h1 h2 (by omega) (by omega)
  have a6 : 0 ≤ x * c.ns := Int.mul_nonneg h1 (by omega)
  rw [wrap_nat (↑c.ns * c.long) (by omega) (by omega), wrap_nat (x * (↑c.ns * c.long)) (by omega) (by omega), wrap_nat (y * c.long) (by omega) (by omega), wrap_nat (y * c.long + z) (by omega) (by omega), wrap_nat _ (by omega) (by omega), wrap_nat (x * ↑c.ns) (by omega) (by omega), wrap_nat _ (by omega) (by omega)]
  exact ⟨by omega, rfl⟩
set_option maxRecDepth 100000 in
theorem ct_rfAge : CtOk Tryd.prog 58 ctRfAge := by
  refine ctRd_ofE (E := E1 Tryd.prog) hE1 cfgRd (fuel := 300) (str := 10000000000000000000000000000000000000000) ⟨_, _, Tryd.func58, rfl⟩ (fun s => by unfold cagR; split <;> rfl) fun s hs => ?_
  unfold cagP at hs
  split at hs
  · rename_i c x y z
    refine (?_ : (∃ p q, cfE (E1 Tryd.prog) 58 c [tmA x y z] p [] = some q ∧ GoodF (.tup [i64 (agV c x y z), i64 (agE c x y z)]) q) → _) (rfAge c x y z _ ?_)
    · rintro ⟨p, q, h1, h2⟩
      exact ⟨p, _, q, h1, h2⟩
    · have hw := fun h1 h2 h3 h4 h5 h6 => (rf_wrap (x := x) (y := y) (z := z) hs h1 h2 h3 h4 h5 h6).1
      (repeat' (first | refine ⟨fun h => ?_, fun h => ?_⟩ | fail))
      all_goals (refine ⟨?_, (by first | (unfold lim; omega) | (dsimp only; unfold lim; omega)), ?_, by simp⟩)
      all_goals (simp only [decide_eq_true_eq, decide_eq_false_iff_not, Int.ofNat_eq_natCast, Int.cast_ofNat_Int, gt_iff_lt, ge_iff_le] at *)
      all_goals first
        | (have hn : ¬ agOk c x y z := (by unfold agOk ckM; omega)
           simp [agV, agE, hn, i64]; done)
        | (have hn : ¬ agOk c x y z := (by
             unfold agOk ckM
             rintro ⟨g1, g2, g3, g4, g5, g6, g7⟩
             have := hw g1 g2 g3 g4 g5 g6
             omega)
           simp [agV, agE, hn, i64]; done)
        | (have e9 := hw (by omega) (by omega) (by omega) (by omega) (by omega) (by omega)
           have hy : agOk c x y z := (by
             unfold agOk ckM
             refine ⟨by omega, by omega, by omega, by omega, by omega, by omega, by omega⟩)
           rw [e9]
           simp [agV, agE, hy, i64]; done)
        | (simp only [allT, List.forall_mem_cons, List.not_mem_nil, false_implies, implies_true, and_true, true_and, cfgK_t, netK_t, intsOk_ints, stsOk_sts, intsOk_s, stsOk_s, beq_iff_eq, decide_eq_true_eq, decide_eq_false_iff_not, beq_eq_false_iff_ne, bne_iff_ne, bne_eq_false_iff_eq, Bool.not_eq_true', Bool.not_eq_false', ne_eq, Int.ofNat_eq_natCast, Int.cast_ofNat_Int, gt_iff_lt, ge_iff_le]; omega)
  · cases hs
set_option maxRecDepth 100000 in
theorem ct_rfAhead : CtOk Tryd.prog 61 ctRfAhead := by
  refine ctRd_ofE (E := E1 Tryd.prog) hE1 cfgRd (fuel := 300) (str := 10000000000000000000000000000000000000000) ⟨_, _, Tryd.func61, rfl⟩ (fun s => by unfold cahR; split <;> rfl) fun s hs => ?_
  unfold cagP at hs
  split at hs
  · rename_i c x y z
    refine (?_ : (∃ p q, cfE (E1 Tryd.prog) 61 c [tmA x y z] p [] = some q ∧ GoodF (i64 (agA c x y z)) q) → _) (rfAhead c x y z _ ?_)
    · rintro ⟨p, q, h1, h2⟩
      exact ⟨p, _, q, h1, h2⟩
    · have hw := fun h1 h2 h3 h4 h5 h6 => (rf_wrap (x := x) (y := y) (z := z) hs h1 h2 h3 h4 h5 h6)
      (repeat' (first | refine ⟨fun h => ?_, fun h => ?_⟩ | fail))
      all_goals (refine ⟨?_, (by first | (unfold lim; omega) | (dsimp only; unfold lim; omega)), ?_, by simp⟩)
      all_goals (simp only [decide_eq_true_eq, decide_eq_false_iff_not, Int.ofNat_eq_natCast, Int.cast_ofNat_Int, gt_iff_lt, ge_iff_le] at *)
      all_goals first
        | (have hn : ¬ agOk c x y z := (by unfold agOk ckM; omega)
           simp [agA, hn, i64]; done)
        | (have hn : ¬ agOk c x y z := (by
             unfold agOk ckM
             rintro ⟨g1, g2, g3, g4, g5, g6, g7⟩
             have := (hw g1 g2 g3 g4 g5 g6).1
             omega)
           simp [agA, hn, i64]; done)
        | (obtain ⟨e9, e8⟩ := hw (by omega) (by omega) (by omega) (by omega) (by omega) (by omega)
           have hy : agOk c x y z := (by
             unfold agOk ckM
             refine ⟨by omega, by omega, by omega, by omega, by omega, by omega, by omega⟩)
           rw [e8]
           simp [agA, hy, i64]; done)
        | (simp only [allT, List.forall_mem_cons, List.not_mem_nil, false_implies, implies_true, and_true, true_and, cfgK_t, netK_t, intsOk_ints, stsOk_sts, intsOk_s, stsOk_s, beq_iff_eq, decide_eq_true_eq, decide_eq_false_iff_not, beq_eq_false_iff_ne, bne_iff_ne, bne_eq_false_iff_eq, Bool.not_eq_true', Bool.not_eq_false', ne_eq, Int.ofNat_eq_natCast, Int.cast_ofNat_Int, gt_iff_lt, ge_iff_le]; omega)
  · cases hs
theorem ro_sum (c : Cfg) (t l0 : Int) (h : ckPre c 1 = true) (h0 : 0 ≤ l0) (h1 : l0 ≤ 65536) :
    LoopV Tryd.prog (loopAt Tryd.prog 56 0) [2, 4, 6, 7] [1000, 1001, 1022] ((roV l0).map some) ((roB c t 0).map some) 42 80000000000000000000000000000000000001024 (mkFr 42 [(4, .c (.ptr 1001 0 0)), (6, .c (.ptr 1022 0 0)), (7, i64 (l0 % c.long))]) [(1001, tmB 0 0 0), (1022, tmB t (l0 / c.long) 0)] 100000000000000000000000000000000000000000000000000 (.exit 0) none := by
  obtain ⟨_, r1, r2, q1, q2, q3, q4, q5⟩ := ck_round h
  have d0 := Int.ediv_nonneg (a := l0) (b := c.long) (by omega) (by omega)
  have d1 : l0 / c.long ≤ l0 := Int.ediv_le_self _ (by omega)
  have d2 := Int.mul_ediv_add_emod l0 c.long
  have d3 := Int.emod_nonneg l0 (show c.long ≠ 0 by omega)
  have d4 := Int.emod_lt_of_pos l0 (show 0 < c.long by omega)
  generalize hj : l0 / c.long = q at *
  obtain ⟨j, rfl⟩ := Int.eq_ofNat_of_zero_le d0
  generalize hm : l0 % c.long = m at *
  have e0 : roV l0 = roV (l0 - c.long * ((0 : Nat) : Int)) := by simp
  rw [e0]
  refine loop_view hE1 (fuel := 100) (str := 10000000000000000000000000000000000000000) (nh := 1000000000000000000000000000000000000000000) (n := 80000000000000000000000000000000000001024) (n' := 100000000000000000000000000000000000000000000000000) (S := Nat) (fun k => k ≤ j) (fun k => j - k) [2, 4, 6, 7] [] [1000, 1001, 1022] (fun k => roV (l0 - c.long * (k : Int))) (fun k => roB c t k) (by decide) (by decide) (by unfold lim; omega) (s0 := 0) (by omega) (fun _ => ⟨rfl, rfl⟩) (by kernel_rfl) (fun k _ => ⟨rfl, ?_⟩) ?_
  · intro b hb
    simp only [List.mem_cons, List.not_mem_nil, or_false] at hb
    rcases hb with rfl | rfl | rfl
    · exact cfgB_low (by omega)
    · exact low_lit rfl
    · exact low_lit rfl
  intro k hk
  refine (?_ : (∃ p r, roR Tryd.prog c t (l0 - c.long * (k : Int)) k p = some r ∧ _) → _) (ro c t (l0 - c.long * (k : Int)) k (StepV 80000000000000000000000000000000000001024 100000000000000000000000000000000000000000000000000 42 [2, 4, 6, 7] [] [1000, 1001, 1022] (fun k => k ≤ j) (fun k => j - k) (fun k => roV (l0 - c.long * (k : Int))) (fun k => roB c t k) (.exit 0) [(4, .c (.ptr 1001 0 0)), (6, .c (.ptr 1022 0 0)), (7, i64 m)] [(1001, tmB 0 0 0), (1022, tmB t (j : Int) 0)] k) ?_)
  · rintro ⟨p, r, h1, h2⟩
    exact ⟨p, [], r, h1, h2⟩
  · have b1 : c.long * (k : Int) ≤ c.long * (j : Int) := Int.mul_le_mul_of_nonneg_left (by omega) (by omega)
    have b0 : 0 ≤ c.long * (k : Int) := Int.mul_nonneg (by omega) (by omega)
    have b2 : c.long * ((k + 1 : Nat) : Int) = c.long * (k : Int) + c.long := by rw [Int.natCast_add, Int.mul_add]; omega
    have b3 : k < j → c.long * (k : Int) + c.long ≤ c.long * (j : Int) := fun hlt => by rw [← b2]; exact Int.mul_le_mul_of_nonneg_left (by omega) (by omega)
    have b4 : (l0 - c.long * (k : Int) ≥ c.long) ↔ k < j := by
      constructor
      · intro hge
        rcases Nat.lt_or_ge k j with hlt | hge2
        · exact hlt
        · obtain rfl : k = j := by omega
          omega
      · intro hlt
        have := b3 hlt
        omega
    have w1 : IntKind.wrap IntKind.i64 (l0 - c.long * (k : Int) - c.long) = l0 - c.long * ((k + 1 : Nat) : Int) := by rw [wrap_nat _ (by omega) (by omega), b2]; omega
    have w2 := wrap_nat1 k (by omega)
    refine ⟨fun c1 => ?_, fun c1 => ?_⟩
    · have hlt := b4.1 (by simpa using c1)
      refine ⟨?_, rfl, by dsimp only; omega, rfl, .inl ⟨rfl, k + 1, hlt, by show j - (k + 1) < j - k; omega, ?_, ?_⟩⟩
      · simp [allT, c1]
      · simp only [w1]; rfl
      · simp only [w2]; exact BL.refl (roB c t (k + 1))
    · have hge : k = j := by
        have := mt b4.2 (by simpa using c1)
        omega
      subst hge
      refine ⟨by simp [allT, c1], rfl, by dsimp only; omega, rfl, .inr ⟨by simp, rfl, fun q hq => ?_, fun p hpp => ?_⟩⟩
      · simp only [List.mem_cons, List.not_mem_nil, or_false] at hq
        rcases hq with rfl | rfl | rfl
        · exact ⟨rfl, by simp [lkA]⟩
        · exact ⟨rfl, by simp [lkA]⟩
        · refine ⟨rfl, ?_⟩
          have : l0 - c.long * (k : Int) = m := by omega
          simp [lkA, i64, this]
      · simp only [List.mem_cons, List.not_mem_nil, or_false] at hpp
        rcases hpp with rfl | rfl
        · exact ⟨by kernel_rfl, low_lit rfl, tmB 0 0 0, List.mem_cons_of_mem _ (List.mem_cons_self ..), BEq.refl _⟩
        · exact ⟨by kernel_rfl, low_lit rfl, tmB t (k : Int) 0, List.mem_cons_of_mem _ (List.mem_cons_of_mem _ (List.mem_cons_self ..)), BEq.refl _⟩
def cofR : CfgS → AV
  | ⟨c, [.c (.v (.int .i64 a))]⟩ => .tup [tmA (ckT c a) (ckS c a) (ckP c a), i64 (ckErr a)]
  | _ => i64 0
def cofP : CfgS → Bool
  | ⟨c, [.c (.v (.int .i64 _))]⟩ => ckPre c 1
  | _ => false
def ctRfOf : CtF := ctRd cfgRd cofR cofP
end Go.Proofs.YtgfmjbfjodidpaaDoor
end
/- Contract of sennitref06.Of; the contracts that layer 06's laws use. -/
section
namespace Go.Proofs.YtgfmjbfjodidpaaDoor
open Go.RowKit

set_option maxRecDepth 100000 in
theorem ct_rfOf : CtOk Tryd.prog 56 ctRfOf := by
  refine ctRd_ofE (E := E1 Tryd.prog) hE1 cfgRd (fuel := 300) (str := 10000000000000000000000000000000000000000) ⟨_, _, Tryd.func56, rfl⟩ (fun s => by unfold cofR; split <;> rfl) fun s hs => ?_
  unfold cofP at hs
  split at hs
  · rename_i c a
    obtain ⟨_, r1, r2, q1, q2, q3, q4, q5⟩ := ck_round hs
    obtain ⟨R, hR⟩ : ∃ R : Int, (c.ns : Int) * c.long = R := ⟨_, rfl⟩
    rw [hR] at r1 r2
    refine (?_ : (∃ p q, cfE (E1 Tryd.prog) 56 c [i64 a] p [some (roS (a / R) (a % R % c.long) (a % R / c.long).toNat)] = some q ∧ GoodF (.tup [tmA (ckT c a) (ckS c a) (ckP c a), i64 (ckErr a)]) q) → _) (rfOf c a (a / R) (a % R % c.long) (a % R / c.long).toNat _ ?_)
    · rintro ⟨p, q, h1, h2⟩
      exact ⟨p, [some (roS (a / R) (a % R % c.long) (a % R / c.long).toNat)], q, h1, h2⟩
    · have wR : IntKind.wrap IntKind.i64 (↑c.ns * c.long) = R := by rw [hR]; exact wrap_nat _ (by omega) (by omega)
      simp only [wR]
      (repeat' (first | refine ⟨fun h => ?_, fun h => ?_⟩ | fail))
      · have h' : a < 0 := by simpa using h
        have hn : ¬ ckIn a := by unfold ckIn ckM; omega
        exact ⟨by simp [ckT, ckS, ckP, ckErr, hn, i64], (by first | (unfold lim; omega) | (dsimp only; unfold lim; omega)), by (simp only [allT, List.forall_mem_cons, List.not_mem_nil, false_implies, implies_true, and_true, true_and, cfgK_t, netK_t, intsOk_ints, stsOk_sts, intsOk_s, stsOk_s, beq_iff_eq, decide_eq_true_eq, decide_eq_false_iff_not, beq_eq_false_iff_ne, bne_iff_ne, bne_eq_false_iff_eq, Bool.not_eq_true', Bool.not_eq_false', ne_eq, Int.ofNat_eq_natCast, Int.cast_ofNat_Int, gt_iff_lt, ge_iff_le]; omega), by simp⟩
      · have h' : 1099511627776 < a := by simpa using h
        have hn : ¬ ckIn a := by unfold ckIn ckM; omega
        exact ⟨by simp [ckT, ckS, ckP, ckErr, hn, i64], (by first | (unfold lim; omega) | (dsimp only; unfold lim; omega)), by (simp only [allT, List.forall_mem_cons, List.not_mem_nil, false_implies, implies_true, and_true, true_and, cfgK_t, netK_t, intsOk_ints, stsOk_sts, intsOk_s, stsOk_s, beq_iff_eq, decide_eq_true_eq, decide_eq_false_iff_not, beq_eq_false_iff_ne, bne_iff_ne, bne_eq_false_iff_eq, Bool.not_eq_true', Bool.not_eq_false', ne_eq, Int.ofNat_eq_natCast, Int.cast_ofNat_Int, gt_iff_lt, ge_iff_le]; omega), by simp⟩
      · rename_i g
        have h' : ¬ 1099511627776 < a := by simpa using h
        have g' : ¬ a < 0 := by simpa using g
        have hy : ckIn a := by unfold ckIn ckM; omega
        have t2 : Int.tdiv a R = a / R := Int.tdiv_eq_ediv_of_nonneg (by omega)
        have d0 := Int.ediv_nonneg (a := a) (b := R) (by omega) (by omega)
        have d1 : a / R ≤ a := Int.ediv_le_self _ (by omega)
        have d2 := Int.mul_ediv_add_emod a R
        have d3 := Int.emod_nonneg a (show R ≠ 0 by omega)
        have d4 := Int.emod_lt_of_pos a (show 0 < R by omega)
        have d5 : R * (a / R) = a / R * R := Int.mul_comm _ _
        have e0 := Int.ediv_nonneg (a := a % R) (b := c.long) (by omega) (by omega)
        have w1 : IntKind.wrap IntKind.i64 (a / R) = a / R := wrap_nat _ (by omega) (by omega)
        have w2 : IntKind.wrap IntKind.i64 (a / R * R) = a / R * R := wrap_nat _ (by omega) (by omega)
        have w3 : IntKind.wrap IntKind.i64 (a - a / R * R) = a % R := by rw [wrap_nat _ (by omega) (by omega)]; omega
        have e1 : (((a % R / c.long).toNat : Nat) : Int) = a % R / c.long := Int.toNat_of_nonneg e0
        refine ⟨?_, (by first | (unfold lim; omega) | (dsimp only; unfold lim; omega)), ?_, fun q hq => ?_⟩
        · simp [ckT, ckS, ckP, ckErr, hy, i64, hR, e1]
        · (simp only [allT, List.forall_mem_cons, List.not_mem_nil, false_implies, implies_true, and_true, true_and, cfgK_t, netK_t, intsOk_ints, stsOk_sts, intsOk_s, stsOk_s, beq_iff_eq, decide_eq_true_eq, decide_eq_false_iff_not, beq_eq_false_iff_ne, bne_iff_ne, bne_eq_false_iff_eq, Bool.not_eq_true', Bool.not_eq_false', ne_eq, Int.ofNat_eq_natCast, Int.cast_ofNat_Int, gt_iff_lt, ge_iff_le]; omega)
        · rw [List.mem_singleton.1 hq]
          simp only [t2, w1, w2, w3]
          have := ro_sum c (a / R) (a % R) hs d3 (by omega)
          rw [← e1] at this
          simp only [Int.ofNat_eq_natCast]
          exact this
  · cases hs
def ctsCk : List (FuncId × CtF) := [(55, ctCkOf), (57, ctCkAge), (60, ctCkAhead), (56, ctRfOf), (58, ctRfAge), (61, ctRfAhead), (54, ctTG mS)]
theorem ctsCk_ok : ∀ f g, (f, g) ∈ ctsCk → CtOk Tryd.prog f g := by
  intro f g h
  simp only [ctsCk, List.mem_cons, Prod.mk.injEq, List.not_mem_nil, or_false] at h
  rcases h with ⟨rfl, rfl⟩ | ⟨rfl, rfl⟩ | ⟨rfl, rfl⟩ | ⟨rfl, rfl⟩ | ⟨rfl, rfl⟩ | ⟨rfl, rfl⟩ | ⟨rfl, rfl⟩
  · exact ct_ckOf
  · exact ct_ckAge
  · exact ct_ckAhead
  · exact ct_rfOf
  · exact ct_rfAge
  · exact ct_rfAhead
  · exact ctTG_of (E := E1 Tryd.prog) hE1 ⟨_, _, Tryd.func54, rfl⟩ (by kernel_rfl) (by unfold lim; omega) lv06_run
end Go.Proofs.YtgfmjbfjodidpaaDoor
end
/- ClocksBack: what its runs answer. -/
section
namespace Go.Proofs.YtgfmjbfjodidpaaDoor
open Go.RowKit

theorem ofP_eq (c : Cfg) (nq : Nat) (fq : Nat → Int) (a : Int) : ofP ⟨c, nq, fq, [.c (.v (.int .i64 a))]⟩ = ckPre c nq := rfl
theorem agP_eq (c : Cfg) (nq : Nat) (fq : Nat → Int) (x y z : Int) : agP ⟨c, nq, fq, [.agg [.v (.int .i64 x), .v (.int .i64 y), .v (.int .i64 z)]]⟩ = (ckPre c nq && slotsOk c) := rfl
theorem cofP_eq (c : Cfg) (a : Int) : cofP ⟨c, [.c (.v (.int .i64 a))]⟩ = ckPre c 1 := rfl
theorem cagP_eq (c : Cfg) (x y z : Int) : cagP ⟨c, [.agg [.v (.int .i64 x), .v (.int .i64 y), .v (.int .i64 z)]]⟩ = ckPre c 1 := rfl
theorem good_pre {c : Cfg} (g : CfgGood c) {nq : Nat} (h : 0 < nq) : ckPre c nq = true := by
  have := g.s1
  have := g.s16
  have := g.l1
  have := g.l4
  have := g.n4
  simp [ckPre]; omega
theorem good_slots {c : Cfg} (g : CfgGood c) : slotsOk c = true := by
  refine List.all_eq_true.2 fun i hi => ?_
  have := g.fs i (by simpa using hi)
  simpa using this.1
end Go.Proofs.YtgfmjbfjodidpaaDoor
end
/- ClocksOf as the evaluator runs it. -/
section
namespace Go.Proofs.YtgfmjbfjodidpaaDoor
open Go.RowKit

theorem coE (err : Cfg → Int) (c : Cfg) (a x y z : Int) (Q : VF → Prop) (H : (((decide (↑(c.np) > Int.ofNat 60)) = true → Q (.c (.v (.bool true)), [], 37, [decide (↑(c.np) > Int.ofNat 60) == true, true, true, true, true, true, true, true, true, true, true, true, true, true], [])) ∧ ((decide (↑(c.np) > Int.ofNat 60)) = false → (((decide (↑(c.ns) > Int.ofNat 60)) = true → Q (.c (.v (.bool true)), [], 41, [decide (↑(c.ns) > Int.ofNat 60) == true, true, decide (↑(c.np) > Int.ofNat 60) == false, true, true, true, true, true, true, true, true, true, true, true, true, true], [])) ∧ ((decide (↑(c.ns) > Int.ofNat 60)) = false → (((decide (↑(c.nb) > Int.ofNat 60)) = true → Q (.c (.v (.bool true)), [], 45, [decide (↑(c.nb) > Int.ofNat 60) == true, true, decide (↑(c.ns) > Int.ofNat 60) == false, true, decide (↑(c.np) > Int.ofNat 60) == false, true, true, true, true, true, true, true, true, true, true, true, true, true], [])) ∧ ((decide (↑(c.nb) > Int.ofNat 60)) = false → (((decide (↑(c.nt) > Int.ofNat 60)) = true → Q (.c (.v (.bool true)), [], 49, [decide (↑(c.nt) > Int.ofNat 60) == true, true, decide (↑(c.nb) > Int.ofNat 60) == false, true, decide (↑(c.ns) > Int.ofNat 60) == false, true, decide (↑(c.np) > Int.ofNat 60) == false, true, true, true, true, true, true, true, true, true, true, true, true, true], [])) ∧ ((decide (↑(c.nt) > Int.ofNat 60)) = false → Q (.c (.v (.bool true)), [], 51, [(err c != Int.ofNat 0) == true, cfgK c, true, true, true, true, true, true, true, decide (↑(c.nt) > Int.ofNat 60) == false, true, decide (↑(c.nb) > Int.ofNat 60) == false, true, decide (↑(c.ns) > Int.ofNat 60) == false, true, decide (↑(c.np) > Int.ofNat 60) == false, true, true, true, true, true, true, true, true, true, true, true, true, true], [])))))))))) :
    ∃ p r, lwR (ENl1 Tryd.prog err ctsCk) 13 mS c [i64 a, tmA x y z] p [] = some r ∧ Q r := by
  rcases Bool.eq_false_or_eq_true (decide (↑(c.np) > Int.ofNat 60)) with h2 | h2
  · have g2 := H.1 h2
    exact ⟨([.b true, .a, .a, .a, .a, .a, .a, .a, .a, .a, .a, .a, .a, .a, .a, .a, .a] : List Dec), _, by kernel_rfl, g2⟩
  · have g2 := H.2 h2
    rcases Bool.eq_false_or_eq_true (decide (↑(c.ns) > Int.ofNat 60)) with h4 | h4
    · have g4 := g2.1 h4
      exact ⟨([.b false, .a, .a, .a, .b true, .a, .a, .a, .a, .a, .a, .a, .a, .a, .a, .a, .a] : List Dec), _, by kernel_rfl, g4⟩
    · have g4 := g2.2 h4
      rcases Bool.eq_false_or_eq_true (decide (↑(c.nb) > Int.ofNat 60)) with h6 | h6
      · have g6 := g4.1 h6
        exact ⟨([.b false, .a, .a, .a, .b false, .a, .a, .a, .b true, .a, .a, .a, .a, .a, .a, .a, .a] : List Dec), _, by kernel_rfl, g6⟩
      · have g6 := g4.2 h6
        rcases Bool.eq_false_or_eq_true (decide (↑(c.nt) > Int.ofNat 60)) with h8 | h8
        · have g8 := g6.1 h8
          exact ⟨([.b false, .a, .a, .a, .b false, .a, .a, .a, .b false, .a, .a, .a, .b true, .a, .a, .a, .a] : List Dec), _, by kernel_rfl, g8⟩
        · have g8 := g6.2 h8
          exact ⟨([.b false, .a, .a, .a, .b false, .a, .a, .a, .b false, .a, .a, .a, .b false, .a, .a, .b true, .a] : List Dec), _, by kernel_rfl, g8⟩
theorem coA (err : Cfg → Int) (c : Cfg) (a x y z : Int) (Q : VF → Prop) (H : Q (.c (.v (.bool true)), [], 310000000000000000000000000000000000000102, [(agA c x y z == agA c x y z) == true, cfgK c, cagP (CfgS.mk c [.agg [.v (.int .i64 x), .v (.int .i64 y), .v (.int .i64 z)]]), true, true, true, true, true, true, true, true, true, true, netK c (Int.toNat (c.nodes)) (pairF c (2 * c.np)), agP (NetS.mk c (Int.toNat (c.nodes)) (pairF c (2 * c.np)) [.agg [.v (.int .i64 x), .v (.int .i64 y), .v (.int .i64 z)]]), true, true, true, true, (agE c x y z == agE c x y z) == true, (agV c x y z == agV c x y z) == true, (ckP c a == ckP c a) == true, true, true, true, true, (ckS c a == ckS c a) == true, true, true, true, true, (ckT c a == ckT c a) == true, true, true, true, true, true, true, true, true, true, true, true, true, (ckErr a == ckErr a) == true, cfgK c, cagP (CfgS.mk c [.agg [.v (.int .i64 x), .v (.int .i64 y), .v (.int .i64 z)]]), true, true, true, true, true, true, true, true, true, true, netK c (Int.toNat (c.nodes)) (pairF c (2 * c.np)), agP (NetS.mk c (Int.toNat (c.nodes)) (pairF c (2 * c.np)) [.agg [.v (.int .i64 x), .v (.int .i64 y), .v (.int .i64 z)]]), true, true, true, true, true, cfgK c, cofP (CfgS.mk c [.c (.v (.int .i64 a))]), true, true, true, true, true, true, true, netK c (Int.toNat (c.nodes)) (pairF c (2 * c.np)), ofP (NetS.mk c (Int.toNat (c.nodes)) (pairF c (2 * c.np)) [.c (.v (.int .i64 a))]), true, true, true, true, true, true, true, cfgK c, decide (c.nb ≤ 9223372036854775807), decide (err c = Int.ofNat 0), true, true, true, true, true, true, (err c != Int.ofNat 0) == false, cfgK c, true, true, true, true, true, true, true, decide (↑(c.nt) > Int.ofNat 60) == false, true, decide (↑(c.nb) > Int.ofNat 60) == false, true, decide (↑(c.ns) > Int.ofNat 60) == false, true, decide (↑(c.np) > Int.ofNat 60) == false, true, true, true, true, true, true, true, true, true, true, true, true, true], [])) :
    ∃ p r, lwR (ENl0 Tryd.prog err ctsCk) 13 mS c [i64 a, tmA x y z] p [] = some r ∧ Q r := by
  exact ⟨([.b false, .a, .a, .a, .b false, .a, .a, .a, .b false, .a, .a, .a, .b false, .a, .a, .b false, .a, .b true, .a, .a, .b true, .a, .a, .a, .a, .b true, .a, .a, .a, .a, .b true, .a, .a, .b true, .a, .a, .b true, .a, .a, .a, .a, .a, .a, .b true] : List Dec), _, by kernel_rfl, H⟩
end Go.Proofs.YtgfmjbfjodidpaaDoor
end
/- ClocksOf: what its runs answer. -/
section
namespace Go.Proofs.YtgfmjbfjodidpaaDoor
open Go.RowKit

set_option maxRecDepth 1000000 in
theorem co_run1 (c : Cfg) (a x y z : Int) (h0 : cfgErr c ≠ 0) (hb : c.nb ≤ 9223372036854775807) : ∃ p r, lwR (ENl1 Tryd.prog cfgErr ctsCk) 13 mS c [i64 a, tmA x y z] p [] = some r ∧ GoodF (bo true) r := by
  refine coE cfgErr c a x y z _ ?_
  (repeat' (first | refine ⟨fun h => ?_, fun h => ?_⟩ | fail))
  all_goals (refine ⟨rfl, (by first | (unfold lim; omega) | (dsimp only; unfold lim; omega)), ?_, by simp⟩)
  all_goals (simp_all [allT, cfgK_t, netK_t, intsOk_ints, stsOk_sts, intsOk_s, stsOk_s, h0, hb])
set_option maxRecDepth 1000000 in
theorem co_run0 (c : Cfg) (a x y z : Int) (h0 : cfgErr c = 0) (hb : c.nb ≤ 9223372036854775807) : ∃ p r, lwR (ENl0 Tryd.prog cfgErr ctsCk) 13 mS c [i64 a, tmA x y z] p [] = some r ∧ GoodF (bo true) r := by
  refine coA cfgErr c a x y z _ ?_
  have g := cfg_good h0
  have hp0 := good_pre g (nq := c.nodes.toNat) (by have := g.n4; omega)
  have hp1 := good_pre g (nq := 1) (by omega)
  have hsl := good_slots g
  have := g.s16
  have := g.n16
  have := g.p8
  have := g.nt
  have := g.nb
  refine ⟨rfl, (by first | (unfold lim; omega) | (dsimp only; unfold lim; omega)), ?_, by simp⟩
  simp [allT, cfgK_t, netK_t, intsOk_ints, stsOk_sts, intsOk_s, stsOk_s, ofP_eq, agP_eq, cofP_eq, cagP_eq, hp0, hp1, hsl, h0]
  omega
end Go.Proofs.YtgfmjbfjodidpaaDoor
end
