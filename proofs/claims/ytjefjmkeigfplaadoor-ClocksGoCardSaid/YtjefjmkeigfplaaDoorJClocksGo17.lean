/- Parts, one behind the other. Laws of a config that came in: from their runs to their calls. -/
import Derived.Test.YtjefjmkeigfplaaDoorJClocksGo16
import Derived.Test.YtjefjmkeigfplaaDoorJClocksGo14
import Derived.Test.YtjefjmkeigfplaaDoorJClocksGo9
import Derived.Test.YtjefjmkeigfplaaDoorJClocksGo10
set_option linter.unusedSimpArgs false
set_option linter.unusedVariables false
/- Laws of a config that came in: from their runs to their calls. -/
section
namespace Go.Proofs.YtjefjmkeigfplaaDoor
open Go.RowKit

def lwR (E : Env) (f : FuncId) (G : AMem) (c : Cfg) (r : List AV) (path : List Dec) (lp : List (Option LSum)) : Option VF := viewF [] (fCallF E (fC E 300) f (.agg (cfgC c) :: r) 10 10000000000000000000000000000000000000000 (stA (G ++ cfgL c) path lp))
theorem cfg_law {E : Env} (hE : EnvOk E) {f : FuncId} {G : AMem} {w : World} (hG : ∀ p ∈ G, GlobAt w p) {c : Cfg} {cs : List Value} (hc : CfgIn w c cs) {r : List AV} {us : List Value} (hr : ∀ β, γt β r = some us)
    (run : ∃ p lp q, lwR E f G c r p lp = some q ∧ GoodF (bo true) q) : Calls E.P f (.agg cs.toArray :: us).toArray w fun e w' => e = .returned (.bool true) ∧ Below w.heap.size w w' := by
  obtain ⟨p, lp, ⟨v, b', n, ob, po⟩, hrun, hv, hn, hob, hpo⟩ := run
  obtain ⟨s', r1, r2, r3, r4⟩ := viewF_out hrun
  obtain ⟨β, q1, q2, _, q4⟩ := rel_cfgIn hG hc
  have hn : n ≤ lim := hn
  refine (calls_f hE r1 ⟨by rw [r3]; exact hob, by rw [r4]; exact hpo⟩ (C := loneC w) (β := β) (w := w) (vs := .agg cs.toArray :: us) ?_ q1 (fun id h1 h2 => q4 id (by omega) (by omega))).mono ?_
  · simp only [γt, γ1, q2, hr β]
  · rintro e w' ⟨β', u, rfl, _, _, hu, hr'⟩
    simp only at hv
    subst hv
    cases hu
    exact ⟨rfl, below_lone hr'⟩
theorem cfgErr_zero {c : Cfg} (h : cfgErr c = 0) : rule1 c = 0 ∧ rule2 c = 0 ∧ rule3 c = 0 ∧ rule4 c = 0 ∧ rule5 c = 0 ∧ rule6 c = 0 ∧ rule7 c = 0 ∧ rule8 c = 0 ∧ rule9 c = 0 ∧ rule10 c = 0 := by
  unfold cfgErr at h
  generalize rule1 c = x1 at *
  generalize rule2 c = x2 at *
  generalize rule3 c = x3 at *
  generalize rule4 c = x4 at *
  generalize rule5 c = x5 at *
  generalize rule6 c = x6 at *
  generalize rule7 c = x7 at *
  generalize rule8 c = x8 at *
  generalize rule9 c = x9 at *
  generalize rule10 c = x10 at *
  by_cases h1 : x1 = 0 <;> by_cases h2 : x2 = 0 <;> by_cases h3 : x3 = 0 <;> by_cases h4 : x4 = 0 <;> by_cases h5 : x5 = 0 <;> by_cases h6 : x6 = 0 <;> by_cases h7 : x7 = 0 <;> by_cases h8 : x8 = 0 <;> by_cases h9 : x9 = 0 <;> simp_all
end Go.Proofs.YtjefjmkeigfplaaDoor
end
/- Laws on a net of a config that came in: their contracts. -/
section
namespace Go.Proofs.YtjefjmkeigfplaaDoor
open Go.RowKit

def ctRef4 (err : Cfg → Int) : CtF := ctCfg (fun c => i64 (err c)) fun _ => true
def ENl0 (P : Program) (err : Cfg → Int) (l : List (FuncId × CtF)) : Env := ⟨P, (14, ctNew0 err) :: (13, ctRef4 err) :: l⟩
def ENl1 (P : Program) (err : Cfg → Int) (l : List (FuncId × CtF)) : Env := ⟨P, (14, ctNew1 err) :: (13, ctRef4 err) :: l⟩
theorem hENl0 {l : List (FuncId × CtF)} (hl : ∀ f g, (f, g) ∈ l → CtOk Tryd.prog f g) : EnvOk (ENl0 Tryd.prog cfgErr l) := by
  refine envOk (fun f g h => ?_) (by kernel_rfl) (by kernel_rfl)
  rcases List.mem_cons.1 h with h | h
  · cases h; exact ct_new0
  rcases List.mem_cons.1 h with h | h
  · cases h; exact ct_ref4
  · exact hl f g h
theorem hENl1 {l : List (FuncId × CtF)} (hl : ∀ f g, (f, g) ∈ l → CtOk Tryd.prog f g) : EnvOk (ENl1 Tryd.prog cfgErr l) := by
  refine envOk (fun f g h => ?_) (by kernel_rfl) (by kernel_rfl)
  rcases List.mem_cons.1 h with h | h
  · cases h; exact ct_new1
  rcases List.mem_cons.1 h with h | h
  · cases h; exact ct_ref4
  · exact hl f g h
/-- what holds of a config that may be -/
structure CfgGood (c : Cfg) : Prop where
  n4 : 4 ≤ c.nodes
  n16 : c.nodes ≤ 16
  p2 : 2 ≤ c.np
  p8 : c.np ≤ 8
  s1 : 1 ≤ c.ns
  s16 : c.ns ≤ 16
  l1 : c.nodes + 116 ≤ c.long
  l2 : 3 * c.nodes + 1 ≤ c.long
  l4 : c.long ≤ 4096
  nb : (c.nb : Int) = c.nodes
  nt : c.nt ≤ 8
  miss : 1 ≤ c.miss ∧ c.miss ≤ 100
  good : 1 ≤ c.good ∧ c.good ≤ 100
  fresh : 1 ≤ c.fresh ∧ c.fresh ≤ 100
  fp : ∀ p, p < c.np → 0 ≤ c.fp p ∧ c.fp p < c.nodes
  fs : ∀ i, i < c.ns → 0 ≤ c.fs i ∧ c.fs i < c.np
  has : ∀ p, p < c.np → ∃ i, i < c.ns ∧ c.fs i = p
theorem cfg_good {c : Cfg} (h : cfgErr c = 0) : CfgGood c := by
  obtain ⟨h1, h2, h3, h4, h5, h6, h7, h8, h9, h10⟩ := cfgErr_zero h
  have a1 := withinF_zero h1
  have a2 := withinF_zero h2
  have a4 := withinF_zero h4
  have a6 := withinF_zero h6
  have a8 := withinF_zero h8
  unfold rule3 at h3
  unfold rule5 all5 at h5
  unfold rule7 at h7
  unfold rule10 at h10
  have b3 : insideF c.fp c.np c.nodes = true := by
    split at h3
    · rename_i hh; simp only [Bool.and_eq_true] at hh; exact hh.1
    · cases h3
  split at h5
  · rename_i g5
    simp only [Bool.and_eq_true] at g5
    have b7 : (c.nb : Int) = c.nodes := by
      split at h7
      · assumption
      · cases h7
    have b10 : (1 ≤ c.miss ∧ c.miss ≤ 100) ∧ (1 ≤ c.good ∧ c.good ≤ 100) ∧ (1 ≤ c.fresh ∧ c.fresh ≤ 100) := by
      split at h10
      · rename_i g; exact absurd h10 g
      · rename_i g
        split at h10
        · rename_i g'; exact absurd h10 g'
        · rename_i g'
          exact ⟨withinF_zero (by omega), withinF_zero (by omega), withinF_zero h10⟩
    refine ⟨a1.1, a1.2, by omega, by omega, by omega, by omega, by omega, by omega, a6.2, b7, by omega, b10.1, b10.2.1, b10.2.2, fun p hp => ?_, fun i hi => ?_, fun p hp => ?_⟩
    · have := List.all_eq_true.1 b3 p (by simpa using hp)
      simpa using this
    · have := List.all_eq_true.1 g5.1 i (by simpa using hi)
      simpa using this
    · have := List.all_eq_true.1 g5.2 p (by simpa using hp)
      obtain ⟨i, hi, he⟩ := List.any_eq_true.1 this
      exact ⟨i, by simpa using hi, by simpa using he⟩
  · cases h5
end Go.Proofs.YtjefjmkeigfplaaDoor
end
/- Times of ages: plain facts. -/
section
namespace Go.Proofs.YtjefjmkeigfplaaDoor
open Go.RowKit

/-- one time alone has an age -/
theorem time_uniq {n L T S P A : Int} (hn : 0 < n) (hL : 0 < L) (h1 : 0 ≤ S) (h2 : S < n) (h3 : 0 ≤ P) (h4 : P < L) (e : A = T * (n * L) + S * L + P) : A / (n * L) = T ∧ A % (n * L) / L = S ∧ A % (n * L) % L = P := by
  have hR : 0 < n * L := Int.mul_pos hn hL
  have a1 : (S + 1) * L ≤ n * L := Int.mul_le_mul_of_nonneg_right (by omega) (by omega)
  have a2 : (S + 1) * L = S * L + L := by rw [Int.add_mul, Int.one_mul]
  have a3 : 0 ≤ S * L := Int.mul_nonneg h1 (by omega)
  have m1 : A % (n * L) = S * L + P := by
    rw [e, show T * (n * L) + S * L + P = (S * L + P) + T * (n * L) by omega, Int.add_mul_emod_self_right]
    exact Int.emod_eq_of_lt (by omega) (by omega)
  have d1 : A / (n * L) = T := by
    rw [e, show T * (n * L) + S * L + P = (S * L + P) + T * (n * L) by omega, Int.add_mul_ediv_right _ _ (by omega), Int.ediv_eq_zero_of_lt (by omega) (by omega)]
    omega
  rw [m1]
  refine ⟨d1, ?_, ?_⟩
  · rw [Int.add_comm, Int.add_mul_ediv_right _ _ (by omega), Int.ediv_eq_zero_of_lt (by omega) (by omega)]
    omega
  · rw [Int.add_comm, Int.add_mul_emod_self_right]
    exact Int.emod_eq_of_lt (by omega) (by omega)
theorem time_of {n L A : Int} (hn : 0 < n) (hL : 0 < L) : A = A / (n * L) * (n * L) + A % (n * L) / L * L + A % (n * L) % L ∧ 0 ≤ A % (n * L) / L ∧ A % (n * L) / L < n ∧ 0 ≤ A % (n * L) % L ∧ A % (n * L) % L < L := by
  have hR : 0 < n * L := Int.mul_pos hn hL
  have b1 := Int.mul_ediv_add_emod A (n * L)
  have b2 := Int.emod_nonneg A (show n * L ≠ 0 by omega)
  have b3 := Int.emod_lt_of_pos A hR
  have b4 := Int.mul_ediv_add_emod (A % (n * L)) L
  have b5 := Int.emod_nonneg (A % (n * L)) (show L ≠ 0 by omega)
  have b6 := Int.emod_lt_of_pos (A % (n * L)) hL
  have b7 := Int.ediv_nonneg (a := A % (n * L)) (b := L) (by omega) (by omega)
  have b8 : A % (n * L) / L < n := Int.ediv_lt_of_lt_mul hL b3
  have c1 : n * L * (A / (n * L)) = A / (n * L) * (n * L) := Int.mul_comm _ _
  have c2 : L * (A % (n * L) / L) = A % (n * L) / L * L := Int.mul_comm _ _
  exact ⟨by omega, b7, b8, b5, b6⟩
theorem ofP_eq (c : Cfg) (nq : Nat) (fq : Nat → Int) (a : Int) : ofP ⟨c, nq, fq, [.c (.v (.int .i64 a))]⟩ = ckPre c nq := rfl
theorem agP_eq (c : Cfg) (nq : Nat) (fq : Nat → Int) (x y z : Int) : agP ⟨c, nq, fq, [.agg [.v (.int .i64 x), .v (.int .i64 y), .v (.int .i64 z)]]⟩ = (ckPre c nq && slotsOk c) := rfl
theorem good_pre {c : Cfg} (g : CfgGood c) {nq : Nat} (h : 0 < nq) : ckPre c nq = true := by
  have := g.s1
  have := g.s16
  have := g.l1
  have := g.l4
  have := g.n4
  simp [ckPre]; omega
theorem good_slots {c : Cfg} (g : CfgGood c) : slotsOk c = true := by
  refine List.all_eq_true.2 fun i hi => ?_
  have := g.fs i (by simpa using hi)
  simpa using this.1
end Go.Proofs.YtjefjmkeigfplaaDoor
end
/- A tick later: plain facts on times. No Go text is in sight. -/
section
namespace Go.Proofs.YtjefjmkeigfplaaDoor
open Go.RowKit

theorem ck_at {c : Cfg} {a : Int} (h : ckIn a) : ckErr a = 0 ∧ ckT c a = a / (c.ns * c.long) ∧ ckS c a = a % (c.ns * c.long) / c.long ∧ ckP c a = a % (c.ns * c.long) % c.long := by
  unfold ckErr ckT ckS ckP
  rw [if_pos h, if_pos h, if_pos h, if_pos h]
  exact ⟨rfl, rfl, rfl, rfl⟩
theorem ck_bounds {c : Cfg} (g : CfgGood c) {a : Int} (h : ckIn a) : 0 ≤ ckS c a ∧ ckS c a < c.ns ∧ 0 ≤ ckP c a ∧ ckP c a < c.long := by
  have s1 := g.s1
  have l1 := g.l1
  have n4 := g.n4
  obtain ⟨_, _, e2, e3⟩ := ck_at (c := c) h
  obtain ⟨_, b2, b3, b4, b5⟩ := time_of (n := c.ns) (L := c.long) (A := a) (by omega) (by omega)
  rw [e2, e3]
  exact ⟨b2, b3, b4, b5⟩
theorem ck_next {c : Cfg} (g : CfgGood c) {a : Int} (h : ckIn a) (h' : ckIn (a + 1)) :
    (ckP c a + 1 < c.long → ckT c (a + 1) = ckT c a ∧ ckS c (a + 1) = ckS c a ∧ ckP c (a + 1) = ckP c a + 1) ∧ (¬ ckP c a + 1 < c.long → ckP c (a + 1) = 0) := by
  have s1 := g.s1
  have l1 := g.l1
  have n4 := g.n4
  obtain ⟨_, e1, e2, e3⟩ := ck_at (c := c) h
  obtain ⟨_, f1, f2, f3⟩ := ck_at (c := c) h'
  obtain ⟨b1, b2, b3, b4, b5⟩ := time_of (n := c.ns) (L := c.long) (A := a) (by omega) (by omega)
  have u := fun (T S P : Int) h1 h2 h3 h4 e => time_uniq (n := c.ns) (L := c.long) (T := T) (S := S) (P := P) (A := a + 1) (by omega) (by omega) h1 h2 h3 h4 e
  rw [e1, e2, e3, f1, f2, f3]
  generalize a / (c.ns * c.long) = T at *
  generalize a % (c.ns * c.long) / c.long = S at *
  generalize a % (c.ns * c.long) % c.long = P at *
  refine ⟨fun hp => u T S (P + 1) b2 b3 (by omega) hp (by omega), fun hp => ?_⟩
  have m1 : (S + 1) * c.long = S * c.long + c.long := by rw [Int.add_mul, Int.one_mul]
  by_cases hs : S + 1 < c.ns
  · exact (u T (S + 1) 0 (by omega) hs (by omega) (by omega) (by omega)).2.2
  · have m2 : (T + 1) * (c.ns * c.long) = T * (c.ns * c.long) + c.ns * c.long := by rw [Int.add_mul, Int.one_mul]
    have m3 : S + 1 = c.ns := by omega
    rw [m3] at m1
    exact (u (T + 1) 0 0 (by omega) (by omega) (by omega) (by omega) (by omega)).2.2
/-- within a slot's length there is a place 0 -/
theorem ck_zero {c : Cfg} (g : CfgGood c) {a : Int} (h0 : 0 ≤ a) (h1 : a + c.long ≤ 1099511627776) : ∃ j : Nat, (j : Int) < c.long ∧ ckP c (a + j) = 0 := by
  have s1 := g.s1
  have l1 := g.l1
  have n4 := g.n4
  have m1 := Int.emod_nonneg (-a) (show c.long ≠ 0 by omega)
  have m2 := Int.emod_lt_of_pos (-a) (show 0 < c.long by omega)
  refine ⟨((-a) % c.long).toNat, by omega, ?_⟩
  have hj : ((((-a) % c.long).toNat : Nat) : Int) = (-a) % c.long := Int.toNat_of_nonneg m1
  rw [hj]
  obtain ⟨_, _, _, e3⟩ := ck_at (c := c) (a := a + (-a) % c.long) (by unfold ckIn ckM; omega)
  rw [e3, Int.emod_emod_of_dvd _ (Int.dvd_mul_left _ _), Int.add_comm, Int.emod_add_emod, show -a + a = 0 by omega, Int.zero_emod]
end Go.Proofs.YtjefjmkeigfplaaDoor
end
/- Contract of clocks.Ahead. -/
section
namespace Go.Proofs.YtjefjmkeigfplaaDoor
open Go.RowKit

def cahdR : NetS → AV
  | ⟨c, _, _, [.agg [.v (.int .i64 x), .v (.int .i64 y), .v (.int .i64 z)]]⟩ => i64 (agA c x y z)
  | _ => i64 0
def ctCkAhead : CtF := ctRd netRd cahdR agP
theorem ag_small {c : Cfg} {nq : Nat} {x y z : Int} (h : ckPre c nq = true) (h2 : agOk c x y z) : 0 ≤ x ∧ x ≤ 1099511627776 ∧ 0 ≤ x * c.ns ∧ x * c.ns ≤ 17592186044416 ∧ 0 ≤ y ∧ y < 16 := by
  obtain ⟨_, r1, r2, q1, q2, q3, q4, q5⟩ := ck_round h
  obtain ⟨g1, g2, g3, g4, g5, g6, g7⟩ := h2
  unfold ckM at g2
  have a1 : x * c.ns ≤ 1099511627776 * 16 := mul_le_mul_of g1 g2 (by omega) (by omega)
  exact ⟨g1, g2, Int.mul_nonneg g1 (by omega), by omega, g3, by omega⟩
set_option maxRecDepth 100000 in
theorem ct_ckAhead : CtOk Tryd.prog 11 ctCkAhead := by
  refine ctRd_ofE (E := ENag Tryd.prog) hENag netRd (fuel := 300) (str := 10000000000000000000000000000000000000000) ⟨_, _, Tryd.func11, rfl⟩ (fun s => by unfold cahdR; split <;> rfl) fun s hs => ?_
  unfold agP at hs
  split at hs
  · rename_i c nq fq x y z
    refine (?_ : (∃ p q, ckAheadE Tryd.prog c nq fq x y z p = some q ∧ GoodF (i64 (agA c x y z)) q) → _) (ckAhead c nq fq x y z _ ?_)
    · rintro ⟨p, q, h1, h2⟩
      exact ⟨p, [], q, h1, h2⟩
    · have hP : agP ⟨c, nq, fq, [.agg [.v (.int .i64 x), .v (.int .i64 y), .v (.int .i64 z)]]⟩ = true := hs
      rw [Bool.and_eq_true] at hs
      by_cases hy : agOk c x y z
      · obtain ⟨g1, g2, g3, g4, g5, g6⟩ := ag_small hs.1 hy
        have w1 : IntKind.wrap IntKind.i64 (x * ↑c.ns) = x * ↑c.ns := wrap_nat _ (by omega) (by omega)
        have w2 : IntKind.wrap IntKind.i64 (x * ↑c.ns + y) = x * ↑c.ns + y := wrap_nat _ (by omega) (by omega)
        (repeat' (first | refine ⟨fun h => ?_, fun h => ?_⟩ | fail))
        · exfalso; simp [agE, hy] at h
        · refine ⟨?_, (by first | (unfold lim; omega) | (dsimp only; unfold lim; omega)), ?_, by simp⟩
          · simp only [w1, w2]; simp [agA, hy, i64]
          · simp [allT, netK_t, hP, agE, hy]
      · (repeat' (first | refine ⟨fun h => ?_, fun h => ?_⟩ | fail))
        · refine ⟨?_, (by first | (unfold lim; omega) | (dsimp only; unfold lim; omega)), ?_, by simp⟩
          · simp [agA, hy, i64]
          · simp [allT, netK_t, hP, agE, hy]
        · exfalso; simp [agE, hy] at h
  · cases hs
end Go.Proofs.YtjefjmkeigfplaaDoor
end
/- ClocksGo as the evaluator runs it. -/
section
namespace Go.Proofs.YtjefjmkeigfplaaDoor
open Go.RowKit

def ctsCg : List (FuncId × CtF) := [(9, ctCkOf), (11, ctCkAhead), (6, ctTG mS)]
theorem ctsCg_ok : ∀ f g, (f, g) ∈ ctsCg → CtOk Tryd.prog f g := by
  intro f g h
  simp only [ctsCg, List.mem_cons, Prod.mk.injEq, List.not_mem_nil, or_false] at h
  rcases h with ⟨rfl, rfl⟩ | ⟨rfl, rfl⟩ | ⟨rfl, rfl⟩
  · exact ct_ckOf
  · exact ct_ckAhead
  · exact ctTG_of (E := E1 Tryd.prog) hE1 ⟨_, _, Tryd.func6, rfl⟩ (by kernel_rfl) (by unfold lim; omega) lv06_run
abbrev cgK : Nat := 130000000000000000000000000000000000000091
abbrev cgIds : List Nat := [gid 0, 46, 47, 48, 49, 50, 51, cgK]
theorem cgE (err : Cfg → Int) (c : Cfg) (a : Int) (Q : VF → Prop) (H : (((decide (↑(c.np) > Int.ofNat 60)) = true → Q (.c (.v (.bool true)), [], 38, [decide (↑(c.np) > Int.ofNat 60) == true, true, true, true, true, true, true, true, true, true, true, true, true, true], [])) ∧ ((decide (↑(c.np) > Int.ofNat 60)) = false → (((decide (↑(c.ns) > Int.ofNat 60)) = true → Q (.c (.v (.bool true)), [], 42, [decide (↑(c.ns) > Int.ofNat 60) == true, true, decide (↑(c.np) > Int.ofNat 60) == false, true, true, true, true, true, true, true, true, true, true, true, true, true], [])) ∧ ((decide (↑(c.ns) > Int.ofNat 60)) = false → (((decide (↑(c.nb) > Int.ofNat 60)) = true → Q (.c (.v (.bool true)), [], 46, [decide (↑(c.nb) > Int.ofNat 60) == true, true, decide (↑(c.ns) > Int.ofNat 60) == false, true, decide (↑(c.np) > Int.ofNat 60) == false, true, true, true, true, true, true, true, true, true, true, true, true, true], [])) ∧ ((decide (↑(c.nb) > Int.ofNat 60)) = false → (((decide (↑(c.nt) > Int.ofNat 60)) = true → Q (.c (.v (.bool true)), [], 50, [decide (↑(c.nt) > Int.ofNat 60) == true, true, decide (↑(c.nb) > Int.ofNat 60) == false, true, decide (↑(c.ns) > Int.ofNat 60) == false, true, decide (↑(c.np) > Int.ofNat 60) == false, true, true, true, true, true, true, true, true, true, true, true, true, true], [])) ∧ ((decide (↑(c.nt) > Int.ofNat 60)) = false → Q (.c (.v (.bool true)), [], 52, [(err c != Int.ofNat 0) == true, cfgK c, true, true, true, true, true, true, true, decide (↑(c.nt) > Int.ofNat 60) == false, true, decide (↑(c.nb) > Int.ofNat 60) == false, true, decide (↑(c.ns) > Int.ofNat 60) == false, true, decide (↑(c.np) > Int.ofNat 60) == false, true, true, true, true, true, true, true, true, true, true, true, true, true], [])))))))))) :
    ∃ p r, lwR (ENl1 Tryd.prog err ctsCg) 4 mS c [i64 a] p [] = some r ∧ Q r := by
  rcases Bool.eq_false_or_eq_true (decide (↑(c.np) > Int.ofNat 60)) with h2 | h2
  · have g2 := H.1 h2
    exact ⟨([.b true, .a, .a, .a, .a, .a, .a, .a, .a, .a, .a, .a, .a, .a, .a, .a, .a, .a, .a, .a] : List Dec), _, by kernel_rfl, g2⟩
  · have g2 := H.2 h2
    rcases Bool.eq_false_or_eq_true (decide (↑(c.ns) > Int.ofNat 60)) with h4 | h4
    · have g4 := g2.1 h4
      exact ⟨([.b false, .a, .a, .a, .b true, .a, .a, .a, .a, .a, .a, .a, .a, .a, .a, .a, .a, .a, .a, .a] : List Dec), _, by kernel_rfl, g4⟩
    · have g4 := g2.2 h4
      rcases Bool.eq_false_or_eq_true (decide (↑(c.nb) > Int.ofNat 60)) with h6 | h6
      · have g6 := g4.1 h6
        exact ⟨([.b false, .a, .a, .a, .b false, .a, .a, .a, .b true, .a, .a, .a, .a, .a, .a, .a, .a, .a, .a, .a] : List Dec), _, by kernel_rfl, g6⟩
      · have g6 := g4.2 h6
        rcases Bool.eq_false_or_eq_true (decide (↑(c.nt) > Int.ofNat 60)) with h8 | h8
        · have g8 := g6.1 h8
          exact ⟨([.b false, .a, .a, .a, .b false, .a, .a, .a, .b false, .a, .a, .a, .b true, .a, .a, .a, .a, .a, .a, .a] : List Dec), _, by kernel_rfl, g8⟩
        · have g8 := g6.2 h8
          exact ⟨([.b false, .a, .a, .a, .b false, .a, .a, .a, .b false, .a, .a, .a, .b false, .a, .a, .b true, .a, .a, .a, .a] : List Dec), _, by kernel_rfl, g8⟩
theorem cgD (err : Cfg → Int) (c : Cfg) (a : Int) (Q : VF → Prop) (H : (((decide (c.long > Int.ofNat 300)) = true → Q (.c (.v (.bool true)), [], 68, [decide (c.long > Int.ofNat 300) == true, true, true, cfgK c, decide (c.nb ≤ 9223372036854775807), decide (err c = Int.ofNat 0), true, true, true, true, true, true, (err c != Int.ofNat 0) == false, cfgK c, true, true, true, true, true, true, true, decide (↑(c.nt) > Int.ofNat 60) == false, true, decide (↑(c.nb) > Int.ofNat 60) == false, true, decide (↑(c.ns) > Int.ofNat 60) == false, true, decide (↑(c.np) > Int.ofNat 60) == false, true, true, true, true, true, true, true, true, true, true, true, true, true], [])) ∧ ((decide (c.long > Int.ofNat 300)) = false → Q (.c (.v (.bool true)), [], 100000000000000000000000000000000000000000000000004, [(IntKind.wrap .i64 (↑(c.ns) * c.long) == Int.ofNat 0) == false, true, true, true, (!decide (↑(Int.toNat (c.nodes)) > Int.ofNat 0)) == false, true, decide (c.long > Int.ofNat 300) == false, true, true, cfgK c, decide (c.nb ≤ 9223372036854775807), decide (err c = Int.ofNat 0), true, true, true, true, true, true, (err c != Int.ofNat 0) == false, cfgK c, true, true, true, true, true, true, true, decide (↑(c.nt) > Int.ofNat 60) == false, true, decide (↑(c.nb) > Int.ofNat 60) == false, true, decide (↑(c.ns) > Int.ofNat 60) == false, true, decide (↑(c.np) > Int.ofNat 60) == false, true, true, true, true, true, true, true, true, true, true, true, true, true], [LoopV Tryd.prog (loopAt Tryd.prog 4 0) [1, 5, 6, 7, 8] cgIds [some (.c (.v (.int .i64 (IntKind.wrap .i64 ↑(BitVec.toNat (BitVec.ofInt (IntKind.bits .i64) a &&& BitVec.ofInt (IntKind.bits .i64) 549755813887)))))), some (.c (.ptr 46 0 0)), some (.c (.ptr 130000000000000000000000000000000000000091 0 0)), some (.c (.v (.bool false))), some (.c (.v (.int .i64 (Int.ofNat 0))))] [some (ABlk.mk false false 106 0 (Cs.lit [.v (.int .i64 (Int.ofNat 1)), .v (.int .i64 (Int.negSucc 0))])), some (ABlk.mk true false 56 0 (Cs.lit [.v (.int .i64 (c.nodes)), AC.sl 48 0 0 (c.np) (some (c.np)), AC.sl 49 0 0 (c.ns) (some (c.ns)), .v (.int .i64 (c.long)), AC.sl 50 0 0 (c.nb) (some (c.nb)), AC.sl 51 0 0 (c.nt) (some (c.nt)), .v (.int .i64 (c.miss)), .v (.int .i64 (c.good)), .v (.int .i64 (c.fresh)), AC.sl 47 0 0 (Int.toNat (c.nodes)) none])), some (ABlk.mk true true 3 1 (Cs.arr (Int.toNat (c.nodes)) fun k => List.map AC.v ((fun i => [Value.int .i64 (pairF c (2 * c.np) i)]) k))), some (ABlk.mk true true 3 1 (Cs.arr (c.np) fun k => List.map AC.v ((fun i => [Value.int .i64 (c.fp i)]) k))), some (ABlk.mk true true 3 1 (Cs.arr (c.ns) fun k => List.map AC.v ((fun i => [Value.int .i64 (c.fs i)]) k))), some (ABlk.mk true true 3 1 (Cs.arr (c.nb) fun k => List.map AC.v ((fun i => [Value.int .i64 (c.fb i)]) k))), some (ABlk.mk true true 64 3 (Cs.arr (c.nt) fun k => List.map AC.v ((fun i => [Value.int .i64 (Station.node (c.ft i)), Value.int .u32 (Station.safe (c.ft i)), Value.int .i64 (Station.hold (c.ft i))]) k))), some (ABlk.mk true false 54 0 (Cs.lit [AC.ptr 46 0 0, .v (.int .i64 (Int.ofNat 0)), .v (.int .i64 (Int.ofNat 0)), .v (.int .i64 (Int.ofNat 0)), .v (.int .i64 (Int.ofNat 0))]))] 92 130000000000000000000000000000000000000096 (mkFr 92 [(7, bo true)]) [(gid 0, signB)] 100000000000000000000000000000000000000000000000000 (Exit.exit 0) none])))) :
    ∃ p r, lwR (ENl0 Tryd.prog err ctsCg) 4 mS c [i64 a] p [some ⟨[1, 5, 6, 7, 8], cgIds, mkFr 92 [(7, bo true)], [(gid 0, signB)], 100000000000000000000000000000000000000000000000000, .exit 0⟩] = some r ∧ Q r := by
  rcases Bool.eq_false_or_eq_true (decide (c.long > Int.ofNat 300)) with h2 | h2
  · have g2 := H.1 h2
    exact ⟨([.b false, .a, .a, .a, .b false, .a, .a, .a, .b false, .a, .a, .a, .b false, .a, .a, .b false, .a, .a, .a, .b true] : List Dec), _, by kernel_rfl, g2⟩
  · have g2 := H.2 h2
    exact ⟨([.b false, .a, .a, .a, .b false, .a, .a, .a, .b false, .a, .a, .a, .b false, .a, .a, .b false, .a, .a, .a, .b false, .a, .a, .a, .a, .a, .a, .b false, .b false, .a] : List Dec), _, by kernel_rfl, g2⟩
end Go.Proofs.YtjefjmkeigfplaaDoor
end
/- ClocksGo: its loop's round as the evaluator runs it. -/
section
namespace Go.Proofs.YtjefjmkeigfplaaDoor
open Go.RowKit

abbrev netYc (c : Cfg) : List ABlk := [netY 46 c, intsW c.nodes.toNat (pairF c (2 * c.np)), intsW c.np c.fp, intsW c.ns c.fs, intsW c.nb c.fb, stsW c.nt c.ft]
abbrev clkB (s x y z : Int) : ABlk := ⟨true, false, 54, 0, .lit [.ptr 46 0 0, .v (.int .i64 s), .v (.int .i64 x), .v (.int .i64 y), .v (.int .i64 z)]⟩
abbrev cgBk (c : Cfg) (s x y z : Int) : List ABlk := signB :: (netYc c ++ [clkB s x y z])
abbrev cgV (A : Int) (b : Bool) (i : Nat) : List AV := [i64 A, .c (.ptr 46 0 0), .c (.ptr cgK 0 0), .c (.v (.bool b)), i64 (Int.ofNat i)]
def cgR (P : Program) (err : Cfg → Int) (c : Cfg) (A : Int) (b : Bool) (i : Nat) (s x y z : Int) (path : List Dec) : Option VC :=
  view ([1, 5, 6, 7, 8] ++ []) cgIds (fC (ENl0 P err ctsCg) 100 (loopAt P 4 0) 1000000000000000000000000000000000000000000 10000000000000000000000000000000000000000 (stH 92 [1, 5, 6, 7, 8] cgIds (cgV A b i) (cgBk c s x y z) path []))
theorem cgI (err : Cfg → Int) (c : Cfg) (A : Int) (i : Nat) (x y z : Int) (Q : VC → Prop) (H : (((decide (Int.ofNat i < Int.ofNat 800)) = true → (((ckP c (IntKind.wrap .i64 (A + Int.ofNat i)) == Int.ofNat 0) = true → (((!true == (ckP c (IntKind.wrap .i64 (A + Int.ofNat i)) == Int.ofNat 0)) = true → Q (Exit.ret, [some (lkA (List.zip [1, 5, 6, 7, 8] (cgV A false i)) (0 + 1)), some (lkA (List.zip [1, 5, 6, 7, 8] (cgV A false i)) (0 + 1 + 1 + 1 + 1 + 1)), some (lkA (List.zip [1, 5, 6, 7, 8] (cgV A false i)) (0 + 1 + 1 + 1 + 1 + 1 + 1)), some (.c (.v (.bool (ckP c (IntKind.wrap .i64 (A + Int.ofNat i)) == Int.ofNat 0)))), some (lkA (List.zip [1, 5, 6, 7, 8] (cgV A false i)) (0 + 1 + 1 + 1 + 1 + 1 + 1 + 1 + 1))], [some (ABlk.mk false false 106 0 (Cs.lit [.v (.int .i64 (Int.ofNat 1)), .v (.int .i64 (Int.negSucc 0))])), some (ABlk.mk true false 56 0 (Cs.lit [.v (.int .i64 (c.nodes)), AC.sl 48 0 0 (c.np) (some (c.np)), AC.sl 49 0 0 (c.ns) (some (c.ns)), .v (.int .i64 (c.long)), AC.sl 50 0 0 (c.nb) (some (c.nb)), AC.sl 51 0 0 (c.nt) (some (c.nt)), .v (.int .i64 (c.miss)), .v (.int .i64 (c.good)), .v (.int .i64 (c.fresh)), AC.sl 47 0 0 (Int.toNat (c.nodes)) none])), some (ABlk.mk true true 3 1 (Cs.arr (Int.toNat (c.nodes)) fun k => List.map AC.v ((fun i => [Value.int .i64 (pairF c (2 * c.np) i)]) k))), some (ABlk.mk true true 3 1 (Cs.arr (c.np) fun k => List.map AC.v ((fun i => [Value.int .i64 (c.fp i)]) k))), some (ABlk.mk true true 3 1 (Cs.arr (c.ns) fun k => List.map AC.v ((fun i => [Value.int .i64 (c.fs i)]) k))), some (ABlk.mk true true 3 1 (Cs.arr (c.nb) fun k => List.map AC.v ((fun i => [Value.int .i64 (c.fb i)]) k))), some (ABlk.mk true true 64 3 (Cs.arr (c.nt) fun k => List.map AC.v ((fun i => [Value.int .i64 (Station.node (c.ft i)), Value.int .u32 (Station.safe (c.ft i)), Value.int .i64 (Station.hold (c.ft i))]) k))), some (ABlk.mk true false 54 0 (Cs.lit [AC.ptr 46 0 0, .v (.int .i64 (Int.ofNat 1)), .v (.int .i64 (ckT c (IntKind.wrap .i64 (A + Int.ofNat i)))), .v (.int .i64 (ckS c (IntKind.wrap .i64 (A + Int.ofNat i)))), .v (.int .i64 (ckP c (IntKind.wrap .i64 (A + Int.ofNat i))))]))], 92, 1090000000000000000000000000000000000000099, [(!true == (ckP c (IntKind.wrap .i64 (A + Int.ofNat i)) == Int.ofNat 0)) == true, (ckErr (IntKind.wrap .i64 (A + Int.ofNat i)) != Int.ofNat 0) == false, true, true, true, netK c (Int.toNat (c.nodes)) (pairF c (2 * c.np)), ofP (NetS.mk c (Int.toNat (c.nodes)) (pairF c (2 * c.np)) [.c (.v (.int .i64 (IntKind.wrap .i64 (A + Int.ofNat i))))]), true, true, true, true, true, true, true, true, true, true, true, true, true, true, true, true, true, true, (ckP c (IntKind.wrap .i64 (A + Int.ofNat i)) == Int.ofNat 0) == true, true, true, (ckErr (IntKind.wrap .i64 (A + Int.ofNat i)) == Int.ofNat 0) == true, true, netK c (Int.toNat (c.nodes)) (pairF c (2 * c.np)), ofP (NetS.mk c (Int.toNat (c.nodes)) (pairF c (2 * c.np)) [.c (.v (.int .i64 (IntKind.wrap .i64 (A + Int.ofNat i))))]), true, true, true, true, true, decide (Int.ofNat i < Int.ofNat 800) == true], [])) ∧ ((!true == (ckP c (IntKind.wrap .i64 (A + Int.ofNat i)) == Int.ofNat 0)) = false → (((!eqF [some .i64, some .i64, some .i64] [.v (.int .i64 (ckT c (IntKind.wrap .i64 (A + Int.ofNat i)))), .v (.int .i64 (ckS c (IntKind.wrap .i64 (A + Int.ofNat i)))), .v (.int .i64 (ckP c (IntKind.wrap .i64 (A + Int.ofNat i))))] [.v (.int .i64 (ckT c (IntKind.wrap .i64 (A + Int.ofNat i)))), .v (.int .i64 (ckS c (IntKind.wrap .i64 (A + Int.ofNat i)))), .v (.int .i64 (ckP c (IntKind.wrap .i64 (A + Int.ofNat i))))]) = true → Q (Exit.ret, [some (lkA (List.zip [1, 5, 6, 7, 8] (cgV A false i)) (0 + 1)), some (lkA (List.zip [1, 5, 6, 7, 8] (cgV A false i)) (0 + 1 + 1 + 1 + 1 + 1)), some (lkA (List.zip [1, 5, 6, 7, 8] (cgV A false i)) (0 + 1 + 1 + 1 + 1 + 1 + 1)), some (.c (.v (.bool (ckP c (IntKind.wrap .i64 (A + Int.ofNat i)) == Int.ofNat 0)))), some (lkA (List.zip [1, 5, 6, 7, 8] (cgV A false i)) (0 + 1 + 1 + 1 + 1 + 1 + 1 + 1 + 1))], [some (ABlk.mk false false 106 0 (Cs.lit [.v (.int .i64 (Int.ofNat 1)), .v (.int .i64 (Int.negSucc 0))])), some (ABlk.mk true false 56 0 (Cs.lit [.v (.int .i64 (c.nodes)), AC.sl 48 0 0 (c.np) (some (c.np)), AC.sl 49 0 0 (c.ns) (some (c.ns)), .v (.int .i64 (c.long)), AC.sl 50 0 0 (c.nb) (some (c.nb)), AC.sl 51 0 0 (c.nt) (some (c.nt)), .v (.int .i64 (c.miss)), .v (.int .i64 (c.good)), .v (.int .i64 (c.fresh)), AC.sl 47 0 0 (Int.toNat (c.nodes)) none])), some (ABlk.mk true true 3 1 (Cs.arr (Int.toNat (c.nodes)) fun k => List.map AC.v ((fun i => [Value.int .i64 (pairF c (2 * c.np) i)]) k))), some (ABlk.mk true true 3 1 (Cs.arr (c.np) fun k => List.map AC.v ((fun i => [Value.int .i64 (c.fp i)]) k))), some (ABlk.mk true true 3 1 (Cs.arr (c.ns) fun k => List.map AC.v ((fun i => [Value.int .i64 (c.fs i)]) k))), some (ABlk.mk true true 3 1 (Cs.arr (c.nb) fun k => List.map AC.v ((fun i => [Value.int .i64 (c.fb i)]) k))), some (ABlk.mk true true 64 3 (Cs.arr (c.nt) fun k => List.map AC.v ((fun i => [Value.int .i64 (Station.node (c.ft i)), Value.int .u32 (Station.safe (c.ft i)), Value.int .i64 (Station.hold (c.ft i))]) k))), some (ABlk.mk true false 54 0 (Cs.lit [AC.ptr 46 0 0, .v (.int .i64 (Int.ofNat 1)), .v (.int .i64 (ckT c (IntKind.wrap .i64 (A + Int.ofNat i)))), .v (.int .i64 (ckS c (IntKind.wrap .i64 (A + Int.ofNat i)))), .v (.int .i64 (ckP c (IntKind.wrap .i64 (A + Int.ofNat i))))]))], 92, 1090000000000000000000000000000000000000105, [(!eqF [some .i64, some .i64, some .i64] [.v (.int .i64 (ckT c (IntKind.wrap .i64 (A + Int.ofNat i)))), .v (.int .i64 (ckS c (IntKind.wrap .i64 (A + Int.ofNat i)))), .v (.int .i64 (ckP c (IntKind.wrap .i64 (A + Int.ofNat i))))] [.v (.int .i64 (ckT c (IntKind.wrap .i64 (A + Int.ofNat i)))), .v (.int .i64 (ckS c (IntKind.wrap .i64 (A + Int.ofNat i)))), .v (.int .i64 (ckP c (IntKind.wrap .i64 (A + Int.ofNat i))))]) == true, true, true, true, true, true, true, true, true, true, true, true, true, true, true, (!true == (ckP c (IntKind.wrap .i64 (A + Int.ofNat i)) == Int.ofNat 0)) == false, (ckErr (IntKind.wrap .i64 (A + Int.ofNat i)) != Int.ofNat 0) == false, true, true, true, netK c (Int.toNat (c.nodes)) (pairF c (2 * c.np)), ofP (NetS.mk c (Int.toNat (c.nodes)) (pairF c (2 * c.np)) [.c (.v (.int .i64 (IntKind.wrap .i64 (A + Int.ofNat i))))]), true, true, true, true, true, true, true, true, true, true, true, true, true, true, true, true, true, true, (ckP c (IntKind.wrap .i64 (A + Int.ofNat i)) == Int.ofNat 0) == true, true, true, (ckErr (IntKind.wrap .i64 (A + Int.ofNat i)) == Int.ofNat 0) == true, true, netK c (Int.toNat (c.nodes)) (pairF c (2 * c.np)), ofP (NetS.mk c (Int.toNat (c.nodes)) (pairF c (2 * c.np)) [.c (.v (.int .i64 (IntKind.wrap .i64 (A + Int.ofNat i))))]), true, true, true, true, true, decide (Int.ofNat i < Int.ofNat 800) == true], [])) ∧ ((!eqF [some .i64, some .i64, some .i64] [.v (.int .i64 (ckT c (IntKind.wrap .i64 (A + Int.ofNat i)))), .v (.int .i64 (ckS c (IntKind.wrap .i64 (A + Int.ofNat i)))), .v (.int .i64 (ckP c (IntKind.wrap .i64 (A + Int.ofNat i))))] [.v (.int .i64 (ckT c (IntKind.wrap .i64 (A + Int.ofNat i)))), .v (.int .i64 (ckS c (IntKind.wrap .i64 (A + Int.ofNat i)))), .v (.int .i64 (ckP c (IntKind.wrap .i64 (A + Int.ofNat i))))]) = false → (((agA c (ckT c (IntKind.wrap .i64 (A + Int.ofNat i))) (ckS c (IntKind.wrap .i64 (A + Int.ofNat i))) (ckP c (IntKind.wrap .i64 (A + Int.ofNat i))) != agA c (ckT c (IntKind.wrap .i64 (A + Int.ofNat i))) (ckS c (IntKind.wrap .i64 (A + Int.ofNat i))) (ckP c (IntKind.wrap .i64 (A + Int.ofNat i)))) = true → Q (Exit.ret, [some (lkA (List.zip [1, 5, 6, 7, 8] (cgV A false i)) (0 + 1)), some (lkA (List.zip [1, 5, 6, 7, 8] (cgV A false i)) (0 + 1 + 1 + 1 + 1 + 1)), some (lkA (List.zip [1, 5, 6, 7, 8] (cgV A false i)) (0 + 1 + 1 + 1 + 1 + 1 + 1)), some (.c (.v (.bool (ckP c (IntKind.wrap .i64 (A + Int.ofNat i)) == Int.ofNat 0)))), some (lkA (List.zip [1, 5, 6, 7, 8] (cgV A false i)) (0 + 1 + 1 + 1 + 1 + 1 + 1 + 1 + 1))], [some (ABlk.mk false false 106 0 (Cs.lit [.v (.int .i64 (Int.ofNat 1)), .v (.int .i64 (Int.negSucc 0))])), some (ABlk.mk true false 56 0 (Cs.lit [.v (.int .i64 (c.nodes)), AC.sl 48 0 0 (c.np) (some (c.np)), AC.sl 49 0 0 (c.ns) (some (c.ns)), .v (.int .i64 (c.long)), AC.sl 50 0 0 (c.nb) (some (c.nb)), AC.sl 51 0 0 (c.nt) (some (c.nt)), .v (.int .i64 (c.miss)), .v (.int .i64 (c.good)), .v (.int .i64 (c.fresh)), AC.sl 47 0 0 (Int.toNat (c.nodes)) none])), some (ABlk.mk true true 3 1 (Cs.arr (Int.toNat (c.nodes)) fun k => List.map AC.v ((fun i => [Value.int .i64 (pairF c (2 * c.np) i)]) k))), some (ABlk.mk true true 3 1 (Cs.arr (c.np) fun k => List.map AC.v ((fun i => [Value.int .i64 (c.fp i)]) k))), some (ABlk.mk true true 3 1 (Cs.arr (c.ns) fun k => List.map AC.v ((fun i => [Value.int .i64 (c.fs i)]) k))), some (ABlk.mk true true 3 1 (Cs.arr (c.nb) fun k => List.map AC.v ((fun i => [Value.int .i64 (c.fb i)]) k))), some (ABlk.mk true true 64 3 (Cs.arr (c.nt) fun k => List.map AC.v ((fun i => [Value.int .i64 (Station.node (c.ft i)), Value.int .u32 (Station.safe (c.ft i)), Value.int .i64 (Station.hold (c.ft i))]) k))), some (ABlk.mk true false 54 0 (Cs.lit [AC.ptr 46 0 0, .v (.int .i64 (Int.ofNat 1)), .v (.int .i64 (ckT c (IntKind.wrap .i64 (A + Int.ofNat i)))), .v (.int .i64 (ckS c (IntKind.wrap .i64 (A + Int.ofNat i)))), .v (.int .i64 (ckP c (IntKind.wrap .i64 (A + Int.ofNat i))))]))], 92, 1200000000000000000000000000000000000000141, [(agA c (ckT c (IntKind.wrap .i64 (A + Int.ofNat i))) (ckS c (IntKind.wrap .i64 (A + Int.ofNat i))) (ckP c (IntKind.wrap .i64 (A + Int.ofNat i))) != agA c (ckT c (IntKind.wrap .i64 (A + Int.ofNat i))) (ckS c (IntKind.wrap .i64 (A + Int.ofNat i))) (ckP c (IntKind.wrap .i64 (A + Int.ofNat i)))) == true, netK c (Int.toNat (c.nodes)) (pairF c (2 * c.np)), agP (NetS.mk c (Int.toNat (c.nodes)) (pairF c (2 * c.np)) [.agg [.v (.int .i64 (ckT c (IntKind.wrap .i64 (A + Int.ofNat i)))), .v (.int .i64 (ckS c (IntKind.wrap .i64 (A + Int.ofNat i)))), .v (.int .i64 (ckP c (IntKind.wrap .i64 (A + Int.ofNat i))))]]), true, true, true, true, netK c (Int.toNat (c.nodes)) (pairF c (2 * c.np)), agP (NetS.mk c (Int.toNat (c.nodes)) (pairF c (2 * c.np)) [.agg [.v (.int .i64 (ckT c (IntKind.wrap .i64 (A + Int.ofNat i)))), .v (.int .i64 (ckS c (IntKind.wrap .i64 (A + Int.ofNat i)))), .v (.int .i64 (ckP c (IntKind.wrap .i64 (A + Int.ofNat i))))]]), true, true, true, true, true, true, true, true, (!eqF [some .i64, some .i64, some .i64] [.v (.int .i64 (ckT c (IntKind.wrap .i64 (A + Int.ofNat i)))), .v (.int .i64 (ckS c (IntKind.wrap .i64 (A + Int.ofNat i)))), .v (.int .i64 (ckP c (IntKind.wrap .i64 (A + Int.ofNat i))))] [.v (.int .i64 (ckT c (IntKind.wrap .i64 (A + Int.ofNat i)))), .v (.int .i64 (ckS c (IntKind.wrap .i64 (A + Int.ofNat i)))), .v (.int .i64 (ckP c (IntKind.wrap .i64 (A + Int.ofNat i))))]) == false, true, true, true, true, true, true, true, true, true, true, true, true, true, true, (!true == (ckP c (IntKind.wrap .i64 (A + Int.ofNat i)) == Int.ofNat 0)) == false, (ckErr (IntKind.wrap .i64 (A + Int.ofNat i)) != Int.ofNat 0) == false, true, true, true, netK c (Int.toNat (c.nodes)) (pairF c (2 * c.np)), ofP (NetS.mk c (Int.toNat (c.nodes)) (pairF c (2 * c.np)) [.c (.v (.int .i64 (IntKind.wrap .i64 (A + Int.ofNat i))))]), true, true, true, true, true, true, true, true, true, true, true, true, true, true, true, true, true, true, (ckP c (IntKind.wrap .i64 (A + Int.ofNat i)) == Int.ofNat 0) == true, true, true, (ckErr (IntKind.wrap .i64 (A + Int.ofNat i)) == Int.ofNat 0) == true, true, netK c (Int.toNat (c.nodes)) (pairF c (2 * c.np)), ofP (NetS.mk c (Int.toNat (c.nodes)) (pairF c (2 * c.np)) [.c (.v (.int .i64 (IntKind.wrap .i64 (A + Int.ofNat i))))]), true, true, true, true, true, decide (Int.ofNat i < Int.ofNat 800) == true], [])) ∧ ((agA c (ckT c (IntKind.wrap .i64 (A + Int.ofNat i))) (ckS c (IntKind.wrap .i64 (A + Int.ofNat i))) (ckP c (IntKind.wrap .i64 (A + Int.ofNat i))) != agA c (ckT c (IntKind.wrap .i64 (A + Int.ofNat i))) (ckS c (IntKind.wrap .i64 (A + Int.ofNat i))) (ckP c (IntKind.wrap .i64 (A + Int.ofNat i)))) = false → Q (Exit.normal, [some (lkA (List.zip [1, 5, 6, 7, 8] (cgV A false i)) (0 + 1)), some (lkA (List.zip [1, 5, 6, 7, 8] (cgV A false i)) (0 + 1 + 1 + 1 + 1 + 1)), some (lkA (List.zip [1, 5, 6, 7, 8] (cgV A false i)) (0 + 1 + 1 + 1 + 1 + 1 + 1)), some (.c (.v (.bool (ckP c (IntKind.wrap .i64 (A + Int.ofNat i)) == Int.ofNat 0)))), some (.c (.v (.int .i64 (IntKind.wrap .i64 (Int.ofNat i + Int.ofNat 1)))))], [some (ABlk.mk false false 106 0 (Cs.lit [.v (.int .i64 (Int.ofNat 1)), .v (.int .i64 (Int.negSucc 0))])), some (ABlk.mk true false 56 0 (Cs.lit [.v (.int .i64 (c.nodes)), AC.sl 48 0 0 (c.np) (some (c.np)), AC.sl 49 0 0 (c.ns) (some (c.ns)), .v (.int .i64 (c.long)), AC.sl 50 0 0 (c.nb) (some (c.nb)), AC.sl 51 0 0 (c.nt) (some (c.nt)), .v (.int .i64 (c.miss)), .v (.int .i64 (c.good)), .v (.int .i64 (c.fresh)), AC.sl 47 0 0 (Int.toNat (c.nodes)) none])), some (ABlk.mk true true 3 1 (Cs.arr (Int.toNat (c.nodes)) fun k => List.map AC.v ((fun i => [Value.int .i64 (pairF c (2 * c.np) i)]) k))), some (ABlk.mk true true 3 1 (Cs.arr (c.np) fun k => List.map AC.v ((fun i => [Value.int .i64 (c.fp i)]) k))), some (ABlk.mk true true 3 1 (Cs.arr (c.ns) fun k => List.map AC.v ((fun i => [Value.int .i64 (c.fs i)]) k))), some (ABlk.mk true true 3 1 (Cs.arr (c.nb) fun k => List.map AC.v ((fun i => [Value.int .i64 (c.fb i)]) k))), some (ABlk.mk true true 64 3 (Cs.arr (c.nt) fun k => List.map AC.v ((fun i => [Value.int .i64 (Station.node (c.ft i)), Value.int .u32 (Station.safe (c.ft i)), Value.int .i64 (Station.hold (c.ft i))]) k))), some (ABlk.mk true false 54 0 (Cs.lit [AC.ptr 46 0 0, .v (.int .i64 (Int.ofNat 1)), .v (.int .i64 (ckT c (IntKind.wrap .i64 (A + Int.ofNat i)))), .v (.int .i64 (ckS c (IntKind.wrap .i64 (A + Int.ofNat i)))), .v (.int .i64 (ckP c (IntKind.wrap .i64 (A + Int.ofNat i))))]))], 92, 1200000000000000000000000000000000000000143, [(agA c (ckT c (IntKind.wrap .i64 (A + Int.ofNat i))) (ckS c (IntKind.wrap .i64 (A + Int.ofNat i))) (ckP c (IntKind.wrap .i64 (A + Int.ofNat i))) != agA c (ckT c (IntKind.wrap .i64 (A + Int.ofNat i))) (ckS c (IntKind.wrap .i64 (A + Int.ofNat i))) (ckP c (IntKind.wrap .i64 (A + Int.ofNat i)))) == false, netK c (Int.toNat (c.nodes)) (pairF c (2 * c.np)), agP (NetS.mk c (Int.toNat (c.nodes)) (pairF c (2 * c.np)) [.agg [.v (.int .i64 (ckT c (IntKind.wrap .i64 (A + Int.ofNat i)))), .v (.int .i64 (ckS c (IntKind.wrap .i64 (A + Int.ofNat i)))), .v (.int .i64 (ckP c (IntKind.wrap .i64 (A + Int.ofNat i))))]]), true, true, true, true, netK c (Int.toNat (c.nodes)) (pairF c (2 * c.np)), agP (NetS.mk c (Int.toNat (c.nodes)) (pairF c (2 * c.np)) [.agg [.v (.int .i64 (ckT c (IntKind.wrap .i64 (A + Int.ofNat i)))), .v (.int .i64 (ckS c (IntKind.wrap .i64 (A + Int.ofNat i)))), .v (.int .i64 (ckP c (IntKind.wrap .i64 (A + Int.ofNat i))))]]), true, true, true, true, true, true, true, true, (!eqF [some .i64, some .i64, some .i64] [.v (.int .i64 (ckT c (IntKind.wrap .i64 (A + Int.ofNat i)))), .v (.int .i64 (ckS c (IntKind.wrap .i64 (A + Int.ofNat i)))), .v (.int .i64 (ckP c (IntKind.wrap .i64 (A + Int.ofNat i))))] [.v (.int .i64 (ckT c (IntKind.wrap .i64 (A + Int.ofNat i)))), .v (.int .i64 (ckS c (IntKind.wrap .i64 (A + Int.ofNat i)))), .v (.int .i64 (ckP c (IntKind.wrap .i64 (A + Int.ofNat i))))]) == false, true, true, true, true, true, true, true, true, true, true, true, true, true, true, (!true == (ckP c (IntKind.wrap .i64 (A + Int.ofNat i)) == Int.ofNat 0)) == false, (ckErr (IntKind.wrap .i64 (A + Int.ofNat i)) != Int.ofNat 0) == false, true, true, true, netK c (Int.toNat (c.nodes)) (pairF c (2 * c.np)), ofP (NetS.mk c (Int.toNat (c.nodes)) (pairF c (2 * c.np)) [.c (.v (.int .i64 (IntKind.wrap .i64 (A + Int.ofNat i))))]), true, true, true, true, true, true, true, true, true, true, true, true, true, true, true, true, true, true, (ckP c (IntKind.wrap .i64 (A + Int.ofNat i)) == Int.ofNat 0) == true, true, true, (ckErr (IntKind.wrap .i64 (A + Int.ofNat i)) == Int.ofNat 0) == true, true, netK c (Int.toNat (c.nodes)) (pairF c (2 * c.np)), ofP (NetS.mk c (Int.toNat (c.nodes)) (pairF c (2 * c.np)) [.c (.v (.int .i64 (IntKind.wrap .i64 (A + Int.ofNat i))))]), true, true, true, true, true, decide (Int.ofNat i < Int.ofNat 800) == true], [])))))))) ∧ ((ckP c (IntKind.wrap .i64 (A + Int.ofNat i)) == Int.ofNat 0) = false → (((!false == (ckP c (IntKind.wrap .i64 (A + Int.ofNat i)) == Int.ofNat 0)) = true → Q (Exit.ret, [some (lkA (List.zip [1, 5, 6, 7, 8] (cgV A false i)) (0 + 1)), some (lkA (List.zip [1, 5, 6, 7, 8] (cgV A false i)) (0 + 1 + 1 + 1 + 1 + 1)), some (lkA (List.zip [1, 5, 6, 7, 8] (cgV A false i)) (0 + 1 + 1 + 1 + 1 + 1 + 1)), some (.c (.v (.bool (ckP c (IntKind.wrap .i64 (A + Int.ofNat i)) == Int.ofNat 0)))), some (lkA (List.zip [1, 5, 6, 7, 8] (cgV A false i)) (0 + 1 + 1 + 1 + 1 + 1 + 1 + 1 + 1))], [some (ABlk.mk false false 106 0 (Cs.lit [.v (.int .i64 (Int.ofNat 1)), .v (.int .i64 (Int.negSucc 0))])), some (ABlk.mk true false 56 0 (Cs.lit [.v (.int .i64 (c.nodes)), AC.sl 48 0 0 (c.np) (some (c.np)), AC.sl 49 0 0 (c.ns) (some (c.ns)), .v (.int .i64 (c.long)), AC.sl 50 0 0 (c.nb) (some (c.nb)), AC.sl 51 0 0 (c.nt) (some (c.nt)), .v (.int .i64 (c.miss)), .v (.int .i64 (c.good)), .v (.int .i64 (c.fresh)), AC.sl 47 0 0 (Int.toNat (c.nodes)) none])), some (ABlk.mk true true 3 1 (Cs.arr (Int.toNat (c.nodes)) fun k => List.map AC.v ((fun i => [Value.int .i64 (pairF c (2 * c.np) i)]) k))), some (ABlk.mk true true 3 1 (Cs.arr (c.np) fun k => List.map AC.v ((fun i => [Value.int .i64 (c.fp i)]) k))), some (ABlk.mk true true 3 1 (Cs.arr (c.ns) fun k => List.map AC.v ((fun i => [Value.int .i64 (c.fs i)]) k))), some (ABlk.mk true true 3 1 (Cs.arr (c.nb) fun k => List.map AC.v ((fun i => [Value.int .i64 (c.fb i)]) k))), some (ABlk.mk true true 64 3 (Cs.arr (c.nt) fun k => List.map AC.v ((fun i => [Value.int .i64 (Station.node (c.ft i)), Value.int .u32 (Station.safe (c.ft i)), Value.int .i64 (Station.hold (c.ft i))]) k))), some (ABlk.mk true false 54 0 (Cs.lit [AC.ptr 46 0 0, .v (.int .i64 (Int.ofNat 0)), .v (.int .i64 x), .v (.int .i64 y), .v (.int .i64 z)]))], 92, 1000000000000000000000000000000000000000096, [(!false == (ckP c (IntKind.wrap .i64 (A + Int.ofNat i)) == Int.ofNat 0)) == true, (ckErr (IntKind.wrap .i64 (A + Int.ofNat i)) != Int.ofNat 0) == false, true, true, true, netK c (Int.toNat (c.nodes)) (pairF c (2 * c.np)), ofP (NetS.mk c (Int.toNat (c.nodes)) (pairF c (2 * c.np)) [.c (.v (.int .i64 (IntKind.wrap .i64 (A + Int.ofNat i))))]), true, true, true, true, true, true, true, true, true, true, true, true, (ckP c (IntKind.wrap .i64 (A + Int.ofNat i)) == Int.ofNat 0) == false, true, true, (ckErr (IntKind.wrap .i64 (A + Int.ofNat i)) == Int.ofNat 0) == true, true, netK c (Int.toNat (c.nodes)) (pairF c (2 * c.np)), ofP (NetS.mk c (Int.toNat (c.nodes)) (pairF c (2 * c.np)) [.c (.v (.int .i64 (IntKind.wrap .i64 (A + Int.ofNat i))))]), true, true, true, true, true, decide (Int.ofNat i < Int.ofNat 800) == true], [])) ∧ ((!false == (ckP c (IntKind.wrap .i64 (A + Int.ofNat i)) == Int.ofNat 0)) = false → Q (Exit.normal, [some (lkA (List.zip [1, 5, 6, 7, 8] (cgV A false i)) (0 + 1)), some (lkA (List.zip [1, 5, 6, 7, 8] (cgV A false i)) (0 + 1 + 1 + 1 + 1 + 1)), some (lkA (List.zip [1, 5, 6, 7, 8] (cgV A false i)) (0 + 1 + 1 + 1 + 1 + 1 + 1)), some (.c (.v (.bool (ckP c (IntKind.wrap .i64 (A + Int.ofNat i)) == Int.ofNat 0)))), some (.c (.v (.int .i64 (IntKind.wrap .i64 (Int.ofNat i + Int.ofNat 1)))))], [some (ABlk.mk false false 106 0 (Cs.lit [.v (.int .i64 (Int.ofNat 1)), .v (.int .i64 (Int.negSucc 0))])), some (ABlk.mk true false 56 0 (Cs.lit [.v (.int .i64 (c.nodes)), AC.sl 48 0 0 (c.np) (some (c.np)), AC.sl 49 0 0 (c.ns) (some (c.ns)), .v (.int .i64 (c.long)), AC.sl 50 0 0 (c.nb) (some (c.nb)), AC.sl 51 0 0 (c.nt) (some (c.nt)), .v (.int .i64 (c.miss)), .v (.int .i64 (c.good)), .v (.int .i64 (c.fresh)), AC.sl 47 0 0 (Int.toNat (c.nodes)) none])), some (ABlk.mk true true 3 1 (Cs.arr (Int.toNat (c.nodes)) fun k => List.map AC.v ((fun i => [Value.int .i64 (pairF c (2 * c.np) i)]) k))), some (ABlk.mk true true 3 1 (Cs.arr (c.np) fun k => List.map AC.v ((fun i => [Value.int .i64 (c.fp i)]) k))), some (ABlk.mk true true 3 1 (Cs.arr (c.ns) fun k => List.map AC.v ((fun i => [Value.int .i64 (c.fs i)]) k))), some (ABlk.mk true true 3 1 (Cs.arr (c.nb) fun k => List.map AC.v ((fun i => [Value.int .i64 (c.fb i)]) k))), some (ABlk.mk true true 64 3 (Cs.arr (c.nt) fun k => List.map AC.v ((fun i => [Value.int .i64 (Station.node (c.ft i)), Value.int .u32 (Station.safe (c.ft i)), Value.int .i64 (Station.hold (c.ft i))]) k))), some (ABlk.mk true false 54 0 (Cs.lit [AC.ptr 46 0 0, .v (.int .i64 (Int.ofNat 0)), .v (.int .i64 x), .v (.int .i64 y), .v (.int .i64 z)]))], 92, 1000000000000000000000000000000000000000135, [true, true, true, (!false == (ckP c (IntKind.wrap .i64 (A + Int.ofNat i)) == Int.ofNat 0)) == false, (ckErr (IntKind.wrap .i64 (A + Int.ofNat i)) != Int.ofNat 0) == false, true, true, true, netK c (Int.toNat (c.nodes)) (pairF c (2 * c.np)), ofP (NetS.mk c (Int.toNat (c.nodes)) (pairF c (2 * c.np)) [.c (.v (.int .i64 (IntKind.wrap .i64 (A + Int.ofNat i))))]), true, true, true, true, true, true, true, true, true, true, true, true, (ckP c (IntKind.wrap .i64 (A + Int.ofNat i)) == Int.ofNat 0) == false, true, true, (ckErr (IntKind.wrap .i64 (A + Int.ofNat i)) == Int.ofNat 0) == true, true, netK c (Int.toNat (c.nodes)) (pairF c (2 * c.np)), ofP (NetS.mk c (Int.toNat (c.nodes)) (pairF c (2 * c.np)) [.c (.v (.int .i64 (IntKind.wrap .i64 (A + Int.ofNat i))))]), true, true, true, true, true, decide (Int.ofNat i < Int.ofNat 800) == true], [])))))) ∧ ((decide (Int.ofNat i < Int.ofNat 800)) = false → Q (Exit.exit 0, [some (lkA (List.zip [1, 5, 6, 7, 8] (cgV A false i)) (0 + 1)), some (lkA (List.zip [1, 5, 6, 7, 8] (cgV A false i)) (0 + 1 + 1 + 1 + 1 + 1)), some (lkA (List.zip [1, 5, 6, 7, 8] (cgV A false i)) (0 + 1 + 1 + 1 + 1 + 1 + 1)), some (lkA (List.zip [1, 5, 6, 7, 8] (cgV A false i)) (0 + 1 + 1 + 1 + 1 + 1 + 1 + 1)), some (lkA (List.zip [1, 5, 6, 7, 8] (cgV A false i)) (0 + 1 + 1 + 1 + 1 + 1 + 1 + 1 + 1))], [some (ABlk.mk false false 106 0 (Cs.lit [.v (.int .i64 (Int.ofNat 1)), .v (.int .i64 (Int.negSucc 0))])), some (ABlk.mk true false 56 0 (Cs.lit [.v (.int .i64 (c.nodes)), AC.sl 48 0 0 (c.np) (some (c.np)), AC.sl 49 0 0 (c.ns) (some (c.ns)), .v (.int .i64 (c.long)), AC.sl 50 0 0 (c.nb) (some (c.nb)), AC.sl 51 0 0 (c.nt) (some (c.nt)), .v (.int .i64 (c.miss)), .v (.int .i64 (c.good)), .v (.int .i64 (c.fresh)), AC.sl 47 0 0 (Int.toNat (c.nodes)) none])), some (ABlk.mk true true 3 1 (Cs.arr (Int.toNat (c.nodes)) fun k => List.map AC.v ((fun i => [Value.int .i64 (pairF c (2 * c.np) i)]) k))), some (ABlk.mk true true 3 1 (Cs.arr (c.np) fun k => List.map AC.v ((fun i => [Value.int .i64 (c.fp i)]) k))), some (ABlk.mk true true 3 1 (Cs.arr (c.ns) fun k => List.map AC.v ((fun i => [Value.int .i64 (c.fs i)]) k))), some (ABlk.mk true true 3 1 (Cs.arr (c.nb) fun k => List.map AC.v ((fun i => [Value.int .i64 (c.fb i)]) k))), some (ABlk.mk true true 64 3 (Cs.arr (c.nt) fun k => List.map AC.v ((fun i => [Value.int .i64 (Station.node (c.ft i)), Value.int .u32 (Station.safe (c.ft i)), Value.int .i64 (Station.hold (c.ft i))]) k))), some (ABlk.mk true false 54 0 (Cs.lit [AC.ptr 46 0 0, .v (.int .i64 (Int.ofNat 0)), .v (.int .i64 x), .v (.int .i64 y), .v (.int .i64 z)]))], 92, 1000000000000000000000000000000000000000002, [decide (Int.ofNat i < Int.ofNat 800) == false], [])))) :
    ∃ p r, cgR Tryd.prog err c A false i 0 x y z p = some r ∧ Q r := by
  rcases Bool.eq_false_or_eq_true (decide (Int.ofNat i < Int.ofNat 800)) with h2 | h2
  · have g2 := H.1 h2
    rcases Bool.eq_false_or_eq_true (ckP c (IntKind.wrap .i64 (A + Int.ofNat i)) == Int.ofNat 0) with h4 | h4
    · have g4 := g2.1 h4
      rcases Bool.eq_false_or_eq_true (!true == (ckP c (IntKind.wrap .i64 (A + Int.ofNat i)) == Int.ofNat 0)) with h6 | h6
      · have g6 := g4.1 h6
        exact ⟨([.b true, .a, .a, .a, .a, .a, .a, .a, .a, .a, .a, .a, .b true, .a, .a, .b true, .a, .a, .a, .a, .b false, .a, .a, .b true, .a, .a, .a] : List Dec), _, by kernel_rfl, g6⟩
      · have g6 := g4.2 h6
        rcases Bool.eq_false_or_eq_true (!eqF [some .i64, some .i64, some .i64] [.v (.int .i64 (ckT c (IntKind.wrap .i64 (A + Int.ofNat i)))), .v (.int .i64 (ckS c (IntKind.wrap .i64 (A + Int.ofNat i)))), .v (.int .i64 (ckP c (IntKind.wrap .i64 (A + Int.ofNat i))))] [.v (.int .i64 (ckT c (IntKind.wrap .i64 (A + Int.ofNat i)))), .v (.int .i64 (ckS c (IntKind.wrap .i64 (A + Int.ofNat i)))), .v (.int .i64 (ckP c (IntKind.wrap .i64 (A + Int.ofNat i))))]) with h8 | h8
        · have g8 := g6.1 h8
          exact ⟨([.b true, .a, .a, .a, .a, .a, .a, .a, .a, .a, .a, .a, .b true, .a, .a, .b true, .a, .a, .a, .a, .b false, .a, .a, .b false, .a, .a, .a, .a, .a, .b true] : List Dec), _, by kernel_rfl, g8⟩
        · have g8 := g6.2 h8
          rcases Bool.eq_false_or_eq_true (agA c (ckT c (IntKind.wrap .i64 (A + Int.ofNat i))) (ckS c (IntKind.wrap .i64 (A + Int.ofNat i))) (ckP c (IntKind.wrap .i64 (A + Int.ofNat i))) != agA c (ckT c (IntKind.wrap .i64 (A + Int.ofNat i))) (ckS c (IntKind.wrap .i64 (A + Int.ofNat i))) (ckP c (IntKind.wrap .i64 (A + Int.ofNat i)))) with h10 | h10
          · have g10 := g8.1 h10
            exact ⟨([.b true, .a, .a, .a, .a, .a, .a, .a, .a, .a, .a, .a, .b true, .a, .a, .b true, .a, .a, .a, .a, .b false, .a, .a, .b false, .a, .a, .a, .a, .a, .b false, .a, .a, .a, .a, .a, .a, .a, .a, .a, .a, .a, .a, .a, .a, .a, .a, .a, .a, .a, .b true] : List Dec), _, by kernel_rfl, g10⟩
          · have g10 := g8.2 h10
            exact ⟨([.b true, .a, .a, .a, .a, .a, .a, .a, .a, .a, .a, .a, .b true, .a, .a, .b true, .a, .a, .a, .a, .b false, .a, .a, .b false, .a, .a, .a, .a, .a, .b false, .a, .a, .a, .a, .a, .a, .a, .a, .a, .a, .a, .a, .a, .a, .a, .a, .a, .a, .a, .b false] : List Dec), _, by kernel_rfl, g10⟩
    · have g4 := g2.2 h4
      rcases Bool.eq_false_or_eq_true (!false == (ckP c (IntKind.wrap .i64 (A + Int.ofNat i)) == Int.ofNat 0)) with h6 | h6
      · have g6 := g4.1 h6
        exact ⟨([.b true, .a, .a, .a, .a, .a, .a, .a, .a, .a, .a, .a, .b true, .a, .a, .b false, .a, .a, .a, .a, .b false, .a, .a, .b true, .a, .a, .a] : List Dec), _, by kernel_rfl, g6⟩
      · have g6 := g4.2 h6
        exact ⟨([.b true, .a, .a, .a, .a, .a, .a, .a, .a, .a, .a, .a, .b true, .a, .a, .b false, .a, .a, .a, .a, .b false, .a, .a, .b false, .a, .a, .a, .a, .a, .a, .a, .a, .a, .a, .a, .a, .a, .a, .a, .a, .a, .a, .a, .a, .a, .a, .a, .a, .a, .a] : List Dec), _, by kernel_rfl, g6⟩
  · have g2 := H.2 h2
    exact ⟨([.b false] : List Dec), _, by kernel_rfl, g2⟩
theorem cgG (err : Cfg → Int) (c : Cfg) (A : Int) (i : Nat) (x y z : Int) (Q : VC → Prop) (H : (((decide (Int.ofNat i < Int.ofNat 800)) = true → (((decide (IntKind.wrap .i64 (z + Int.ofNat 1) < c.long)) = true → (((!eqF [some .i64, some .i64, some .i64] [.v (.int .i64 x), .v (.int .i64 y), .v (.int .i64 (IntKind.wrap .i64 (z + Int.ofNat 1)))] [.v (.int .i64 (ckT c (IntKind.wrap .i64 (A + Int.ofNat i)))), .v (.int .i64 (ckS c (IntKind.wrap .i64 (A + Int.ofNat i)))), .v (.int .i64 (ckP c (IntKind.wrap .i64 (A + Int.ofNat i))))]) = true → Q (Exit.ret, [some (lkA (List.zip [1, 5, 6, 7, 8] (cgV A true i)) (0 + 1)), some (lkA (List.zip [1, 5, 6, 7, 8] (cgV A true i)) (0 + 1 + 1 + 1 + 1 + 1)), some (lkA (List.zip [1, 5, 6, 7, 8] (cgV A true i)) (0 + 1 + 1 + 1 + 1 + 1 + 1)), some (.c (.v (.bool true))), some (lkA (List.zip [1, 5, 6, 7, 8] (cgV A true i)) (0 + 1 + 1 + 1 + 1 + 1 + 1 + 1 + 1))], [some (ABlk.mk false false 106 0 (Cs.lit [.v (.int .i64 (Int.ofNat 1)), .v (.int .i64 (Int.negSucc 0))])), some (ABlk.mk true false 56 0 (Cs.lit [.v (.int .i64 (c.nodes)), AC.sl 48 0 0 (c.np) (some (c.np)), AC.sl 49 0 0 (c.ns) (some (c.ns)), .v (.int .i64 (c.long)), AC.sl 50 0 0 (c.nb) (some (c.nb)), AC.sl 51 0 0 (c.nt) (some (c.nt)), .v (.int .i64 (c.miss)), .v (.int .i64 (c.good)), .v (.int .i64 (c.fresh)), AC.sl 47 0 0 (Int.toNat (c.nodes)) none])), some (ABlk.mk true true 3 1 (Cs.arr (Int.toNat (c.nodes)) fun k => List.map AC.v ((fun i => [Value.int .i64 (pairF c (2 * c.np) i)]) k))), some (ABlk.mk true true 3 1 (Cs.arr (c.np) fun k => List.map AC.v ((fun i => [Value.int .i64 (c.fp i)]) k))), some (ABlk.mk true true 3 1 (Cs.arr (c.ns) fun k => List.map AC.v ((fun i => [Value.int .i64 (c.fs i)]) k))), some (ABlk.mk true true 3 1 (Cs.arr (c.nb) fun k => List.map AC.v ((fun i => [Value.int .i64 (c.fb i)]) k))), some (ABlk.mk true true 64 3 (Cs.arr (c.nt) fun k => List.map AC.v ((fun i => [Value.int .i64 (Station.node (c.ft i)), Value.int .u32 (Station.safe (c.ft i)), Value.int .i64 (Station.hold (c.ft i))]) k))), some (ABlk.mk true false 54 0 (Cs.lit [AC.ptr 46 0 0, .v (.int .i64 (Int.ofNat 1)), .v (.int .i64 x), .v (.int .i64 y), .v (.int .i64 (IntKind.wrap .i64 (z + Int.ofNat 1)))]))], 92, 1140000000000000000000000000000000000000080, [(!eqF [some .i64, some .i64, some .i64] [.v (.int .i64 x), .v (.int .i64 y), .v (.int .i64 (IntKind.wrap .i64 (z + Int.ofNat 1)))] [.v (.int .i64 (ckT c (IntKind.wrap .i64 (A + Int.ofNat i)))), .v (.int .i64 (ckS c (IntKind.wrap .i64 (A + Int.ofNat i)))), .v (.int .i64 (ckP c (IntKind.wrap .i64 (A + Int.ofNat i))))]) == true, true, true, true, true, true, true, true, true, true, true, true, true, true, true, (ckErr (IntKind.wrap .i64 (A + Int.ofNat i)) != Int.ofNat 0) == false, true, netK c (Int.toNat (c.nodes)) (pairF c (2 * c.np)), ofP (NetS.mk c (Int.toNat (c.nodes)) (pairF c (2 * c.np)) [.c (.v (.int .i64 (IntKind.wrap .i64 (A + Int.ofNat i))))]), true, true, true, true, true, true, true, true, true, true, true, true, decide (IntKind.wrap .i64 (z + Int.ofNat 1) < c.long) == true, true, true, true, true, true, true, true, true, true, true, true, decide (Int.ofNat i < Int.ofNat 800) == true], [])) ∧ ((!eqF [some .i64, some .i64, some .i64] [.v (.int .i64 x), .v (.int .i64 y), .v (.int .i64 (IntKind.wrap .i64 (z + Int.ofNat 1)))] [.v (.int .i64 (ckT c (IntKind.wrap .i64 (A + Int.ofNat i)))), .v (.int .i64 (ckS c (IntKind.wrap .i64 (A + Int.ofNat i)))), .v (.int .i64 (ckP c (IntKind.wrap .i64 (A + Int.ofNat i))))]) = false → (((agA c x y (IntKind.wrap .i64 (z + Int.ofNat 1)) != agA c (ckT c (IntKind.wrap .i64 (A + Int.ofNat i))) (ckS c (IntKind.wrap .i64 (A + Int.ofNat i))) (ckP c (IntKind.wrap .i64 (A + Int.ofNat i)))) = true → Q (Exit.ret, [some (lkA (List.zip [1, 5, 6, 7, 8] (cgV A true i)) (0 + 1)), some (lkA (List.zip [1, 5, 6, 7, 8] (cgV A true i)) (0 + 1 + 1 + 1 + 1 + 1)), some (lkA (List.zip [1, 5, 6, 7, 8] (cgV A true i)) (0 + 1 + 1 + 1 + 1 + 1 + 1)), some (.c (.v (.bool true))), some (lkA (List.zip [1, 5, 6, 7, 8] (cgV A true i)) (0 + 1 + 1 + 1 + 1 + 1 + 1 + 1 + 1))], [some (ABlk.mk false false 106 0 (Cs.lit [.v (.int .i64 (Int.ofNat 1)), .v (.int .i64 (Int.negSucc 0))])), some (ABlk.mk true false 56 0 (Cs.lit [.v (.int .i64 (c.nodes)), AC.sl 48 0 0 (c.np) (some (c.np)), AC.sl 49 0 0 (c.ns) (some (c.ns)), .v (.int .i64 (c.long)), AC.sl 50 0 0 (c.nb) (some (c.nb)), AC.sl 51 0 0 (c.nt) (some (c.nt)), .v (.int .i64 (c.miss)), .v (.int .i64 (c.good)), .v (.int .i64 (c.fresh)), AC.sl 47 0 0 (Int.toNat (c.nodes)) none])), some (ABlk.mk true true 3 1 (Cs.arr (Int.toNat (c.nodes)) fun k => List.map AC.v ((fun i => [Value.int .i64 (pairF c (2 * c.np) i)]) k))), some (ABlk.mk true true 3 1 (Cs.arr (c.np) fun k => List.map AC.v ((fun i => [Value.int .i64 (c.fp i)]) k))), some (ABlk.mk true true 3 1 (Cs.arr (c.ns) fun k => List.map AC.v ((fun i => [Value.int .i64 (c.fs i)]) k))), some (ABlk.mk true true 3 1 (Cs.arr (c.nb) fun k => List.map AC.v ((fun i => [Value.int .i64 (c.fb i)]) k))), some (ABlk.mk true true 64 3 (Cs.arr (c.nt) fun k => List.map AC.v ((fun i => [Value.int .i64 (Station.node (c.ft i)), Value.int .u32 (Station.safe (c.ft i)), Value.int .i64 (Station.hold (c.ft i))]) k))), some (ABlk.mk true false 54 0 (Cs.lit [AC.ptr 46 0 0, .v (.int .i64 (Int.ofNat 1)), .v (.int .i64 x), .v (.int .i64 y), .v (.int .i64 (IntKind.wrap .i64 (z + Int.ofNat 1)))]))], 92, 1250000000000000000000000000000000000000116, [(agA c x y (IntKind.wrap .i64 (z + Int.ofNat 1)) != agA c (ckT c (IntKind.wrap .i64 (A + Int.ofNat i))) (ckS c (IntKind.wrap .i64 (A + Int.ofNat i))) (ckP c (IntKind.wrap .i64 (A + Int.ofNat i)))) == true, netK c (Int.toNat (c.nodes)) (pairF c (2 * c.np)), agP (NetS.mk c (Int.toNat (c.nodes)) (pairF c (2 * c.np)) [.agg [.v (.int .i64 (ckT c (IntKind.wrap .i64 (A + Int.ofNat i)))), .v (.int .i64 (ckS c (IntKind.wrap .i64 (A + Int.ofNat i)))), .v (.int .i64 (ckP c (IntKind.wrap .i64 (A + Int.ofNat i))))]]), true, true, true, true, netK c (Int.toNat (c.nodes)) (pairF c (2 * c.np)), agP (NetS.mk c (Int.toNat (c.nodes)) (pairF c (2 * c.np)) [.agg [.v (.int .i64 x), .v (.int .i64 y), .v (.int .i64 (IntKind.wrap .i64 (z + Int.ofNat 1)))]]), true, true, true, true, true, true, true, true, (!eqF [some .i64, some .i64, some .i64] [.v (.int .i64 x), .v (.int .i64 y), .v (.int .i64 (IntKind.wrap .i64 (z + Int.ofNat 1)))] [.v (.int .i64 (ckT c (IntKind.wrap .i64 (A + Int.ofNat i)))), .v (.int .i64 (ckS c (IntKind.wrap .i64 (A + Int.ofNat i)))), .v (.int .i64 (ckP c (IntKind.wrap .i64 (A + Int.ofNat i))))]) == false, true, true, true, true, true, true, true, true, true, true, true, true, true, true, (ckErr (IntKind.wrap .i64 (A + Int.ofNat i)) != Int.ofNat 0) == false, true, netK c (Int.toNat (c.nodes)) (pairF c (2 * c.np)), ofP (NetS.mk c (Int.toNat (c.nodes)) (pairF c (2 * c.np)) [.c (.v (.int .i64 (IntKind.wrap .i64 (A + Int.ofNat i))))]), true, true, true, true, true, true, true, true, true, true, true, true, decide (IntKind.wrap .i64 (z + Int.ofNat 1) < c.long) == true, true, true, true, true, true, true, true, true, true, true, true, decide (Int.ofNat i < Int.ofNat 800) == true], [])) ∧ ((agA c x y (IntKind.wrap .i64 (z + Int.ofNat 1)) != agA c (ckT c (IntKind.wrap .i64 (A + Int.ofNat i))) (ckS c (IntKind.wrap .i64 (A + Int.ofNat i))) (ckP c (IntKind.wrap .i64 (A + Int.ofNat i)))) = false → Q (Exit.normal, [some (lkA (List.zip [1, 5, 6, 7, 8] (cgV A true i)) (0 + 1)), some (lkA (List.zip [1, 5, 6, 7, 8] (cgV A true i)) (0 + 1 + 1 + 1 + 1 + 1)), some (lkA (List.zip [1, 5, 6, 7, 8] (cgV A true i)) (0 + 1 + 1 + 1 + 1 + 1 + 1)), some (.c (.v (.bool true))), some (.c (.v (.int .i64 (IntKind.wrap .i64 (Int.ofNat i + Int.ofNat 1)))))], [some (ABlk.mk false false 106 0 (Cs.lit [.v (.int .i64 (Int.ofNat 1)), .v (.int .i64 (Int.negSucc 0))])), some (ABlk.mk true false 56 0 (Cs.lit [.v (.int .i64 (c.nodes)), AC.sl 48 0 0 (c.np) (some (c.np)), AC.sl 49 0 0 (c.ns) (some (c.ns)), .v (.int .i64 (c.long)), AC.sl 50 0 0 (c.nb) (some (c.nb)), AC.sl 51 0 0 (c.nt) (some (c.nt)), .v (.int .i64 (c.miss)), .v (.int .i64 (c.good)), .v (.int .i64 (c.fresh)), AC.sl 47 0 0 (Int.toNat (c.nodes)) none])), some (ABlk.mk true true 3 1 (Cs.arr (Int.toNat (c.nodes)) fun k => List.map AC.v ((fun i => [Value.int .i64 (pairF c (2 * c.np) i)]) k))), some (ABlk.mk true true 3 1 (Cs.arr (c.np) fun k => List.map AC.v ((fun i => [Value.int .i64 (c.fp i)]) k))), some (ABlk.mk true true 3 1 (Cs.arr (c.ns) fun k => List.map AC.v ((fun i => [Value.int .i64 (c.fs i)]) k))), some (ABlk.mk true true 3 1 (Cs.arr (c.nb) fun k => List.map AC.v ((fun i => [Value.int .i64 (c.fb i)]) k))), some (ABlk.mk true true 64 3 (Cs.arr (c.nt) fun k => List.map AC.v ((fun i => [Value.int .i64 (Station.node (c.ft i)), Value.int .u32 (Station.safe (c.ft i)), Value.int .i64 (Station.hold (c.ft i))]) k))), some (ABlk.mk true false 54 0 (Cs.lit [AC.ptr 46 0 0, .v (.int .i64 (Int.ofNat 1)), .v (.int .i64 x), .v (.int .i64 y), .v (.int .i64 (IntKind.wrap .i64 (z + Int.ofNat 1)))]))], 92, 1250000000000000000000000000000000000000118, [(agA c x y (IntKind.wrap .i64 (z + Int.ofNat 1)) != agA c (ckT c (IntKind.wrap .i64 (A + Int.ofNat i))) (ckS c (IntKind.wrap .i64 (A + Int.ofNat i))) (ckP c (IntKind.wrap .i64 (A + Int.ofNat i)))) == false, netK c (Int.toNat (c.nodes)) (pairF c (2 * c.np)), agP (NetS.mk c (Int.toNat (c.nodes)) (pairF c (2 * c.np)) [.agg [.v (.int .i64 (ckT c (IntKind.wrap .i64 (A + Int.ofNat i)))), .v (.int .i64 (ckS c (IntKind.wrap .i64 (A + Int.ofNat i)))), .v (.int .i64 (ckP c (IntKind.wrap .i64 (A + Int.ofNat i))))]]), true, true, true, true, netK c (Int.toNat (c.nodes)) (pairF c (2 * c.np)), agP (NetS.mk c (Int.toNat (c.nodes)) (pairF c (2 * c.np)) [.agg [.v (.int .i64 x), .v (.int .i64 y), .v (.int .i64 (IntKind.wrap .i64 (z + Int.ofNat 1)))]]), true, true, true, true, true, true, true, true, (!eqF [some .i64, some .i64, some .i64] [.v (.int .i64 x), .v (.int .i64 y), .v (.int .i64 (IntKind.wrap .i64 (z + Int.ofNat 1)))] [.v (.int .i64 (ckT c (IntKind.wrap .i64 (A + Int.ofNat i)))), .v (.int .i64 (ckS c (IntKind.wrap .i64 (A + Int.ofNat i)))), .v (.int .i64 (ckP c (IntKind.wrap .i64 (A + Int.ofNat i))))]) == false, true, true, true, true, true, true, true, true, true, true, true, true, true, true, (ckErr (IntKind.wrap .i64 (A + Int.ofNat i)) != Int.ofNat 0) == false, true, netK c (Int.toNat (c.nodes)) (pairF c (2 * c.np)), ofP (NetS.mk c (Int.toNat (c.nodes)) (pairF c (2 * c.np)) [.c (.v (.int .i64 (IntKind.wrap .i64 (A + Int.ofNat i))))]), true, true, true, true, true, true, true, true, true, true, true, true, decide (IntKind.wrap .i64 (z + Int.ofNat 1) < c.long) == true, true, true, true, true, true, true, true, true, true, true, true, decide (Int.ofNat i < Int.ofNat 800) == true], [])))))) ∧ ((decide (IntKind.wrap .i64 (z + Int.ofNat 1) < c.long)) = false → (((ckP c (IntKind.wrap .i64 (A + Int.ofNat i)) == Int.ofNat 0) = true → (((!eqF [some .i64, some .i64, some .i64] [.v (.int .i64 (ckT c (IntKind.wrap .i64 (A + Int.ofNat i)))), .v (.int .i64 (ckS c (IntKind.wrap .i64 (A + Int.ofNat i)))), .v (.int .i64 (ckP c (IntKind.wrap .i64 (A + Int.ofNat i))))] [.v (.int .i64 (ckT c (IntKind.wrap .i64 (A + Int.ofNat i)))), .v (.int .i64 (ckS c (IntKind.wrap .i64 (A + Int.ofNat i)))), .v (.int .i64 (ckP c (IntKind.wrap .i64 (A + Int.ofNat i))))]) = true → Q (Exit.ret, [some (lkA (List.zip [1, 5, 6, 7, 8] (cgV A true i)) (0 + 1)), some (lkA (List.zip [1, 5, 6, 7, 8] (cgV A true i)) (0 + 1 + 1 + 1 + 1 + 1)), some (lkA (List.zip [1, 5, 6, 7, 8] (cgV A true i)) (0 + 1 + 1 + 1 + 1 + 1 + 1)), some (.c (.v (.bool true))), some (lkA (List.zip [1, 5, 6, 7, 8] (cgV A true i)) (0 + 1 + 1 + 1 + 1 + 1 + 1 + 1 + 1))], [some (ABlk.mk false false 106 0 (Cs.lit [.v (.int .i64 (Int.ofNat 1)), .v (.int .i64 (Int.negSucc 0))])), some (ABlk.mk true false 56 0 (Cs.lit [.v (.int .i64 (c.nodes)), AC.sl 48 0 0 (c.np) (some (c.np)), AC.sl 49 0 0 (c.ns) (some (c.ns)), .v (.int .i64 (c.long)), AC.sl 50 0 0 (c.nb) (some (c.nb)), AC.sl 51 0 0 (c.nt) (some (c.nt)), .v (.int .i64 (c.miss)), .v (.int .i64 (c.good)), .v (.int .i64 (c.fresh)), AC.sl 47 0 0 (Int.toNat (c.nodes)) none])), some (ABlk.mk true true 3 1 (Cs.arr (Int.toNat (c.nodes)) fun k => List.map AC.v ((fun i => [Value.int .i64 (pairF c (2 * c.np) i)]) k))), some (ABlk.mk true true 3 1 (Cs.arr (c.np) fun k => List.map AC.v ((fun i => [Value.int .i64 (c.fp i)]) k))), some (ABlk.mk true true 3 1 (Cs.arr (c.ns) fun k => List.map AC.v ((fun i => [Value.int .i64 (c.fs i)]) k))), some (ABlk.mk true true 3 1 (Cs.arr (c.nb) fun k => List.map AC.v ((fun i => [Value.int .i64 (c.fb i)]) k))), some (ABlk.mk true true 64 3 (Cs.arr (c.nt) fun k => List.map AC.v ((fun i => [Value.int .i64 (Station.node (c.ft i)), Value.int .u32 (Station.safe (c.ft i)), Value.int .i64 (Station.hold (c.ft i))]) k))), some (ABlk.mk true false 54 0 (Cs.lit [AC.ptr 46 0 0, .v (.int .i64 (Int.ofNat 1)), .v (.int .i64 (ckT c (IntKind.wrap .i64 (A + Int.ofNat i)))), .v (.int .i64 (ckS c (IntKind.wrap .i64 (A + Int.ofNat i)))), .v (.int .i64 (ckP c (IntKind.wrap .i64 (A + Int.ofNat i))))]))], 92, 1230000000000000000000000000000000000000112, [(!eqF [some .i64, some .i64, some .i64] [.v (.int .i64 (ckT c (IntKind.wrap .i64 (A + Int.ofNat i)))), .v (.int .i64 (ckS c (IntKind.wrap .i64 (A + Int.ofNat i)))), .v (.int .i64 (ckP c (IntKind.wrap .i64 (A + Int.ofNat i))))] [.v (.int .i64 (ckT c (IntKind.wrap .i64 (A + Int.ofNat i)))), .v (.int .i64 (ckS c (IntKind.wrap .i64 (A + Int.ofNat i)))), .v (.int .i64 (ckP c (IntKind.wrap .i64 (A + Int.ofNat i))))]) == true, true, true, true, true, true, true, true, true, true, true, true, true, true, true, (ckErr (IntKind.wrap .i64 (A + Int.ofNat i)) != Int.ofNat 0) == false, true, netK c (Int.toNat (c.nodes)) (pairF c (2 * c.np)), ofP (NetS.mk c (Int.toNat (c.nodes)) (pairF c (2 * c.np)) [.c (.v (.int .i64 (IntKind.wrap .i64 (A + Int.ofNat i))))]), true, true, true, true, true, true, true, true, true, true, true, true, true, true, true, true, true, true, (ckP c (IntKind.wrap .i64 (A + Int.ofNat i)) == Int.ofNat 0) == true, true, true, (ckErr (IntKind.wrap .i64 (A + Int.ofNat i)) == Int.ofNat 0) == true, true, netK c (Int.toNat (c.nodes)) (pairF c (2 * c.np)), ofP (NetS.mk c (Int.toNat (c.nodes)) (pairF c (2 * c.np)) [.c (.v (.int .i64 (IntKind.wrap .i64 (A + Int.ofNat i))))]), true, true, true, decide (IntKind.wrap .i64 (z + Int.ofNat 1) < c.long) == false, true, true, true, true, true, true, true, true, true, true, true, decide (Int.ofNat i < Int.ofNat 800) == true], [])) ∧ ((!eqF [some .i64, some .i64, some .i64] [.v (.int .i64 (ckT c (IntKind.wrap .i64 (A + Int.ofNat i)))), .v (.int .i64 (ckS c (IntKind.wrap .i64 (A + Int.ofNat i)))), .v (.int .i64 (ckP c (IntKind.wrap .i64 (A + Int.ofNat i))))] [.v (.int .i64 (ckT c (IntKind.wrap .i64 (A + Int.ofNat i)))), .v (.int .i64 (ckS c (IntKind.wrap .i64 (A + Int.ofNat i)))), .v (.int .i64 (ckP c (IntKind.wrap .i64 (A + Int.ofNat i))))]) = false → (((agA c (ckT c (IntKind.wrap .i64 (A + Int.ofNat i))) (ckS c (IntKind.wrap .i64 (A + Int.ofNat i))) (ckP c (IntKind.wrap .i64 (A + Int.ofNat i))) != agA c (ckT c (IntKind.wrap .i64 (A + Int.ofNat i))) (ckS c (IntKind.wrap .i64 (A + Int.ofNat i))) (ckP c (IntKind.wrap .i64 (A + Int.ofNat i)))) = true → Q (Exit.ret, [some (lkA (List.zip [1, 5, 6, 7, 8] (cgV A true i)) (0 + 1)), some (lkA (List.zip [1, 5, 6, 7, 8] (cgV A true i)) (0 + 1 + 1 + 1 + 1 + 1)), some (lkA (List.zip [1, 5, 6, 7, 8] (cgV A true i)) (0 + 1 + 1 + 1 + 1 + 1 + 1)), some (.c (.v (.bool true))), some (lkA (List.zip [1, 5, 6, 7, 8] (cgV A true i)) (0 + 1 + 1 + 1 + 1 + 1 + 1 + 1 + 1))], [some (ABlk.mk false false 106 0 (Cs.lit [.v (.int .i64 (Int.ofNat 1)), .v (.int .i64 (Int.negSucc 0))])), some (ABlk.mk true false 56 0 (Cs.lit [.v (.int .i64 (c.nodes)), AC.sl 48 0 0 (c.np) (some (c.np)), AC.sl 49 0 0 (c.ns) (some (c.ns)), .v (.int .i64 (c.long)), AC.sl 50 0 0 (c.nb) (some (c.nb)), AC.sl 51 0 0 (c.nt) (some (c.nt)), .v (.int .i64 (c.miss)), .v (.int .i64 (c.good)), .v (.int .i64 (c.fresh)), AC.sl 47 0 0 (Int.toNat (c.nodes)) none])), some (ABlk.mk true true 3 1 (Cs.arr (Int.toNat (c.nodes)) fun k => List.map AC.v ((fun i => [Value.int .i64 (pairF c (2 * c.np) i)]) k))), some (ABlk.mk true true 3 1 (Cs.arr (c.np) fun k => List.map AC.v ((fun i => [Value.int .i64 (c.fp i)]) k))), some (ABlk.mk true true 3 1 (Cs.arr (c.ns) fun k => List.map AC.v ((fun i => [Value.int .i64 (c.fs i)]) k))), some (ABlk.mk true true 3 1 (Cs.arr (c.nb) fun k => List.map AC.v ((fun i => [Value.int .i64 (c.fb i)]) k))), some (ABlk.mk true true 64 3 (Cs.arr (c.nt) fun k => List.map AC.v ((fun i => [Value.int .i64 (Station.node (c.ft i)), Value.int .u32 (Station.safe (c.ft i)), Value.int .i64 (Station.hold (c.ft i))]) k))), some (ABlk.mk true false 54 0 (Cs.lit [AC.ptr 46 0 0, .v (.int .i64 (Int.ofNat 1)), .v (.int .i64 (ckT c (IntKind.wrap .i64 (A + Int.ofNat i)))), .v (.int .i64 (ckS c (IntKind.wrap .i64 (A + Int.ofNat i)))), .v (.int .i64 (ckP c (IntKind.wrap .i64 (A + Int.ofNat i))))]))], 92, 1340000000000000000000000000000000000000148, [(agA c (ckT c (IntKind.wrap .i64 (A + Int.ofNat i))) (ckS c (IntKind.wrap .i64 (A + Int.ofNat i))) (ckP c (IntKind.wrap .i64 (A + Int.ofNat i))) != agA c (ckT c (IntKind.wrap .i64 (A + Int.ofNat i))) (ckS c (IntKind.wrap .i64 (A + Int.ofNat i))) (ckP c (IntKind.wrap .i64 (A + Int.ofNat i)))) == true, netK c (Int.toNat (c.nodes)) (pairF c (2 * c.np)), agP (NetS.mk c (Int.toNat (c.nodes)) (pairF c (2 * c.np)) [.agg [.v (.int .i64 (ckT c (IntKind.wrap .i64 (A + Int.ofNat i)))), .v (.int .i64 (ckS c (IntKind.wrap .i64 (A + Int.ofNat i)))), .v (.int .i64 (ckP c (IntKind.wrap .i64 (A + Int.ofNat i))))]]), true, true, true, true, netK c (Int.toNat (c.nodes)) (pairF c (2 * c.np)), agP (NetS.mk c (Int.toNat (c.nodes)) (pairF c (2 * c.np)) [.agg [.v (.int .i64 (ckT c (IntKind.wrap .i64 (A + Int.ofNat i)))), .v (.int .i64 (ckS c (IntKind.wrap .i64 (A + Int.ofNat i)))), .v (.int .i64 (ckP c (IntKind.wrap .i64 (A + Int.ofNat i))))]]), true, true, true, true, true, true, true, true, (!eqF [some .i64, some .i64, some .i64] [.v (.int .i64 (ckT c (IntKind.wrap .i64 (A + Int.ofNat i)))), .v (.int .i64 (ckS c (IntKind.wrap .i64 (A + Int.ofNat i)))), .v (.int .i64 (ckP c (IntKind.wrap .i64 (A + Int.ofNat i))))] [.v (.int .i64 (ckT c (IntKind.wrap .i64 (A + Int.ofNat i)))), .v (.int .i64 (ckS c (IntKind.wrap .i64 (A + Int.ofNat i)))), .v (.int .i64 (ckP c (IntKind.wrap .i64 (A + Int.ofNat i))))]) == false, true, true, true, true, true, true, true, true, true, true, true, true, true, true, (ckErr (IntKind.wrap .i64 (A + Int.ofNat i)) != Int.ofNat 0) == false, true, netK c (Int.toNat (c.nodes)) (pairF c (2 * c.np)), ofP (NetS.mk c (Int.toNat (c.nodes)) (pairF c (2 * c.np)) [.c (.v (.int .i64 (IntKind.wrap .i64 (A + Int.ofNat i))))]), true, true, true, true, true, true, true, true, true, true, true, true, true, true, true, true, true, true, (ckP c (IntKind.wrap .i64 (A + Int.ofNat i)) == Int.ofNat 0) == true, true, true, (ckErr (IntKind.wrap .i64 (A + Int.ofNat i)) == Int.ofNat 0) == true, true, netK c (Int.toNat (c.nodes)) (pairF c (2 * c.np)), ofP (NetS.mk c (Int.toNat (c.nodes)) (pairF c (2 * c.np)) [.c (.v (.int .i64 (IntKind.wrap .i64 (A + Int.ofNat i))))]), true, true, true, decide (IntKind.wrap .i64 (z + Int.ofNat 1) < c.long) == false, true, true, true, true, true, true, true, true, true, true, true, decide (Int.ofNat i < Int.ofNat 800) == true], [])) ∧ ((agA c (ckT c (IntKind.wrap .i64 (A + Int.ofNat i))) (ckS c (IntKind.wrap .i64 (A + Int.ofNat i))) (ckP c (IntKind.wrap .i64 (A + Int.ofNat i))) != agA c (ckT c (IntKind.wrap .i64 (A + Int.ofNat i))) (ckS c (IntKind.wrap .i64 (A + Int.ofNat i))) (ckP c (IntKind.wrap .i64 (A + Int.ofNat i)))) = false → Q (Exit.normal, [some (lkA (List.zip [1, 5, 6, 7, 8] (cgV A true i)) (0 + 1)), some (lkA (List.zip [1, 5, 6, 7, 8] (cgV A true i)) (0 + 1 + 1 + 1 + 1 + 1)), some (lkA (List.zip [1, 5, 6, 7, 8] (cgV A true i)) (0 + 1 + 1 + 1 + 1 + 1 + 1)), some (.c (.v (.bool true))), some (.c (.v (.int .i64 (IntKind.wrap .i64 (Int.ofNat i + Int.ofNat 1)))))], [some (ABlk.mk false false 106 0 (Cs.lit [.v (.int .i64 (Int.ofNat 1)), .v (.int .i64 (Int.negSucc 0))])), some (ABlk.mk true false 56 0 (Cs.lit [.v (.int .i64 (c.nodes)), AC.sl 48 0 0 (c.np) (some (c.np)), AC.sl 49 0 0 (c.ns) (some (c.ns)), .v (.int .i64 (c.long)), AC.sl 50 0 0 (c.nb) (some (c.nb)), AC.sl 51 0 0 (c.nt) (some (c.nt)), .v (.int .i64 (c.miss)), .v (.int .i64 (c.good)), .v (.int .i64 (c.fresh)), AC.sl 47 0 0 (Int.toNat (c.nodes)) none])), some (ABlk.mk true true 3 1 (Cs.arr (Int.toNat (c.nodes)) fun k => List.map AC.v ((fun i => [Value.int .i64 (pairF c (2 * c.np) i)]) k))), some (ABlk.mk true true 3 1 (Cs.arr (c.np) fun k => List.map AC.v ((fun i => [Value.int .i64 (c.fp i)]) k))), some (ABlk.mk true true 3 1 (Cs.arr (c.ns) fun k => List.map AC.v ((fun i => [Value.int .i64 (c.fs i)]) k))), some (ABlk.mk true true 3 1 (Cs.arr (c.nb) fun k => List.map AC.v ((fun i => [Value.int .i64 (c.fb i)]) k))), some (ABlk.mk true true 64 3 (Cs.arr (c.nt) fun k => List.map AC.v ((fun i => [Value.int .i64 (Station.node (c.ft i)), Value.int .u32 (Station.safe (c.ft i)), Value.int .i64 (Station.hold (c.ft i))]) k))), some (ABlk.mk true false 54 0 (Cs.lit [AC.ptr 46 0 0, .v (.int .i64 (Int.ofNat 1)), .v (.int .i64 (ckT c (IntKind.wrap .i64 (A + Int.ofNat i)))), .v (.int .i64 (ckS c (IntKind.wrap .i64 (A + Int.ofNat i)))), .v (.int .i64 (ckP c (IntKind.wrap .i64 (A + Int.ofNat i))))]))], 92, 1340000000000000000000000000000000000000150, [(agA c (ckT c (IntKind.wrap .i64 (A + Int.ofNat i))) (ckS c (IntKind.wrap .i64 (A + Int.ofNat i))) (ckP c (IntKind.wrap .i64 (A + Int.ofNat i))) != agA c (ckT c (IntKind.wrap .i64 (A + Int.ofNat i))) (ckS c (IntKind.wrap .i64 (A + Int.ofNat i))) (ckP c (IntKind.wrap .i64 (A + Int.ofNat i)))) == false, netK c (Int.toNat (c.nodes)) (pairF c (2 * c.np)), agP (NetS.mk c (Int.toNat (c.nodes)) (pairF c (2 * c.np)) [.agg [.v (.int .i64 (ckT c (IntKind.wrap .i64 (A + Int.ofNat i)))), .v (.int .i64 (ckS c (IntKind.wrap .i64 (A + Int.ofNat i)))), .v (.int .i64 (ckP c (IntKind.wrap .i64 (A + Int.ofNat i))))]]), true, true, true, true, netK c (Int.toNat (c.nodes)) (pairF c (2 * c.np)), agP (NetS.mk c (Int.toNat (c.nodes)) (pairF c (2 * c.np)) [.agg [.v (.int .i64 (ckT c (IntKind.wrap .i64 (A + Int.ofNat i)))), .v (.int .i64 (ckS c (IntKind.wrap .i64 (A + Int.ofNat i)))), .v (.int .i64 (ckP c (IntKind.wrap .i64 (A + Int.ofNat i))))]]), true, true, true, true, true, true, true, true, (!eqF [some .i64, some .i64, some .i64] [.v (.int .i64 (ckT c (IntKind.wrap .i64 (A + Int.ofNat i)))), .v (.int .i64 (ckS c (IntKind.wrap .i64 (A + Int.ofNat i)))), .v (.int .i64 (ckP c (IntKind.wrap .i64 (A + Int.ofNat i))))] [.v (.int .i64 (ckT c (IntKind.wrap .i64 (A + Int.ofNat i)))), .v (.int .i64 (ckS c (IntKind.wrap .i64 (A + Int.ofNat i)))), .v (.int .i64 (ckP c (IntKind.wrap .i64 (A + Int.ofNat i))))]) == false, true, true, true, true, true, true, true, true, true, true, true, true, true, true, (ckErr (IntKind.wrap .i64 (A + Int.ofNat i)) != Int.ofNat 0) == false, true, netK c (Int.toNat (c.nodes)) (pairF c (2 * c.np)), ofP (NetS.mk c (Int.toNat (c.nodes)) (pairF c (2 * c.np)) [.c (.v (.int .i64 (IntKind.wrap .i64 (A + Int.ofNat i))))]), true, true, true, true, true, true, true, true, true, true, true, true, true, true, true, true, true, true, (ckP c (IntKind.wrap .i64 (A + Int.ofNat i)) == Int.ofNat 0) == true, true, true, (ckErr (IntKind.wrap .i64 (A + Int.ofNat i)) == Int.ofNat 0) == true, true, netK c (Int.toNat (c.nodes)) (pairF c (2 * c.np)), ofP (NetS.mk c (Int.toNat (c.nodes)) (pairF c (2 * c.np)) [.c (.v (.int .i64 (IntKind.wrap .i64 (A + Int.ofNat i))))]), true, true, true, decide (IntKind.wrap .i64 (z + Int.ofNat 1) < c.long) == false, true, true, true, true, true, true, true, true, true, true, true, decide (Int.ofNat i < Int.ofNat 800) == true], [])))))) ∧ ((ckP c (IntKind.wrap .i64 (A + Int.ofNat i)) == Int.ofNat 0) = false → Q (Exit.ret, [some (lkA (List.zip [1, 5, 6, 7, 8] (cgV A true i)) (0 + 1)), some (lkA (List.zip [1, 5, 6, 7, 8] (cgV A true i)) (0 + 1 + 1 + 1 + 1 + 1)), some (lkA (List.zip [1, 5, 6, 7, 8] (cgV A true i)) (0 + 1 + 1 + 1 + 1 + 1 + 1)), some (.c (.v (.bool true))), some (lkA (List.zip [1, 5, 6, 7, 8] (cgV A true i)) (0 + 1 + 1 + 1 + 1 + 1 + 1 + 1 + 1))], [some (ABlk.mk false false 106 0 (Cs.lit [.v (.int .i64 (Int.ofNat 1)), .v (.int .i64 (Int.negSucc 0))])), some (ABlk.mk true false 56 0 (Cs.lit [.v (.int .i64 (c.nodes)), AC.sl 48 0 0 (c.np) (some (c.np)), AC.sl 49 0 0 (c.ns) (some (c.ns)), .v (.int .i64 (c.long)), AC.sl 50 0 0 (c.nb) (some (c.nb)), AC.sl 51 0 0 (c.nt) (some (c.nt)), .v (.int .i64 (c.miss)), .v (.int .i64 (c.good)), .v (.int .i64 (c.fresh)), AC.sl 47 0 0 (Int.toNat (c.nodes)) none])), some (ABlk.mk true true 3 1 (Cs.arr (Int.toNat (c.nodes)) fun k => List.map AC.v ((fun i => [Value.int .i64 (pairF c (2 * c.np) i)]) k))), some (ABlk.mk true true 3 1 (Cs.arr (c.np) fun k => List.map AC.v ((fun i => [Value.int .i64 (c.fp i)]) k))), some (ABlk.mk true true 3 1 (Cs.arr (c.ns) fun k => List.map AC.v ((fun i => [Value.int .i64 (c.fs i)]) k))), some (ABlk.mk true true 3 1 (Cs.arr (c.nb) fun k => List.map AC.v ((fun i => [Value.int .i64 (c.fb i)]) k))), some (ABlk.mk true true 64 3 (Cs.arr (c.nt) fun k => List.map AC.v ((fun i => [Value.int .i64 (Station.node (c.ft i)), Value.int .u32 (Station.safe (c.ft i)), Value.int .i64 (Station.hold (c.ft i))]) k))), some (ABlk.mk true false 54 0 (Cs.lit [AC.ptr 46 0 0, .v (.int .i64 (Int.ofNat 0)), .v (.int .i64 x), .v (.int .i64 y), .v (.int .i64 (IntKind.wrap .i64 (z + Int.ofNat 1)))]))], 92, 1140000000000000000000000000000000000000103, [(ckErr (IntKind.wrap .i64 (A + Int.ofNat i)) != Int.ofNat 0) == false, true, netK c (Int.toNat (c.nodes)) (pairF c (2 * c.np)), ofP (NetS.mk c (Int.toNat (c.nodes)) (pairF c (2 * c.np)) [.c (.v (.int .i64 (IntKind.wrap .i64 (A + Int.ofNat i))))]), true, true, true, true, true, true, true, true, true, true, true, true, (ckP c (IntKind.wrap .i64 (A + Int.ofNat i)) == Int.ofNat 0) == false, true, true, (ckErr (IntKind.wrap .i64 (A + Int.ofNat i)) == Int.ofNat 0) == true, true, netK c (Int.toNat (c.nodes)) (pairF c (2 * c.np)), ofP (NetS.mk c (Int.toNat (c.nodes)) (pairF c (2 * c.np)) [.c (.v (.int .i64 (IntKind.wrap .i64 (A + Int.ofNat i))))]), true, true, true, decide (IntKind.wrap .i64 (z + Int.ofNat 1) < c.long) == false, true, true, true, true, true, true, true, true, true, true, true, decide (Int.ofNat i < Int.ofNat 800) == true], [])))))) ∧ ((decide (Int.ofNat i < Int.ofNat 800)) = false → Q (Exit.exit 0, [some (lkA (List.zip [1, 5, 6, 7, 8] (cgV A true i)) (0 + 1)), some (lkA (List.zip [1, 5, 6, 7, 8] (cgV A true i)) (0 + 1 + 1 + 1 + 1 + 1)), some (lkA (List.zip [1, 5, 6, 7, 8] (cgV A true i)) (0 + 1 + 1 + 1 + 1 + 1 + 1)), some (lkA (List.zip [1, 5, 6, 7, 8] (cgV A true i)) (0 + 1 + 1 + 1 + 1 + 1 + 1 + 1)), some (lkA (List.zip [1, 5, 6, 7, 8] (cgV A true i)) (0 + 1 + 1 + 1 + 1 + 1 + 1 + 1 + 1))], [some (ABlk.mk false false 106 0 (Cs.lit [.v (.int .i64 (Int.ofNat 1)), .v (.int .i64 (Int.negSucc 0))])), some (ABlk.mk true false 56 0 (Cs.lit [.v (.int .i64 (c.nodes)), AC.sl 48 0 0 (c.np) (some (c.np)), AC.sl 49 0 0 (c.ns) (some (c.ns)), .v (.int .i64 (c.long)), AC.sl 50 0 0 (c.nb) (some (c.nb)), AC.sl 51 0 0 (c.nt) (some (c.nt)), .v (.int .i64 (c.miss)), .v (.int .i64 (c.good)), .v (.int .i64 (c.fresh)), AC.sl 47 0 0 (Int.toNat (c.nodes)) none])), some (ABlk.mk true true 3 1 (Cs.arr (Int.toNat (c.nodes)) fun k => List.map AC.v ((fun i => [Value.int .i64 (pairF c (2 * c.np) i)]) k))), some (ABlk.mk true true 3 1 (Cs.arr (c.np) fun k => List.map AC.v ((fun i => [Value.int .i64 (c.fp i)]) k))), some (ABlk.mk true true 3 1 (Cs.arr (c.ns) fun k => List.map AC.v ((fun i => [Value.int .i64 (c.fs i)]) k))), some (ABlk.mk true true 3 1 (Cs.arr (c.nb) fun k => List.map AC.v ((fun i => [Value.int .i64 (c.fb i)]) k))), some (ABlk.mk true true 64 3 (Cs.arr (c.nt) fun k => List.map AC.v ((fun i => [Value.int .i64 (Station.node (c.ft i)), Value.int .u32 (Station.safe (c.ft i)), Value.int .i64 (Station.hold (c.ft i))]) k))), some (ABlk.mk true false 54 0 (Cs.lit [AC.ptr 46 0 0, .v (.int .i64 (Int.ofNat 1)), .v (.int .i64 x), .v (.int .i64 y), .v (.int .i64 z)]))], 92, 1000000000000000000000000000000000000000002, [decide (Int.ofNat i < Int.ofNat 800) == false], [])))) :
    ∃ p r, cgR Tryd.prog err c A true i 1 x y z p = some r ∧ Q r := by
  rcases Bool.eq_false_or_eq_true (decide (Int.ofNat i < Int.ofNat 800)) with h2 | h2
  · have g2 := H.1 h2
    rcases Bool.eq_false_or_eq_true (decide (IntKind.wrap .i64 (z + Int.ofNat 1) < c.long)) with h4 | h4
    · have g4 := g2.1 h4
      rcases Bool.eq_false_or_eq_true (!eqF [some .i64, some .i64, some .i64] [.v (.int .i64 x), .v (.int .i64 y), .v (.int .i64 (IntKind.wrap .i64 (z + Int.ofNat 1)))] [.v (.int .i64 (ckT c (IntKind.wrap .i64 (A + Int.ofNat i)))), .v (.int .i64 (ckS c (IntKind.wrap .i64 (A + Int.ofNat i)))), .v (.int .i64 (ckP c (IntKind.wrap .i64 (A + Int.ofNat i))))]) with h6 | h6
      · have g6 := g4.1 h6
        exact ⟨([.b true, .a, .a, .a, .a, .a, .a, .a, .b true, .a, .a, .a, .a, .b false, .a, .a, .a, .a, .a, .a, .a, .a, .b true] : List Dec), _, by kernel_rfl, g6⟩
      · have g6 := g4.2 h6
        rcases Bool.eq_false_or_eq_true (agA c x y (IntKind.wrap .i64 (z + Int.ofNat 1)) != agA c (ckT c (IntKind.wrap .i64 (A + Int.ofNat i))) (ckS c (IntKind.wrap .i64 (A + Int.ofNat i))) (ckP c (IntKind.wrap .i64 (A + Int.ofNat i)))) with h8 | h8
        · have g8 := g6.1 h8
          exact ⟨([.b true, .a, .a, .a, .a, .a, .a, .a, .b true, .a, .a, .a, .a, .b false, .a, .a, .a, .a, .a, .a, .a, .a, .b false, .a, .a, .a, .a, .a, .a, .a, .a, .a, .a, .a, .a, .a, .a, .a, .a, .a, .a, .a, .b true] : List Dec), _, by kernel_rfl, g8⟩
        · have g8 := g6.2 h8
          exact ⟨([.b true, .a, .a, .a, .a, .a, .a, .a, .b true, .a, .a, .a, .a, .b false, .a, .a, .a, .a, .a, .a, .a, .a, .b false, .a, .a, .a, .a, .a, .a, .a, .a, .a, .a, .a, .a, .a, .a, .a, .a, .a, .a, .a, .b false] : List Dec), _, by kernel_rfl, g8⟩
    · have g4 := g2.2 h4
      rcases Bool.eq_false_or_eq_true (ckP c (IntKind.wrap .i64 (A + Int.ofNat i)) == Int.ofNat 0) with h6 | h6
      · have g6 := g4.1 h6
        rcases Bool.eq_false_or_eq_true (!eqF [some .i64, some .i64, some .i64] [.v (.int .i64 (ckT c (IntKind.wrap .i64 (A + Int.ofNat i)))), .v (.int .i64 (ckS c (IntKind.wrap .i64 (A + Int.ofNat i)))), .v (.int .i64 (ckP c (IntKind.wrap .i64 (A + Int.ofNat i))))] [.v (.int .i64 (ckT c (IntKind.wrap .i64 (A + Int.ofNat i)))), .v (.int .i64 (ckS c (IntKind.wrap .i64 (A + Int.ofNat i)))), .v (.int .i64 (ckP c (IntKind.wrap .i64 (A + Int.ofNat i))))]) with h8 | h8
        · have g8 := g6.1 h8
          exact ⟨([.b true, .a, .a, .a, .a, .a, .a, .a, .b false, .a, .a, .b true, .a, .a, .b true, .a, .a, .a, .a, .b false, .a, .a, .a, .a, .a, .a, .a, .a, .b true] : List Dec), _, by kernel_rfl, g8⟩
        · have g8 := g6.2 h8
          rcases Bool.eq_false_or_eq_true (agA c (ckT c (IntKind.wrap .i64 (A + Int.ofNat i))) (ckS c (IntKind.wrap .i64 (A + Int.ofNat i))) (ckP c (IntKind.wrap .i64 (A + Int.ofNat i))) != agA c (ckT c (IntKind.wrap .i64 (A + Int.ofNat i))) (ckS c (IntKind.wrap .i64 (A + Int.ofNat i))) (ckP c (IntKind.wrap .i64 (A + Int.ofNat i)))) with h10 | h10
          · have g10 := g8.1 h10
            exact ⟨([.b true, .a, .a, .a, .a, .a, .a, .a, .b false, .a, .a, .b true, .a, .a, .b true, .a, .a, .a, .a, .b false, .a, .a, .a, .a, .a, .a, .a, .a, .b false, .a, .a, .a, .a, .a, .a, .a, .a, .a, .a, .a, .a, .a, .a, .a, .a, .a, .a, .a, .b true] : List Dec), _, by kernel_rfl, g10⟩
          · have g10 := g8.2 h10
            exact ⟨([.b true, .a, .a, .a, .a, .a, .a, .a, .b false, .a, .a, .b true, .a, .a, .b true, .a, .a, .a, .a, .b false, .a, .a, .a, .a, .a, .a, .a, .a, .b false, .a, .a, .a, .a, .a, .a, .a, .a, .a, .a, .a, .a, .a, .a, .a, .a, .a, .a, .a, .b false] : List Dec), _, by kernel_rfl, g10⟩
      · have g6 := g4.2 h6
        exact ⟨([.b true, .a, .a, .a, .a, .a, .a, .a, .b false, .a, .a, .b true, .a, .a, .b false, .a, .a, .a, .a, .b false, .a, .a, .a, .a, .a, .a] : List Dec), _, by kernel_rfl, g6⟩
  · have g2 := H.2 h2
    exact ⟨([.b false] : List Dec), _, by kernel_rfl, g2⟩
end Go.Proofs.YtjefjmkeigfplaaDoor
end
/- ClocksGo: the sum of its loop. -/
section
namespace Go.Proofs.YtjefjmkeigfplaaDoor
open Go.RowKit

theorem eqF_sm : ∀ (ks : List (Option IntKind)) (xs : List AC), eqF ks xs xs = true
  | none :: ks, x :: xs => by simp [eqF, eqF_sm ks xs]
  | some _ :: ks, x :: xs => by simp [eqF, eqF_sm ks xs]
  | [], [] => rfl
  | [], _ :: _ => by simp [eqF]
  | _ :: _, [] => by simp [eqF]
theorem cgBk_low {c : Cfg} {s x y z : Int} {n : Nat} (hn : 60 ≤ n) : ∀ b ∈ cgBk c s x y z, lowB n b := by
  intro b hb
  have hc : ∀ i, i < 60 → Nat.blt i n = true := fun i h => by rw [Nat.blt_eq]; omega
  simp only [List.cons_append, List.nil_append, List.mem_cons, List.not_mem_nil, or_false] at hb
  rcases hb with rfl | rfl | rfl | rfl | rfl | rfl | rfl | rfl
  · exact low_lit rfl
  · refine low_lit ?_
    simp [lowC, hc, Nat.blt_eq]
    try omega
  · exact wBlk_low
  · exact wBlk_low
  · exact wBlk_low
  · exact wBlk_low
  · exact wBlk_low
  · refine low_lit ?_
    simp [lowC, hc, Nat.blt_eq]
    try omega
structure CgS where
  i : Nat
  b : Bool
  x : Int
  y : Int
  z : Int
def cgSt : Bool → Int
  | true => 1
  | false => 0
def cgInv (c : Cfg) (A : Int) (s : CgS) : Prop :=
  s.i ≤ 800 ∧ ((s.b = false ∧ ∀ j : Nat, j < s.i → ckP c (A + j) ≠ 0) ∨ (s.b = true ∧ ∃ a, a = A + s.i - 1 ∧ A ≤ a ∧ s.x = ckT c a ∧ s.y = ckS c a ∧ s.z = ckP c a))
abbrev cgN : Nat := 130000000000000000000000000000000000000096
set_option maxHeartbeats 1000000 in
theorem cg_sum (c : Cfg) (A : Int) (g : CfgGood c) (hl : c.long ≤ 300) (h0 : 0 ≤ A) (h1 : A ≤ 549755813887) {eblks : List (Option ABlk)} (heb : BL (cgBk c 0 0 0 0) eblks) :
    LoopV Tryd.prog (loopAt Tryd.prog 4 0) [1, 5, 6, 7, 8] cgIds ((cgV A false 0).map some) eblks 92 cgN (mkFr 92 [(7, bo true)]) [(gid 0, signB)] 100000000000000000000000000000000000000000000000000 (.exit 0) none := by
  refine loop_viewE (hENl0 ctsCg_ok) (fuel := 100) (str := 10000000000000000000000000000000000000000) (nh := 1000000000000000000000000000000000000000000) (n := cgN) (n' := 100000000000000000000000000000000000000000000000000) (S := CgS) (cgInv c A) (fun s => 800 - s.i) [1, 5, 6, 7, 8] [] cgIds (fun s => cgV A s.b s.i) (fun s => cgBk c (cgSt s.b) s.x s.y s.z) (by decide) (by decide) (by unfold lim; omega) (s0 := ⟨0, false, 0, 0, 0⟩) ⟨Nat.zero_le _, .inl ⟨rfl, fun j h => absurd h (Nat.not_lt_zero _)⟩⟩ (fun _ => ⟨rfl, rfl⟩) (by kernel_rfl) heb (fun s _ => ⟨rfl, cgBk_low (by decide)⟩) ?_
  have hp0 := good_pre g (nq := c.nodes.toNat) (by have := g.n4; omega)
  have hsl := good_slots g
  intro s hs
  obtain ⟨i, b, x, y, z⟩ := s
  obtain ⟨i1, i2⟩ := hs
  simp only at i1 i2
  cases b
  · refine (?_ : (∃ p r, cgR Tryd.prog cfgErr c A false i 0 x y z p = some r ∧ _) → _) (cgI cfgErr c A i x y z (StepV cgN 100000000000000000000000000000000000000000000000000 92 [1, 5, 6, 7, 8] [] cgIds (cgInv c A) (fun s => 800 - s.i) (fun s => cgV A s.b s.i) (fun s => cgBk c (cgSt s.b) s.x s.y s.z) (.exit 0) [(7, bo true)] [(gid 0, signB)] ⟨i, false, x, y, z⟩) ?_)
    · rintro ⟨p, r, h1, h2⟩
      exact ⟨p, [], r, h1, h2⟩
    · rcases Nat.lt_or_ge i 800 with hlt | hge
      · have d0 : decide (Int.ofNat i < Int.ofNat 800) = true := decide_eq_true (by simp; omega)
        have wA : IntKind.wrap .i64 (A + Int.ofNat i) = A + (i : Int) := wrap_nat _ (by simp; omega) (by simp; omega)
        have w1 : IntKind.wrap .i64 (Int.ofNat i + Int.ofNat 1) = Int.ofNat (i + 1) := by rw [wrap_nat _ (by simp; omega) (by simp; omega)]; simp
        have hin : ckIn (A + (i : Int)) := by unfold ckIn ckM; omega
        obtain ⟨e0, _⟩ := ck_at (c := c) hin
        obtain ⟨b1, b2, b3, b4⟩ := ck_bounds g hin
        simp only [wA, w1]
        by_cases hz : ckP c (A + (i : Int)) = 0
        · have hi : cgInv c A ⟨i + 1, true, ckT c (A + i), ckS c (A + i), ckP c (A + i)⟩ := ⟨by show i + 1 ≤ 800; omega, .inr ⟨rfl, A + i, by show A + (i : Int) = A + ((i + 1 : Nat) : Int) - 1; omega, by omega, rfl, rfl, rfl⟩⟩
          have hb : (ckP c (A + (i : Int)) == Int.ofNat 0) = true := by rw [hz]; rfl
          simp only [hb, Bool.false_eq_true, Bool.true_eq_false, false_implies, true_implies, forall_const, and_true, true_and]
          (repeat' (first | refine ⟨fun h => ?_, fun h => ?_⟩ | fail))
          all_goals (first | (exfalso; simp [hz, eqF_sm] at *; done) | (exfalso; simp at *; omega) | skip)
          all_goals (first | (refine ⟨?_, rfl, by dsimp only; omega, rfl, .inl ⟨rfl, ⟨i + 1, true, ckT c (A + i), ckS c (A + i), ckP c (A + i)⟩, hi, by show 800 - (i + 1) < 800 - i; omega, rfl, BL.refl _⟩⟩) | skip)
          all_goals (simp [allT, cfgK_t, netK_t, intsOk_ints, stsOk_sts, intsOk_s, stsOk_s, ofP_eq, agP_eq, hp0, hsl, e0, hz, eqF_sm])
          all_goals (first | done | omega | skip)
        · have hi : cgInv c A ⟨i + 1, false, x, y, z⟩ := by
            refine ⟨by show i + 1 ≤ 800; omega, .inl ⟨rfl, fun j hj => ?_⟩⟩
            rcases i2 with ⟨_, i2⟩ | ⟨i2, _⟩
            · rcases Nat.lt_or_ge j i with h | h
              · exact i2 j h
              · have : j = i := by have : j < i + 1 := hj; omega
                rw [this]; exact hz
            · cases i2
          have hb : (ckP c (A + (i : Int)) == Int.ofNat 0) = false := by simpa using hz
          simp only [hb, Bool.false_eq_true, Bool.true_eq_false, false_implies, true_implies, forall_const, and_true, true_and]
          (repeat' (first | refine ⟨fun h => ?_, fun h => ?_⟩ | fail))
          all_goals (first | (exfalso; simp [hz, eqF_sm] at *; done) | (exfalso; simp at *; omega) | skip)
          all_goals (first | (refine ⟨?_, rfl, by dsimp only; omega, rfl, .inl ⟨rfl, ⟨i + 1, false, x, y, z⟩, hi, by show 800 - (i + 1) < 800 - i; omega, rfl, BL.refl _⟩⟩) | skip)
          all_goals (simp [allT, cfgK_t, netK_t, intsOk_ints, stsOk_sts, intsOk_s, stsOk_s, ofP_eq, agP_eq, hp0, hsl, e0, hz, eqF_sm])
          all_goals (first | done | omega | skip)
      · refine ⟨fun h1 => ?_, fun h1 => ?_⟩
        · exfalso; simp at h1; omega
        · exfalso
          rcases i2 with ⟨_, i2⟩ | ⟨i2, _⟩
          · obtain ⟨j, j1, j2⟩ := ck_zero g h0 (by omega)
            exact i2 j (by omega) j2
          · cases i2
  · refine (?_ : (∃ p r, cgR Tryd.prog cfgErr c A true i 1 x y z p = some r ∧ _) → _) (cgG cfgErr c A i x y z (StepV cgN 100000000000000000000000000000000000000000000000000 92 [1, 5, 6, 7, 8] [] cgIds (cgInv c A) (fun s => 800 - s.i) (fun s => cgV A s.b s.i) (fun s => cgBk c (cgSt s.b) s.x s.y s.z) (.exit 0) [(7, bo true)] [(gid 0, signB)] ⟨i, true, x, y, z⟩) ?_)
    · rintro ⟨p, r, h1, h2⟩
      exact ⟨p, [], r, h1, h2⟩
    · rcases Nat.lt_or_ge i 800 with hlt | hge
      · have d0 : decide (Int.ofNat i < Int.ofNat 800) = true := decide_eq_true (by simp; omega)
        have wA : IntKind.wrap .i64 (A + Int.ofNat i) = A + (i : Int) := wrap_nat _ (by simp; omega) (by simp; omega)
        have w1 : IntKind.wrap .i64 (Int.ofNat i + Int.ofNat 1) = Int.ofNat (i + 1) := by rw [wrap_nat _ (by simp; omega) (by simp; omega)]; simp
        have hin : ckIn (A + (i : Int)) := by unfold ckIn ckM; omega
        obtain ⟨e0, _⟩ := ck_at (c := c) hin
        obtain ⟨b1, b2, b3, b4⟩ := ck_bounds g hin
        obtain ⟨a, a1, a2, a3, a4, a5⟩ : ∃ a, a = A + (i : Int) - 1 ∧ A ≤ a ∧ x = ckT c a ∧ y = ckS c a ∧ z = ckP c a := by
          rcases i2 with ⟨i2, _⟩ | ⟨_, i2⟩
          · cases i2
          · exact i2
        have han : ckIn a := by unfold ckIn ckM; omega
        have hA1 : A + (i : Int) = a + 1 := by omega
        rw [hA1] at wA hin e0 b1 b2 b3 b4
        obtain ⟨n1, n2⟩ := ck_next g han hin
        obtain ⟨c1, c2, c3, c4⟩ := ck_bounds g han
        have wz : IntKind.wrap .i64 (z + Int.ofNat 1) = z + 1 := wrap_nat _ (by simp; omega) (by simp; omega)
        have hi : cgInv c A ⟨i + 1, true, ckT c (a + 1), ckS c (a + 1), ckP c (a + 1)⟩ := ⟨by show i + 1 ≤ 800; omega, .inr ⟨rfl, a + 1, by show a + 1 = A + ((i + 1 : Nat) : Int) - 1; omega, by omega, rfl, rfl, rfl⟩⟩
        simp only [wA, w1, wz]
        by_cases hz : z + 1 < c.long
        · obtain ⟨m1, m2, m3⟩ := n1 (by omega)
          have m3' : z + 1 = ckP c (a + 1) := by omega
          rw [a3, a4, m3', ← m1, ← m2]
          have hz' : ckP c (a + 1) < c.long := b4
          (repeat' (first | refine ⟨fun h => ?_, fun h => ?_⟩ | fail))
          all_goals (first | (exfalso; simp [hz', eqF_sm] at *; done) | (exfalso; simp at *; omega) | skip)
          all_goals (first | (refine ⟨?_, rfl, by dsimp only; omega, rfl, .inl ⟨rfl, ⟨i + 1, true, ckT c (a + 1), ckS c (a + 1), ckP c (a + 1)⟩, hi, by show 800 - (i + 1) < 800 - i; omega, rfl, BL.refl _⟩⟩) | skip)
          all_goals (simp [allT, cfgK_t, netK_t, intsOk_ints, stsOk_sts, intsOk_s, stsOk_s, ofP_eq, agP_eq, hp0, hsl, e0, hz', eqF_sm])
          all_goals (first | done | omega | skip)
        · have m3 := n2 (by omega)
          (repeat' (first | refine ⟨fun h => ?_, fun h => ?_⟩ | fail))
          all_goals (first | (exfalso; simp [hz, m3, eqF_sm] at *; done) | (exfalso; simp at *; omega) | skip)
          all_goals (first | (refine ⟨?_, rfl, by dsimp only; omega, rfl, .inl ⟨rfl, ⟨i + 1, true, ckT c (a + 1), ckS c (a + 1), ckP c (a + 1)⟩, hi, by show 800 - (i + 1) < 800 - i; omega, rfl, BL.refl _⟩⟩) | skip)
          all_goals (simp [allT, cfgK_t, netK_t, intsOk_ints, stsOk_sts, intsOk_s, stsOk_s, ofP_eq, agP_eq, hp0, hsl, e0, hz, m3, eqF_sm])
          all_goals (first | done | omega | skip)
      · refine ⟨fun h1 => ?_, fun h1 => ?_⟩
        · exfalso; simp at h1; omega
        · refine ⟨by simp [allT]; omega, rfl, by dsimp only; omega, rfl, .inr ⟨by simp, rfl, (fun q hq => by rw [List.mem_singleton.1 hq]; exact ⟨rfl, List.mem_cons_of_mem _ (List.mem_cons_of_mem _ (List.mem_cons_of_mem _ (List.mem_cons_self ..)))⟩), fun p hpp => ?_⟩⟩
          rw [List.mem_singleton.1 hpp]
          exact ⟨by kernel_rfl, low_lit rfl, signB, List.mem_cons_self .., BEq.refl _⟩
end Go.Proofs.YtjefjmkeigfplaaDoor
end
/- ClocksGo: what its runs answer. -/
section
namespace Go.Proofs.YtjefjmkeigfplaaDoor
open Go.RowKit

set_option maxRecDepth 1000000 in
theorem cg_run1 (c : Cfg) (a : Int) (h0 : cfgErr c ≠ 0) (hb : c.nb ≤ 9223372036854775807) : ∃ p r, lwR (ENl1 Tryd.prog cfgErr ctsCg) 4 mS c [i64 a] p [] = some r ∧ GoodF (bo true) r := by
  refine cgE cfgErr c a _ ?_
  (repeat' (first | refine ⟨fun h => ?_, fun h => ?_⟩ | fail))
  all_goals (refine ⟨rfl, (by first | (unfold lim; omega) | (dsimp only; unfold lim; omega)), ?_, by simp⟩)
  all_goals (simp_all [allT, cfgK_t, netK_t, intsOk_ints, stsOk_sts, intsOk_s, stsOk_s, h0, hb])
theorem cg_mask (a : Int) : ∃ A : Int, 0 ≤ A ∧ A ≤ 549755813887 ∧ IntKind.wrap .i64 ↑(BitVec.toNat (BitVec.ofInt (IntKind.bits .i64) a &&& BitVec.ofInt (IntKind.bits .i64) 549755813887)) = A := by
  have h : (BitVec.ofInt (IntKind.bits .i64) a &&& BitVec.ofInt (IntKind.bits .i64) 549755813887).toNat ≤ 549755813887 := by
    rw [BitVec.toNat_and]
    exact Nat.le_trans Nat.and_le_right (by decide)
  exact ⟨_, Int.natCast_nonneg _, by omega, wrap_nat _ (by omega) (by omega)⟩
set_option maxRecDepth 1000000 in
theorem cg_run0 (c : Cfg) (a : Int) (h0 : cfgErr c = 0) (hb : c.nb ≤ 9223372036854775807) : ∃ p lp r, lwR (ENl0 Tryd.prog cfgErr ctsCg) 4 mS c [i64 a] p lp = some r ∧ GoodF (bo true) r := by
  refine (?_ : (∃ p r, lwR (ENl0 Tryd.prog cfgErr ctsCg) 4 mS c [i64 a] p [some ⟨[1, 5, 6, 7, 8], cgIds, mkFr 92 [(7, bo true)], [(gid 0, signB)], 100000000000000000000000000000000000000000000000000, .exit 0⟩] = some r ∧ GoodF (bo true) r) → _) (cgD cfgErr c a _ ?_)
  · rintro ⟨p, r, h⟩
    exact ⟨p, _, r, h⟩
  have g := cfg_good h0
  have hp0 := good_pre g (nq := c.nodes.toNat) (by have := g.n4; omega)
  have hsl := good_slots g
  have := g.s16
  have := g.n16
  have := g.p8
  have := g.nt
  have := g.nb
  have := g.n4
  obtain ⟨A, A0, A1, eA⟩ := cg_mask a
  obtain ⟨_, r1, r2, q1, q2, q3, q4, q5⟩ := ck_round hp0
  have wR : IntKind.wrap IntKind.i64 ((c.ns : Int) * c.long) = c.ns * c.long := wrap_nat _ (by omega) (by omega)
  have hn : (c.ns : Int) * c.long ≠ 0 := by omega
  simp only [eA]
  refine ⟨fun h => ?_, fun h => ?_⟩
  · have hl : 300 < c.long := by simpa using h
    refine ⟨rfl, (by first | (unfold lim; omega) | (dsimp only; unfold lim; omega)), ?_, by simp⟩
    simp [allT, cfgK_t, netK_t, intsOk_ints, stsOk_sts, intsOk_s, stsOk_s, h0, hl]
    first | done | omega
  · have hl : c.long ≤ 300 := by simpa using h
    refine ⟨rfl, (by first | (unfold lim; omega) | (dsimp only; unfold lim; omega)), ?_, fun q hq => ?_⟩
    · simp [allT, cfgK_t, netK_t, intsOk_ints, stsOk_sts, intsOk_s, stsOk_s, h0, hl, wR]
      first | done | omega
    · rw [List.mem_singleton.1 hq]
      exact cg_sum c A g hl A0 A1 (BL.refl _)
end Go.Proofs.YtjefjmkeigfplaaDoor
end
