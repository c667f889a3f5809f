/- Parts, one behind the other. Halves of pairs: which pair a node is of. No Go text is in sight. -/
import Derived.Test.YtgfmjbfjodidpaaDoorJB0x17
import Derived.Test.YtgfmjbfjodidpaaDoorJB0x14
import Derived.Test.YtgfmjbfjodidpaaDoorJConfigsHalves0
import Derived.Test.YtgfmjbfjodidpaaDoorJConfigsHalves2
import Derived.Test.YtgfmjbfjodidpaaDoorJConfigsHalves1
set_option linter.unusedSimpArgs false
set_option linter.unusedVariables false
/- Halves of pairs: which pair a node is of. No Go text is in sight. -/
section
namespace Go.Proofs.YtgfmjbfjodidpaaDoor
open Go.RowKit

theorem cfg_nod {c : Cfg} (h : cfgErr c = 0) : ∀ p q, p < 2 * c.np → q < 2 * c.np → halfF c p = halfF c q → p = q := by
  have h3 := (cfgErr_zero h).2.2.1
  unfold rule3 at h3
  split at h3
  · rename_i hh
    simp only [Bool.and_eq_true] at hh
    have hn := of_decide_eq_true hh.2.2
    have key : ∀ p q, p < q → q < 2 * c.np → halfF c p ≠ halfF c q := by
      intro p q hpq hq
      have := (List.pairwise_iff_getElem.1 hn) p q (by simp; omega) (by simp; omega) hpq
      simpa using this
    intro p q hp hq e
    rcases Nat.lt_trichotomy p q with h | h | h
    · exact absurd e (key p q h hq)
    · exact h
    · exact absurd e.symm (key q p h hp)
  · cases h3
theorem ring_at {n a : Int} (h4 : 4 ≤ n) (h16 : n ≤ 16) (h0 : 0 ≤ a) (h1 : a < n) : ringF n a 1 = (a + 1) % n := by unfold ringF; rw [if_pos ⟨h4, h16, h0, h1⟩]
theorem half_at {c : Cfg} (g : CfgGood c) {p : Nat} (hp : p < c.np) : halfF c (2 * p) = c.fp p ∧ halfF c (2 * p + 1) = (c.fp p + 1) % c.nodes := by
  have := g.fp p hp
  unfold halfF
  rw [if_pos (by omega), if_neg (by omega), show 2 * p / 2 = p by omega, show (2 * p + 1) / 2 = p by omega, ring_at g.n4 g.n16 this.1 this.2]
  exact ⟨rfl, rfl⟩
theorem pair_val {c : Cfg} (g : CfgGood c) (nd : ∀ p q, p < 2 * c.np → q < 2 * c.np → halfF c p = halfF c q → p = q) {p : Nat} (hp : p < c.np) (i : Nat) : pairF c (2 * c.np) i = (p : Int) ↔ (i : Int) = c.fp p ∨ (i : Int) = (c.fp p + 1) % c.nodes := by
  obtain ⟨e0, e1⟩ := half_at g hp
  unfold pairF
  cases hf : (List.range (2 * c.np)).find? (fun q => halfF c q == Int.ofNat i) with
  | none =>
    have hn := List.find?_eq_none.1 hf
    have n0 := hn (2 * p) (by simp; omega)
    have n1 := hn (2 * p + 1) (by simp; omega)
    rw [e0] at n0
    rw [e1] at n1
    simp at n0 n1
    constructor
    · intro h; simp at h
    · rintro (h | h)
      · exact absurd h.symm n0
      · exact absurd h.symm n1
  | some q =>
    have hq := List.find?_some hf
    have hm := List.mem_of_find?_eq_some hf
    simp at hq hm
    constructor
    · intro h
      have hqp : q / 2 = p := by simp at h; omega
      have : q = 2 * p ∨ q = 2 * p + 1 := by omega
      rcases this with rfl | rfl
      · rw [e0] at hq; exact .inl hq.symm
      · rw [e1] at hq; exact .inr hq.symm
    · rintro (h | h)
      · have : q = 2 * p := nd q (2 * p) hm (by omega) (by rw [hq, e0, h])
        subst this
        show Int.ofNat (2 * p / 2) = (p : Int)
        rw [show 2 * p / 2 = p by omega]; rfl
      · have : q = 2 * p + 1 := nd q (2 * p + 1) hm (by omega) (by rw [hq, e1, h])
        subst this
        show Int.ofNat ((2 * p + 1) / 2) = (p : Int)
        rw [show (2 * p + 1) / 2 = p by omega]; rfl
theorem pair_at {c : Cfg} (g : CfgGood c) (nd : ∀ p q, p < 2 * c.np → q < 2 * c.np → halfF c p = halfF c q → p = q) {o z : Int} (ho : 0 ≤ o ∧ o < c.np) (hz : 0 ≤ z ∧ z < c.nodes) : pairN c c.nodes.toNat (pairF c (2 * c.np)) z = o ↔ z = atF c.fp c.np o ∨ z = (atF c.fp c.np o + 1) % c.nodes := by
  have h4 := g.n4
  unfold pairN
  rw [if_neg (by omega)]
  have e : atF (pairF c (2 * c.np)) c.nodes.toNat z = pairF c (2 * c.np) z.toNat := by unfold atF; rw [if_pos (by omega)]
  have e2 : atF c.fp c.np o = c.fp o.toNat := by unfold atF; rw [if_pos ho]
  rw [e, e2]
  have := pair_val g nd (p := o.toNat) (by omega) z.toNat
  rw [Int.toNat_of_nonneg ho.1, Int.toNat_of_nonneg hz.1] at this
  exact this
/-- a pair, or none -/
theorem pair_in {c : Cfg} (i : Nat) : pairF c (2 * c.np) i = -1 ∨ (0 ≤ pairF c (2 * c.np) i ∧ pairF c (2 * c.np) i < c.np) := by
  unfold pairF
  cases hf : (List.range (2 * c.np)).find? (fun q => halfF c q == Int.ofNat i) with
  | none => exact .inl rfl
  | some q =>
    have hm := List.mem_of_find?_eq_some hf
    simp at hm
    refine .inr ⟨?_, ?_⟩
    · show 0 ≤ Int.ofNat (q / 2); exact Int.natCast_nonneg _
    · show Int.ofNat (q / 2) < c.np
      simp; omega
theorem cntF_two {a b : Nat} (h : a ≠ b) : ∀ n, cntF (fun i => decide (i = a) || decide (i = b)) n = (if a < n then 1 else 0) + (if b < n then 1 else 0)
  | 0 => rfl
  | n + 1 => by
    rw [cntF, cntF_two h n]
    by_cases h1 : n = a
    · subst h1
      have : ¬ n = b := h
      simp [this]
      by_cases h2 : b < n
      · rw [if_pos h2, if_pos (by omega)]
      · rw [if_neg h2, if_neg (by omega)]
    · by_cases h2 : n = b
      · subst h2
        simp [h1]
        by_cases h3 : a < n
        · rw [if_pos h3, if_pos (by omega)]
        · rw [if_neg h3, if_neg (by omega)]
      · simp [h1, h2]
        congr 1
        · by_cases h3 : a < n
          · rw [if_pos h3, if_pos (by omega)]
          · rw [if_neg h3, if_neg (by omega)]
        · by_cases h3 : b < n
          · rw [if_pos h3, if_pos (by omega)]
          · rw [if_neg h3, if_neg (by omega)]
end Go.Proofs.YtgfmjbfjodidpaaDoor
end
/- (Net).Next: its loop's round as the evaluator runs it; the function. -/
section
namespace Go.Proofs.YtgfmjbfjodidpaaDoor
open Go.RowKit

abbrev nxV (s o : Int) : List AV := [.c (.ptr 5 0 0), i64 s, i64 o]
def nxR (P : Program) (c : Cfg) (nq : Nat) (fq : Nat → Int) (s o : Int) (path : List Dec) : Option VC :=
  view ([0, 1, 2] ++ []) netIds (fC (ENns P) 100 (loopAt P 38 0) 1000000000000000000000000000000000000000000 10000000000000000000000000000000000000000 (stH 39 [0, 1, 2] netIds (nxV s o) (netBk c nq fq) path []))
theorem nx (c : Cfg) (nq : Nat) (fq : Nat → Int) (s o : Int) (Q : VC → Prop) (H : (((c.fs (0 + Int.toNat (Int.tmod s ↑(c.ns))) != o) = true → Q (Exit.normal, [some (lkA (List.zip [0, 1, 2] (nxV s o)) 0), some (.c (.v (.int .i64 (IntKind.wrap .i64 (s + Int.ofNat 1))))), some (lkA (List.zip [0, 1, 2] (nxV s o)) (0 + 1 + 1))], [some (ABlk.mk false false 107 0 (Cs.lit [.v (.int .i64 (Int.ofNat 1)), .v (.int .i64 (Int.negSucc 0))])), some (ABlk.mk false false 3 1 (Cs.arr (c.np) fun k => List.map AC.v ((fun i => [Value.int .i64 (c.fp i)]) k))), some (ABlk.mk false false 3 1 (Cs.arr (c.ns) fun k => List.map AC.v ((fun i => [Value.int .i64 (c.fs i)]) k))), some (ABlk.mk false false 3 1 (Cs.arr (c.nb) fun k => List.map AC.v ((fun i => [Value.int .i64 (c.fb i)]) k))), some (ABlk.mk false false 47 3 (Cs.arr (c.nt) fun k => List.map AC.v ((fun i => [Value.int .i64 (Station.node (c.ft i)), Value.int .u32 (Station.safe (c.ft i)), Value.int .i64 (Station.hold (c.ft i))]) k))), some (ABlk.mk false false 3 1 (Cs.arr nq fun k => List.map AC.v ((fun i => [Value.int .i64 (fq i)]) k))), some (ABlk.mk false false 130 0 (Cs.lit [.v (.int .i64 (c.nodes)), AC.sl 0 0 0 (c.np) none, AC.sl 1 0 0 (c.ns) none, .v (.int .i64 (c.long)), AC.sl 2 0 0 (c.nb) none, AC.sl 3 0 0 (c.nt) none, .v (.int .i64 (c.miss)), .v (.int .i64 (c.good)), .v (.int .i64 (c.fresh)), AC.sl 4 0 0 nq none]))], 39, 1170000000000000000000000000000000000000003, [(c.fs (0 + Int.toNat (Int.tmod s ↑(c.ns))) != o) == true, ABlk.inb (ABlk.mk false false 3 1 (Cs.arr (c.ns) fun k => List.map AC.v ((fun i => [Value.int .i64 (c.fs i)]) k))) (0 + Int.toNat (Int.tmod s ↑(c.ns))) 1, true, decide (Int.ofNat 0 ≤ Int.tmod s ↑(c.ns) ∧ Int.tmod s ↑(c.ns) < ↑(c.ns)), decide (↑(c.ns) ≠ Int.ofNat 0), true, true], [])) ∧ ((c.fs (0 + Int.toNat (Int.tmod s ↑(c.ns))) != o) = false → Q (Exit.exit 0, [some (lkA (List.zip [0, 1, 2] (nxV s o)) 0), some (lkA (List.zip [0, 1, 2] (nxV s o)) (0 + 1)), some (lkA (List.zip [0, 1, 2] (nxV s o)) (0 + 1 + 1))], [some (ABlk.mk false false 107 0 (Cs.lit [.v (.int .i64 (Int.ofNat 1)), .v (.int .i64 (Int.negSucc 0))])), some (ABlk.mk false false 3 1 (Cs.arr (c.np) fun k => List.map AC.v ((fun i => [Value.int .i64 (c.fp i)]) k))), some (ABlk.mk false false 3 1 (Cs.arr (c.ns) fun k => List.map AC.v ((fun i => [Value.int .i64 (c.fs i)]) k))), some (ABlk.mk false false 3 1 (Cs.arr (c.nb) fun k => List.map AC.v ((fun i => [Value.int .i64 (c.fb i)]) k))), some (ABlk.mk false false 47 3 (Cs.arr (c.nt) fun k => List.map AC.v ((fun i => [Value.int .i64 (Station.node (c.ft i)), Value.int .u32 (Station.safe (c.ft i)), Value.int .i64 (Station.hold (c.ft i))]) k))), some (ABlk.mk false false 3 1 (Cs.arr nq fun k => List.map AC.v ((fun i => [Value.int .i64 (fq i)]) k))), some (ABlk.mk false false 130 0 (Cs.lit [.v (.int .i64 (c.nodes)), AC.sl 0 0 0 (c.np) none, AC.sl 1 0 0 (c.ns) none, .v (.int .i64 (c.long)), AC.sl 2 0 0 (c.nb) none, AC.sl 3 0 0 (c.nt) none, .v (.int .i64 (c.miss)), .v (.int .i64 (c.good)), .v (.int .i64 (c.fresh)), AC.sl 4 0 0 nq none]))], 39, 1170000000000000000000000000000000000000000, [(c.fs (0 + Int.toNat (Int.tmod s ↑(c.ns))) != o) == false, ABlk.inb (ABlk.mk false false 3 1 (Cs.arr (c.ns) fun k => List.map AC.v ((fun i => [Value.int .i64 (c.fs i)]) k))) (0 + Int.toNat (Int.tmod s ↑(c.ns))) 1, true, decide (Int.ofNat 0 ≤ Int.tmod s ↑(c.ns) ∧ Int.tmod s ↑(c.ns) < ↑(c.ns)), decide (↑(c.ns) ≠ Int.ofNat 0), true, true], [])))) :
    ∃ p r, nxR Tryd.prog c nq fq s o p = some r ∧ Q r := by
  rcases Bool.eq_false_or_eq_true (c.fs (0 + Int.toNat (Int.tmod s ↑(c.ns))) != o) with h2 | h2
  · have g2 := H.1 h2
    exact ⟨([.b true] : List Dec), _, by kernel_rfl, g2⟩
  · have g2 := H.2 h2
    exact ⟨([.b false] : List Dec), _, by kernel_rfl, g2⟩
theorem nxF (c : Cfg) (nq : Nat) (fq : Nat → Int) (s o z : Int) (Q : VF → Prop) (H : (((decide (s < Int.ofNat 0)) = true → Q (.c (.v (.int .i64 (Int.negSucc 0))), [], 1008, [decide (s < Int.ofNat 0) == true], [])) ∧ ((decide (s < Int.ofNat 0)) = false → (((decide (s > Int.ofNat 1099511627776)) = true → Q (.c (.v (.int .i64 (Int.negSucc 0))), [], 1010, [decide (s > Int.ofNat 1099511627776) == true, decide (s < Int.ofNat 0) == false], [])) ∧ ((decide (s > Int.ofNat 1099511627776)) = false → (((headN c nq fq (List.headD [o] (Int.ofNat 0)) == Int.negSucc 0) = true → Q (.c (.v (.int .i64 (Int.negSucc 0))), [], 1013, [(headN c nq fq (List.headD [o] (Int.ofNat 0)) == Int.negSucc 0) == true, netK c nq fq, true, decide (s > Int.ofNat 1099511627776) == false, decide (s < Int.ofNat 0) == false], [])) ∧ ((headN c nq fq (List.headD [o] (Int.ofNat 0)) == Int.negSucc 0) = false → Q (.c (.v (.int .i64 z)), [], 100000000000000000000000000000000000000000000000002, [(headN c nq fq (List.headD [o] (Int.ofNat 0)) == Int.negSucc 0) == false, netK c nq fq, true, decide (s > Int.ofNat 1099511627776) == false, decide (s < Int.ofNat 0) == false], [LoopV Tryd.prog (loopAt Tryd.prog 38 0) [0, 1, 2] netIds [some (.c (.ptr 5 0 0)), some (.c (.v (.int .i64 s))), some (.c (.v (.int .i64 o)))] [some (ABlk.mk false false 107 0 (Cs.lit [.v (.int .i64 (Int.ofNat 1)), .v (.int .i64 (Int.negSucc 0))])), some (ABlk.mk false false 3 1 (Cs.arr (c.np) fun k => List.map AC.v ((fun i => [Value.int .i64 (c.fp i)]) k))), some (ABlk.mk false false 3 1 (Cs.arr (c.ns) fun k => List.map AC.v ((fun i => [Value.int .i64 (c.fs i)]) k))), some (ABlk.mk false false 3 1 (Cs.arr (c.nb) fun k => List.map AC.v ((fun i => [Value.int .i64 (c.fb i)]) k))), some (ABlk.mk false false 47 3 (Cs.arr (c.nt) fun k => List.map AC.v ((fun i => [Value.int .i64 (Station.node (c.ft i)), Value.int .u32 (Station.safe (c.ft i)), Value.int .i64 (Station.hold (c.ft i))]) k))), some (ABlk.mk false false 3 1 (Cs.arr nq fun k => List.map AC.v ((fun i => [Value.int .i64 (fq i)]) k))), some (ABlk.mk false false 130 0 (Cs.lit [.v (.int .i64 (c.nodes)), AC.sl 0 0 0 (c.np) none, AC.sl 1 0 0 (c.ns) none, .v (.int .i64 (c.long)), AC.sl 2 0 0 (c.nb) none, AC.sl 3 0 0 (c.nt) none, .v (.int .i64 (c.miss)), .v (.int .i64 (c.good)), .v (.int .i64 (c.fresh)), AC.sl 4 0 0 nq none]))] 39 1012 (mkFr 39 [(1, i64 z)]) [] 100000000000000000000000000000000000000000000000000 (Exit.exit 0) none])))))))) :
    ∃ p r, ntE (ENns Tryd.prog) 38 c nq fq [i64 s, i64 o] p [some ⟨[0, 1, 2], netIds, mkFr 39 [(1, i64 z)], [], 100000000000000000000000000000000000000000000000000, .exit 0⟩] = some r ∧ Q r := by
  rcases Bool.eq_false_or_eq_true (decide (s < Int.ofNat 0)) with h2 | h2
  · have g2 := H.1 h2
    exact ⟨([.b true, .a, .a, .a, .a, .a, .a] : List Dec), _, by kernel_rfl, g2⟩
  · have g2 := H.2 h2
    rcases Bool.eq_false_or_eq_true (decide (s > Int.ofNat 1099511627776)) with h4 | h4
    · have g4 := g2.1 h4
      exact ⟨([.b false, .a, .b true, .a, .a, .a, .a] : List Dec), _, by kernel_rfl, g4⟩
    · have g4 := g2.2 h4
      rcases Bool.eq_false_or_eq_true (headN c nq fq (List.headD [o] (Int.ofNat 0)) == Int.negSucc 0) with h6 | h6
      · have g6 := g4.1 h6
        exact ⟨([.b false, .a, .b false, .a, .a, .a, .b true] : List Dec), _, by kernel_rfl, g6⟩
      · have g6 := g4.2 h6
        exact ⟨([.b false, .a, .b false, .a, .a, .a, .b false] : List Dec), _, by kernel_rfl, g6⟩
end Go.Proofs.YtgfmjbfjodidpaaDoor
end
/- Contract of (Net).Next. -/
section
namespace Go.Proofs.YtgfmjbfjodidpaaDoor
open Go.RowKit

/-- the slots behind one: which is a pair's -/
def nextQ (c : Cfg) (s o : Int) (j : Nat) : Bool := c.fs ((s + j) % c.ns).toNat == o
def nextJ (c : Cfg) (s o : Int) : Nat := ((List.range c.ns).find? (nextQ c s o)).getD 0
def nextF (c : Cfg) (s o : Int) : Int := if s < 0 ∨ 1099511627776 < s ∨ ¬ (0 ≤ o ∧ o < c.np) then -1 else s + nextJ c s o
def hasAll (c : Cfg) : Bool := (List.range c.np).all fun p => (List.range c.ns).any fun i => c.fs i == Int.ofNat p
def nxPre (c : Cfg) (nq : Nat) : Bool := wiPre c nq && hasAll c
theorem next_ok {c : Cfg} (h1 : 1 ≤ c.ns) (h : hasAll c = true) {s o : Int} (hs : 0 ≤ s) (ho : 0 ≤ o ∧ o < c.np) : nextJ c s o < c.ns ∧ nextQ c s o (nextJ c s o) = true ∧ ∀ j, j < nextJ c s o → nextQ c s o j = false := by
  have h2 := List.all_eq_true.1 h o.toNat (by simp; omega)
  obtain ⟨i, hi, he⟩ := List.any_eq_true.1 h2
  have hi : i < c.ns := by simpa using hi
  have he : c.fs i = o := by simp at he; omega
  obtain ⟨j, j1, j2, j3⟩ := first_stop c.ns (nextQ c s o)
  have hlt : j < c.ns := by
    rcases Nat.lt_or_ge j c.ns with h | h
    · exact h
    · exfalso
      have m1 := Int.emod_nonneg ((i : Int) - s) (show (c.ns : Int) ≠ 0 by omega)
      have m2 := Int.emod_lt_of_pos ((i : Int) - s) (show 0 < (c.ns : Int) by omega)
      have := j2 (((i : Int) - s) % c.ns).toNat (by omega)
      unfold nextQ at this
      rw [Int.toNat_of_nonneg m1, Int.add_comm, Int.emod_add_emod, Int.sub_add_cancel, Int.emod_eq_of_lt (by omega) (by omega), Int.toNat_natCast, he] at this
      simp at this
  have e : nextJ c s o = j := by
    unfold nextJ
    have : (List.range c.ns).find? (nextQ c s o) = some j := by
      rw [List.find?_range_eq_some]
      exact ⟨j3 hlt, by simpa using hlt, fun k hk => by rw [j2 k hk]; rfl⟩
    rw [this]
    rfl
  rw [e]
  exact ⟨hlt, j3 hlt, j2⟩
theorem nx_sum (c : Cfg) (nq : Nat) (fq : Nat → Int) (s o : Int) (h1 : 1 ≤ c.ns) (h2 : c.ns ≤ 16) (hs : 0 ≤ s) (hs2 : s ≤ 1099511627776) (j : Nat) (hj : j < c.ns) (hy : nextQ c s o j = true) (hn : ∀ i, i < j → nextQ c s o i = false) :
    LoopV Tryd.prog (loopAt Tryd.prog 38 0) [0, 1, 2] netIds ((nxV s o).map some) ((netBk c nq fq).map some) 39 1012 (mkFr 39 [(1, i64 (s + j))]) [] 100000000000000000000000000000000000000000000000000 (.exit 0) none := by
  have e0 : nxV s o = nxV (s + ((0 : Nat) : Int)) o := by simp
  rw [e0]
  have ht : ∀ k : Nat, k ≤ j → Int.tmod (s + k) c.ns = (s + k) % c.ns ∧ 0 ≤ (s + k) % c.ns ∧ (s + k) % c.ns < c.ns := fun k hk => ⟨Int.tmod_eq_emod_of_nonneg (by omega), Int.emod_nonneg _ (by omega), Int.emod_lt_of_pos _ (by omega)⟩
  refine scan_ob hENns (fuel := 100) (str := 10000000000000000000000000000000000000000) (nh := 1000000000000000000000000000000000000000000) (n := 1012) (n' := 100000000000000000000000000000000000000000000000000) [0, 1, 2] [] netIds (fun k => nxV (s + (k : Int)) o) (netBk c nq fq) j (by decide) (by decide) (by unfold lim; omega) (by simp) (fun _ => ⟨rfl, rfl⟩) (by kernel_rfl) (fun k _ => rfl) (netBk_low (by omega)) ?_ ?_
  · intro k hk
    obtain ⟨t1, t2, t3⟩ := ht k (by omega)
    have hq := hn k hk
    have w : IntKind.wrap IntKind.i64 (s + (k : Int) + Int.ofNat 1) = s + ((k + 1 : Nat) : Int) := by rw [wrap_nat _ (by simp; omega) (by simp; omega)]; simp; omega
    refine nx c nq fq (s + (k : Int)) o _ ?_
    simp only [t1, w]
    unfold nextQ at hq
    (repeat' (first | refine ⟨fun h => ?_, fun h => ?_⟩ | fail))
    · refine ⟨⟨?_, rfl, by dsimp only; omega, rfl⟩, rfl, rfl, BL.refl _⟩
      simp at h
      simp [allT, inb_lit, inb_arr, h]
      omega
    · exfalso
      rw [Nat.zero_add] at h
      simp at h hq
      exact hq h
  · obtain ⟨t1, t2, t3⟩ := ht j (Nat.le_refl _)
    refine nx c nq fq (s + (j : Int)) o _ ?_
    simp only [t1]
    unfold nextQ at hy
    (repeat' (first | refine ⟨fun h => ?_, fun h => ?_⟩ | fail))
    · exfalso
      rw [Nat.zero_add] at h
      simp at h hy
      exact h hy
    · refine EndV_one ⟨?_, rfl, by dsimp only; omega, rfl⟩ rfl rfl (by simp [lkA])
      simp at h
      simp [allT, inb_lit, inb_arr, h]
      omega
def nxtR : NetS → AV
  | ⟨c, _, _, [.c (.v (.int .i64 s)), .c (.v (.int .i64 o))]⟩ => i64 (nextF c s o)
  | _ => i64 0
def nxtQ : NetS → Bool
  | ⟨c, nq, _, [.c (.v (.int .i64 _)), .c (.v (.int .i64 _))]⟩ => nxPre c nq
  | _ => false
theorem nxtQ_eq (c : Cfg) (nq : Nat) (fq : Nat → Int) (s o : Int) : nxtQ ⟨c, nq, fq, [.c (.v (.int .i64 s)), .c (.v (.int .i64 o))]⟩ = nxPre c nq := rfl
def ctNext4 : CtF := ctRd netRd nxtR nxtQ
set_option maxRecDepth 100000 in
theorem ct_next4 : CtOk Tryd.prog 38 ctNext4 := by
  refine ctRd_ofE (E := ENns Tryd.prog) hENns netRd (fuel := 300) (str := 10000000000000000000000000000000000000000) ⟨_, _, Tryd.func38, rfl⟩ (fun s => by unfold nxtR; split <;> rfl) fun s hs => ?_
  unfold nxtQ at hs
  split at hs
  · rename_i c nq fq s o
    simp only [nxPre, wiPre, Bool.and_eq_true] at hs
    obtain ⟨⟨h1, h2⟩, h3⟩ := hs
    obtain ⟨e, r1, r2, q1, q2, q3, q4, q5⟩ := ck_round h1
    obtain ⟨n4, n16, hf⟩ := heads_ok h2
    refine (?_ : (∃ p q, ntE (ENns Tryd.prog) 38 c nq fq [i64 s, i64 o] p [some ⟨[0, 1, 2], netIds, mkFr 39 [(1, i64 (nextF c s o))], [], 100000000000000000000000000000000000000000000000000, .exit 0⟩] = some q ∧ GoodF (i64 (nextF c s o)) q) → _) (nxF c nq fq s o (nextF c s o) _ ?_)
    · rintro ⟨p, q, h1, h2⟩
      exact ⟨p, [some ⟨[0, 1, 2], netIds, mkFr 39 [(1, i64 (nextF c s o))], [], 100000000000000000000000000000000000000000000000000, .exit 0⟩], q, h1, h2⟩
    · simp only [List.headD_cons, head_at q1]
      have hh : (0 ≤ o ∧ o < c.np ∧ ¬ atF c.fp c.np o = -1) ∨ (¬ (0 ≤ o ∧ o < c.np) ∧ atF c.fp c.np o = -1) := by
        by_cases g : 0 ≤ o ∧ o < c.np
        · have i1 := hf o.toNat (by omega)
          have e : atF c.fp c.np o = c.fp o.toNat := by unfold atF; rw [if_pos g]
          rw [e]
          exact .inl ⟨g.1, g.2, by omega⟩
        · refine .inr ⟨g, ?_⟩
          unfold atF; rw [if_neg g]
      have m1 : Int.negSucc 0 = -1 := rfl
      have hno : (s < 0 ∨ 1099511627776 < s ∨ ¬ (0 ≤ o ∧ o < c.np)) → nextF c s o = -1 := fun h => by unfold nextF; rw [if_pos h]
      have hye : 0 ≤ s → s ≤ 1099511627776 → (0 ≤ o ∧ o < c.np) → LoopV Tryd.prog (loopAt Tryd.prog 38 0) [0, 1, 2] netIds ((nxV s o).map some) ((netBk c nq fq).map some) 39 1012 (mkFr 39 [(1, i64 (nextF c s o))]) [] 100000000000000000000000000000000000000000000000000 (.exit 0) none := fun g1 g2 g3 => by
        have : nextF c s o = s + nextJ c s o := by unfold nextF; rw [if_neg (by omega)]
        rw [this]
        obtain ⟨j1, j2, j3⟩ := next_ok q2 h3 g1 g3
        exact nx_sum c nq fq s o q2 q3 g1 g2 _ j1 j2 j3
      (repeat' (first | refine ⟨fun h => ?_, fun h => ?_⟩ | fail))
      all_goals (simp only [m1, decide_eq_true_eq, decide_eq_false_iff_not, beq_iff_eq, beq_eq_false_iff_ne, ne_eq, Int.ofNat_eq_natCast, Int.cast_ofNat_Int, gt_iff_lt] at *)
      · refine ⟨by rw [hno (by omega)]; rfl, (by first | (unfold lim; omega) | (dsimp only; unfold lim; omega)), by simp [allT, h], by simp⟩
      · refine ⟨by rw [hno (by omega)]; rfl, (by first | (unfold lim; omega) | (dsimp only; unfold lim; omega)), ?_, by simp⟩
        (simp only [allT, List.forall_mem_cons, List.not_mem_nil, false_implies, implies_true, and_true, true_and, cfgK_t, netK_t, intsOk_ints, stsOk_sts, intsOk_s, stsOk_s, beq_iff_eq, decide_eq_true_eq, decide_eq_false_iff_not, beq_eq_false_iff_ne, bne_iff_ne, bne_eq_false_iff_eq, Bool.not_eq_true', Bool.not_eq_false', ne_eq, Int.ofNat_eq_natCast, Int.cast_ofNat_Int, gt_iff_lt, ge_iff_le]; omega)
      · refine ⟨by rw [hno (by omega)]; rfl, (by first | (unfold lim; omega) | (dsimp only; unfold lim; omega)), ?_, by simp⟩
        (simp only [allT, List.forall_mem_cons, List.not_mem_nil, false_implies, implies_true, and_true, true_and, cfgK_t, netK_t, intsOk_ints, stsOk_sts, intsOk_s, stsOk_s, beq_iff_eq, decide_eq_true_eq, decide_eq_false_iff_not, beq_eq_false_iff_ne, bne_iff_ne, bne_eq_false_iff_eq, Bool.not_eq_true', Bool.not_eq_false', ne_eq, Int.ofNat_eq_natCast, Int.cast_ofNat_Int, gt_iff_lt, ge_iff_le]; omega)
      · refine ⟨rfl, (by first | (unfold lim; omega) | (dsimp only; unfold lim; omega)), ?_, fun q hq => ?_⟩
        · (simp only [allT, List.forall_mem_cons, List.not_mem_nil, false_implies, implies_true, and_true, true_and, cfgK_t, netK_t, intsOk_ints, stsOk_sts, intsOk_s, stsOk_s, beq_iff_eq, decide_eq_true_eq, decide_eq_false_iff_not, beq_eq_false_iff_ne, bne_iff_ne, bne_eq_false_iff_eq, Bool.not_eq_true', Bool.not_eq_false', ne_eq, Int.ofNat_eq_natCast, Int.cast_ofNat_Int, gt_iff_lt, ge_iff_le]; omega)
        · rw [List.mem_singleton.1 hq]
          exact hye (by omega) (by omega) (by omega)
  · cases hs
theorem good_has {c : Cfg} (g : CfgGood c) : hasAll c = true := by
  refine List.all_eq_true.2 fun p hp => ?_
  obtain ⟨i, hi, he⟩ := g.has p (by simpa using hp)
  exact List.any_eq_true.2 ⟨i, by simpa using hi, by simpa using he⟩
end Go.Proofs.YtgfmjbfjodidpaaDoor
end
/- ClocksBack: what its runs answer. -/
section
namespace Go.Proofs.YtgfmjbfjodidpaaDoor
open Go.RowKit

theorem good_pre {c : Cfg} (g : CfgGood c) {nq : Nat} (h : 0 < nq) : ckPre c nq = true := by
  have := g.s1
  have := g.s16
  have := g.l1
  have := g.l4
  have := g.n4
  simp [ckPre]; omega
end Go.Proofs.YtgfmjbfjodidpaaDoor
end
/- Contracts of (Window).Pass, sennitref10.Guards, sennitref10.Over; those that layer 10's laws use. -/
section
namespace Go.Proofs.YtgfmjbfjodidpaaDoor
open Go.RowKit

theorem good_heads {c : Cfg} (g : CfgGood c) : headsOk c = true := by
  have := g.n4
  have := g.n16
  simp only [headsOk, Bool.and_eq_true, decide_eq_true_eq]
  refine ⟨by omega, by omega, List.all_eq_true.2 fun i hi => ?_⟩
  simpa using g.fp i (by simpa using hi)
theorem good_wi {c : Cfg} (g : CfgGood c) {nq : Nat} (h : 0 < nq) : wiPre c nq = true := by
  simp [wiPre, good_pre g h, good_heads g]
end Go.Proofs.YtgfmjbfjodidpaaDoor
end
/- WindowsOver, WindowsGuards, WindowsMeet as the evaluator runs them, for a config that may not be; their loops' rounds. -/
section
namespace Go.Proofs.YtgfmjbfjodidpaaDoor
open Go.RowKit

/-- a new net's blocks -/
abbrev netYk (ib : Nat) (c : Cfg) : List ABlk := [netY ib c, intsW c.nodes.toNat (pairF c (2 * c.np)), intsW c.np c.fp, intsW c.ns c.fs, intsW c.nb c.fb, stsW c.nt c.ft]
end Go.Proofs.YtgfmjbfjodidpaaDoor
end
/- WindowsOver, WindowsGuards: sums of their loops; what their runs answer. Printed by wip/gen_wvc.py. -/
section
namespace Go.Proofs.YtgfmjbfjodidpaaDoor
open Go.RowKit

theorem netY_lowk {ib : Nat} {c : Cfg} {n : Nat} (hn : ib + 6 ≤ n) : ∀ b ∈ netYk ib c, lowB n b := by
  intro b hb
  have hc : ∀ i, i < ib + 6 → Nat.blt i n = true := fun i h => by rw [Nat.blt_eq]; omega
  simp only [List.mem_cons, List.not_mem_nil, or_false] at hb
  rcases hb with rfl | rfl | rfl | rfl | rfl | rfl
  · refine low_lit ?_
    simp [lowC, hc, Nat.blt_eq]
    try omega
  all_goals exact wBlk_low
def isHalf (c : Cfg) (o : Int) (i : Nat) : Bool := decide (i = (atF c.fp c.np o).toNat) || decide (i = ((atF c.fp c.np o + 1) % c.nodes).toNat)
theorem isHalf_two {c : Cfg} (h : headsOk c = true) {o : Int} (ho : 0 ≤ o ∧ o < c.np) : cntF (isHalf c o) c.nodes.toNat = 2 := by
  obtain ⟨n4, n16, hf⟩ := heads_ok h
  rcases head_in h o with ⟨g1, g2, g3, g4⟩ | ⟨g1, g2⟩
  · have m1 := Int.emod_nonneg (atF c.fp c.np o + 1) (show c.nodes ≠ 0 by omega)
    have m2 := Int.emod_lt_of_pos (atF c.fp c.np o + 1) (show 0 < c.nodes by omega)
    have hs := succ_mod (x := atF c.fp c.np o) (show 0 < c.nodes by omega)
    rw [Int.emod_eq_of_lt (a := atF c.fp c.np o) g3 g4] at hs
    have hne : atF c.fp c.np o ≠ (atF c.fp c.np o + 1) % c.nodes := by rw [hs]; split <;> omega
    unfold isHalf
    rw [cntF_two (by omega), if_pos (by omega), if_pos (by omega)]
  · exact absurd ho g1
theorem isHalf_iff {c : Cfg} (h : headsOk c = true) {o : Int} (ho : 0 ≤ o ∧ o < c.np) (i : Nat) : isHalf c o i = true ↔ (i : Int) = atF c.fp c.np o ∨ (i : Int) = (atF c.fp c.np o + 1) % c.nodes := by
  obtain ⟨n4, n16, hf⟩ := heads_ok h
  rcases head_in h o with ⟨g1, g2, g3, g4⟩ | ⟨g1, g2⟩
  · have m1 := Int.emod_nonneg (atF c.fp c.np o + 1) (show c.nodes ≠ 0 by omega)
    simp [isHalf]
    omega
  · exact absurd ho g1
end Go.Proofs.YtgfmjbfjodidpaaDoor
end
/- Halves, partners: plain facts. No Go text is in sight. -/
section
namespace Go.Proofs.YtgfmjbfjodidpaaDoor
open Go.RowKit

/-- of a node: of no pair, or one of a pair's halves -/
theorem node_cases {c : Cfg} (g : CfgGood c) (nd : ∀ p q, p < 2 * c.np → q < 2 * c.np → halfF c p = halfF c q → p = q) {z : Int} (hz : 0 ≤ z ∧ z < c.nodes) :
    (pairN c c.nodes.toNat (pairF c (2 * c.np)) z = -1 ∧ partnerN c c.nodes.toNat (pairF c (2 * c.np)) z = -1) ∨
    ∃ o a : Int, 0 ≤ o ∧ o < c.np ∧ a = atF c.fp c.np o ∧ 0 ≤ a ∧ a < c.nodes ∧ pairN c c.nodes.toNat (pairF c (2 * c.np)) z = o ∧ headN c c.nodes.toNat (pairF c (2 * c.np)) o = a ∧
      ((z = a ∧ partnerN c c.nodes.toNat (pairF c (2 * c.np)) z = (a + 1) % c.nodes ∧ pairN c c.nodes.toNat (pairF c (2 * c.np)) ((a + 1) % c.nodes) = o ∧ partnerN c c.nodes.toNat (pairF c (2 * c.np)) ((a + 1) % c.nodes) = z ∧ distF c.nodes 0 a z = 0) ∨
       (z ≠ a ∧ z = (a + 1) % c.nodes ∧ partnerN c c.nodes.toNat (pairF c (2 * c.np)) z = a ∧ pairN c c.nodes.toNat (pairF c (2 * c.np)) a = o ∧ partnerN c c.nodes.toNat (pairF c (2 * c.np)) a = z ∧ distF c.nodes 0 a z = 1)) := by
  have n4 := g.n4
  have n16 := g.n16
  have hq : 0 < c.nodes.toNat := by omega
  have hh := good_heads g
  have ep : pairN c c.nodes.toNat (pairF c (2 * c.np)) z = pairF c (2 * c.np) z.toNat := by
    unfold pairN atF
    rw [if_neg (by omega), if_pos (by omega)]
  rcases pair_in (c := c) z.toNat with h | ⟨h1, h2⟩
  · left
    rw [← ep] at h
    refine ⟨h, ?_⟩
    unfold partnerN
    rw [h, head_at hq]
    have : atF c.fp c.np (-1) = -1 := by unfold atF; rw [if_neg (by omega)]
    rw [this, if_pos rfl]
  · right
    rw [← ep] at h1 h2
    obtain ⟨o, eo⟩ : ∃ o, pairN c c.nodes.toNat (pairF c (2 * c.np)) z = o := ⟨_, rfl⟩
    rw [eo] at h1 h2
    rcases head_in hh o with ⟨g1, g2, g3, g4⟩ | ⟨g1, _⟩
    case inr => exact absurd ⟨h1, h2⟩ g1
    have hit := fun z hz => pair_at g nd (o := o) (z := z) ⟨h1, h2⟩ hz
    have hd := head_at (fq := pairF c (2 * c.np)) (c := c) hq o
    obtain ⟨a, ea⟩ : ∃ a, atF c.fp c.np o = a := ⟨_, rfl⟩
    rw [ea] at g3 g4 hd
    simp only [ea] at hit
    have m1 := Int.emod_nonneg (a + 1) (show c.nodes ≠ 0 by omega)
    have m2 := Int.emod_lt_of_pos (a + 1) (show 0 < c.nodes by omega)
    have e1 : (a + 1) % c.nodes = if a = c.nodes - 1 then 0 else a + 1 := by rw [succ_mod (by omega), Int.emod_eq_of_lt g3 g4]
    have hne : a ≠ (a + 1) % c.nodes := by rw [e1]; split <;> omega
    have pa := (hit a ⟨g3, g4⟩).2 (.inl rfl)
    have pb := (hit ((a + 1) % c.nodes) ⟨m1, m2⟩).2 (.inr rfl)
    have ra := ring_at n4 n16 g3 g4
    have qa : partnerN c c.nodes.toNat (pairF c (2 * c.np)) a = (a + 1) % c.nodes := by
      unfold partnerN
      rw [pa, hd, if_neg (by omega), if_pos rfl, ra]
    have qb : partnerN c c.nodes.toNat (pairF c (2 * c.np)) ((a + 1) % c.nodes) = a := by
      unfold partnerN
      rw [pb, hd, if_neg (by omega), if_neg hne]
    have da : distF c.nodes 0 a a = 0 := by
      unfold distF
      rw [if_pos (by simp [ringB, nodeB]; omega), if_pos rfl, Int.sub_self, Int.zero_emod]
    have db : distF c.nodes 0 a ((a + 1) % c.nodes) = 1 := by
      unfold distF
      rw [if_pos (by simp [ringB, nodeB]; omega), if_pos rfl, Int.emod_sub_emod, show a + 1 - a = 1 by omega]
      exact Int.emod_eq_of_lt (by omega) (by omega)
    refine ⟨o, a, h1, h2, ea.symm, g3, g4, eo, hd, ?_⟩
    rcases (hit z hz).1 eo with rfl | rfl
    · exact .inl ⟨rfl, qa, pb, qb, da⟩
    · exact .inr ⟨fun e => hne e.symm, rfl, qb, pa, qa, db⟩
/-- how many nodes of a pair there are up to there -/
def hvN (c : Cfg) (i p : Nat) : Nat := cntF (fun k => pairF c (2 * c.np) k == (p : Int)) i
theorem hvN_two {c : Cfg} (g : CfgGood c) (nd : ∀ p q, p < 2 * c.np → q < 2 * c.np → halfF c p = halfF c q → p = q) {p : Nat} (hp : p < c.np) : hvN c c.nodes.toNat p = 2 := by
  have ho : (0 : Int) ≤ (p : Int) ∧ (p : Int) < c.np := by omega
  have h2 := isHalf_two (good_heads g) ho
  rw [← h2]
  unfold hvN
  refine cntF_congr fun i hi => ?_
  rw [Bool.eq_iff_iff, beq_iff_eq, isHalf_iff (good_heads g) ho, pair_val g nd hp]
  have : atF c.fp c.np (p : Int) = c.fp p := by unfold atF; rw [if_pos ho]; rfl
  rw [this]
theorem next_facts {c : Cfg} (g : CfgGood c) {s o : Int} (hs : 0 ≤ s) (hs2 : s ≤ 1099511627776) (ho : 0 ≤ o ∧ o < c.np) : s ≤ nextF c s o ∧ nextF c s o < s + c.ns ∧ ownerN c c.nodes.toNat (pairF c (2 * c.np)) (nextF c s o % c.ns) = o := by
  have n4 := g.n4
  have s1 := g.s1
  obtain ⟨j1, j2, _⟩ := next_ok g.s1 (good_has g) hs ho
  have e : nextF c s o = s + nextJ c s o := by unfold nextF; rw [if_neg (by omega)]
  have m1 := Int.emod_nonneg (s + nextJ c s o) (show (c.ns : Int) ≠ 0 by omega)
  have m2 := Int.emod_lt_of_pos (s + nextJ c s o) (show 0 < (c.ns : Int) by omega)
  rw [e]
  refine ⟨by omega, by omega, ?_⟩
  unfold ownerN atF
  rw [if_neg (by omega), if_pos ⟨m1, m2⟩]
  unfold nextQ at j2
  simpa using j2
end Go.Proofs.YtgfmjbfjodidpaaDoor
end
/- ConfigsHalves as the evaluator runs it, for a config that may not be. -/
section
namespace Go.Proofs.YtgfmjbfjodidpaaDoor
open Go.RowKit

def ctsHv : List (FuncId × CtF) := [(37, ctNet1 headN), (39, ctNet1 ownerN), (34, ctNet1 pairN), (35, ctNet1 partnerN), (40, ctRoundN), (38, ctNext4), (36, ctDistD), (19, ctTG mS)]
theorem ctsHv_ok : ∀ f g, (f, g) ∈ ctsHv → CtOk Tryd.prog f g := by
  intro f g h
  simp only [ctsHv, List.mem_cons, Prod.mk.injEq, List.not_mem_nil, or_false] at h
  rcases h with ⟨rfl, rfl⟩ | ⟨rfl, rfl⟩ | ⟨rfl, rfl⟩ | ⟨rfl, rfl⟩ | ⟨rfl, rfl⟩ | ⟨rfl, rfl⟩ | ⟨rfl, rfl⟩ | ⟨rfl, rfl⟩
  · exact ct_first
  · exact ct_owner
  · exact ct_pair
  · exact ct_partner
  · exact ct_round
  · exact ct_next4
  · exact ct_distD
  · exact ctTG_of (E := E1 Tryd.prog) hE1 ⟨_, _, Tryd.func19, rfl⟩ (by kernel_rfl) (by unfold lim; omega) lv04_run
theorem hvE (err : Cfg → Int) (c : Cfg) (s : Int) (Q : VF → Prop) (H : (((decide (↑(c.np) > Int.ofNat 60)) = true → Q (.c (.v (.bool true)), [], 27, [decide (↑(c.np) > Int.ofNat 60) == true, true, true, true, true, true, true, true], [])) ∧ ((decide (↑(c.np) > Int.ofNat 60)) = false → (((decide (↑(c.ns) > Int.ofNat 60)) = true → Q (.c (.v (.bool true)), [], 31, [decide (↑(c.ns) > Int.ofNat 60) == true, true, decide (↑(c.np) > Int.ofNat 60) == false, true, true, true, true, true, true, true], [])) ∧ ((decide (↑(c.ns) > Int.ofNat 60)) = false → (((decide (↑(c.nb) > Int.ofNat 60)) = true → Q (.c (.v (.bool true)), [], 35, [decide (↑(c.nb) > Int.ofNat 60) == true, true, decide (↑(c.ns) > Int.ofNat 60) == false, true, decide (↑(c.np) > Int.ofNat 60) == false, true, true, true, true, true, true, true], [])) ∧ ((decide (↑(c.nb) > Int.ofNat 60)) = false → (((decide (↑(c.nt) > Int.ofNat 60)) = true → Q (.c (.v (.bool true)), [], 39, [decide (↑(c.nt) > Int.ofNat 60) == true, true, decide (↑(c.nb) > Int.ofNat 60) == false, true, decide (↑(c.ns) > Int.ofNat 60) == false, true, decide (↑(c.np) > Int.ofNat 60) == false, true, true, true, true, true, true, true], [])) ∧ ((decide (↑(c.nt) > Int.ofNat 60)) = false → Q (.c (.v (.bool true)), [], 51, [(err c != Int.ofNat 0) == true, cfgK c, decide (c.nb ≤ 9223372036854775807), decide (err c ≠ Int.ofNat 0), true, true, true, true, true, true, decide (↑(c.nt) > Int.ofNat 60) == false, true, decide (↑(c.nb) > Int.ofNat 60) == false, true, decide (↑(c.ns) > Int.ofNat 60) == false, true, decide (↑(c.np) > Int.ofNat 60) == false, true, true, true, true, true, true, true], [])))))))))) :
    ∃ p r, lwR (ENl1 Tryd.prog err ctsHv) 8 mS c [i64 s] p [] = some r ∧ Q r := by
  rcases Bool.eq_false_or_eq_true (decide (↑(c.np) > Int.ofNat 60)) with h2 | h2
  · have g2 := H.1 h2
    exact ⟨([.b true, .a, .a, .a, .a, .a, .a, .a, .a, .a, .a, .a, .a] : List Dec), _, by kernel_rfl, g2⟩
  · have g2 := H.2 h2
    rcases Bool.eq_false_or_eq_true (decide (↑(c.ns) > Int.ofNat 60)) with h4 | h4
    · have g4 := g2.1 h4
      exact ⟨([.b false, .a, .a, .a, .b true, .a, .a, .a, .a, .a, .a, .a, .a] : List Dec), _, by kernel_rfl, g4⟩
    · have g4 := g2.2 h4
      rcases Bool.eq_false_or_eq_true (decide (↑(c.nb) > Int.ofNat 60)) with h6 | h6
      · have g6 := g4.1 h6
        exact ⟨([.b false, .a, .a, .a, .b false, .a, .a, .a, .b true, .a, .a, .a, .a] : List Dec), _, by kernel_rfl, g6⟩
      · have g6 := g4.2 h6
        rcases Bool.eq_false_or_eq_true (decide (↑(c.nt) > Int.ofNat 60)) with h8 | h8
        · have g8 := g6.1 h8
          exact ⟨([.b false, .a, .a, .a, .b false, .a, .a, .a, .b false, .a, .a, .a, .b true] : List Dec), _, by kernel_rfl, g8⟩
        · have g8 := g6.2 h8
          exact ⟨([.b false, .a, .a, .a, .b false, .a, .a, .a, .b false, .a, .a, .a, .b false, .b true, .a] : List Dec), _, by kernel_rfl, g8⟩
abbrev netYh (c : Cfg) : List ABlk := [netY 39 c, intsW c.nodes.toNat (pairF c (2 * c.np)), intsW c.np c.fp, intsW c.ns c.fs, intsW c.nb c.fb, stsW c.nt c.ft]
abbrev hvIds : List Nat := [gid 0, 10, 39, 40, 41, 42, 43, 44, 55]
abbrev hvBk (c : Cfg) (f : Nat → Nat) : List ABlk := [signB, cfgB c] ++ (netYh c ++ [intsW c.np fun p => Int.ofNat (f p)])
abbrev hvV (c : Cfg) (s : Int) (i : Nat) : List AV := [i64 s, .c (.ptr 10 0 0), .c (.ptr 39 0 0), .c (.sl 55 0 0 c.np none), i64 (Int.ofNat i)]
def hvR (P : Program) (err : Cfg → Int) (c : Cfg) (f : Nat → Nat) (s : Int) (i : Nat) (path : List Dec) : Option VC :=
  view ([1, 2, 5, 7, 8] ++ []) hvIds (fC (ENl0 P err ctsHv) 100 (loopAt P 8 0) 1000000000000000000000000000000000000000000 10000000000000000000000000000000000000000 (stH 161 [1, 2, 5, 7, 8] hvIds (hvV c s i) (hvBk c f) path []))
theorem hv (err : Cfg → Int) (c : Cfg) (f : Nat → Nat) (s : Int) (i : Nat) (Q : VC → Prop) (H : (((decide (Int.ofNat i < c.nodes)) = true → (((decide (pairN c (Int.toNat (c.nodes)) (pairF c (2 * c.np)) (List.headD [Int.ofNat i] (Int.ofNat 0)) < Int.ofNat 0)) = true → (((pairN c (Int.toNat (c.nodes)) (pairF c (2 * c.np)) (List.headD [Int.ofNat i] (Int.ofNat 0)) != Int.negSucc 0) = true → Q (Exit.ret, [some (lkA (List.zip [1, 2, 5, 7, 8] (hvV c s i)) (0 + 1)), some (lkA (List.zip [1, 2, 5, 7, 8] (hvV c s i)) (0 + 1 + 1)), some (lkA (List.zip [1, 2, 5, 7, 8] (hvV c s i)) (0 + 1 + 1 + 1 + 1 + 1)), some (lkA (List.zip [1, 2, 5, 7, 8] (hvV c s i)) (0 + 1 + 1 + 1 + 1 + 1 + 1 + 1)), some (lkA (List.zip [1, 2, 5, 7, 8] (hvV c s i)) (0 + 1 + 1 + 1 + 1 + 1 + 1 + 1 + 1))], [some (ABlk.mk false false 107 0 (Cs.lit [.v (.int .i64 (Int.ofNat 1)), .v (.int .i64 (Int.negSucc 0))])), some (ABlk.mk true false 25 0 (Cs.lit [.v (.int .i64 (c.nodes)), AC.sl 0 0 0 (c.np) none, AC.sl 1 0 0 (c.ns) none, .v (.int .i64 (c.long)), AC.sl 2 0 0 (c.nb) none, AC.sl 3 0 0 (c.nt) none, .v (.int .i64 (c.miss)), .v (.int .i64 (c.good)), .v (.int .i64 (c.fresh))])), some (ABlk.mk true false 130 0 (Cs.lit [.v (.int .i64 (c.nodes)), AC.sl 41 0 0 (c.np) (some (c.np)), AC.sl 42 0 0 (c.ns) (some (c.ns)), .v (.int .i64 (c.long)), AC.sl 43 0 0 (c.nb) (some (c.nb)), AC.sl 44 0 0 (c.nt) (some (c.nt)), .v (.int .i64 (c.miss)), .v (.int .i64 (c.good)), .v (.int .i64 (c.fresh)), AC.sl 40 0 0 (Int.toNat (c.nodes)) none])), some (ABlk.mk true true 3 1 (Cs.arr (Int.toNat (c.nodes)) fun k => List.map AC.v ((fun i => [Value.int .i64 (pairF c (2 * c.np) i)]) k))), some (ABlk.mk true true 3 1 (Cs.arr (c.np) fun k => List.map AC.v ((fun i => [Value.int .i64 (c.fp i)]) k))), some (ABlk.mk true true 3 1 (Cs.arr (c.ns) fun k => List.map AC.v ((fun i => [Value.int .i64 (c.fs i)]) k))), some (ABlk.mk true true 3 1 (Cs.arr (c.nb) fun k => List.map AC.v ((fun i => [Value.int .i64 (c.fb i)]) k))), some (ABlk.mk true true 47 3 (Cs.arr (c.nt) fun k => List.map AC.v ((fun i => [Value.int .i64 (Station.node (c.ft i)), Value.int .u32 (Station.safe (c.ft i)), Value.int .i64 (Station.hold (c.ft i))]) k))), some (ABlk.mk true true 3 1 (Cs.arr (c.np) fun k => List.map AC.v ((fun i => [Value.int .i64 ((fun p => Int.ofNat (f p)) i)]) k)))], 161, 1000000000000000000000000000000000000000017, [(pairN c (Int.toNat (c.nodes)) (pairF c (2 * c.np)) (List.headD [Int.ofNat i] (Int.ofNat 0)) != Int.negSucc 0) == true, decide (pairN c (Int.toNat (c.nodes)) (pairF c (2 * c.np)) (List.headD [Int.ofNat i] (Int.ofNat 0)) < Int.ofNat 0) == true, netK c (Int.toNat (c.nodes)) (pairF c (2 * c.np)), true, netK c (Int.toNat (c.nodes)) (pairF c (2 * c.np)), true, decide (Int.ofNat i < c.nodes) == true, true, true], [])) ∧ ((pairN c (Int.toNat (c.nodes)) (pairF c (2 * c.np)) (List.headD [Int.ofNat i] (Int.ofNat 0)) != Int.negSucc 0) = false → (((partnerN c (Int.toNat (c.nodes)) (pairF c (2 * c.np)) (List.headD [Int.ofNat i] (Int.ofNat 0)) != Int.negSucc 0) = true → Q (Exit.ret, [some (lkA (List.zip [1, 2, 5, 7, 8] (hvV c s i)) (0 + 1)), some (lkA (List.zip [1, 2, 5, 7, 8] (hvV c s i)) (0 + 1 + 1)), some (lkA (List.zip [1, 2, 5, 7, 8] (hvV c s i)) (0 + 1 + 1 + 1 + 1 + 1)), some (lkA (List.zip [1, 2, 5, 7, 8] (hvV c s i)) (0 + 1 + 1 + 1 + 1 + 1 + 1 + 1)), some (lkA (List.zip [1, 2, 5, 7, 8] (hvV c s i)) (0 + 1 + 1 + 1 + 1 + 1 + 1 + 1 + 1))], [some (ABlk.mk false false 107 0 (Cs.lit [.v (.int .i64 (Int.ofNat 1)), .v (.int .i64 (Int.negSucc 0))])), some (ABlk.mk true false 25 0 (Cs.lit [.v (.int .i64 (c.nodes)), AC.sl 0 0 0 (c.np) none, AC.sl 1 0 0 (c.ns) none, .v (.int .i64 (c.long)), AC.sl 2 0 0 (c.nb) none, AC.sl 3 0 0 (c.nt) none, .v (.int .i64 (c.miss)), .v (.int .i64 (c.good)), .v (.int .i64 (c.fresh))])), some (ABlk.mk true false 130 0 (Cs.lit [.v (.int .i64 (c.nodes)), AC.sl 41 0 0 (c.np) (some (c.np)), AC.sl 42 0 0 (c.ns) (some (c.ns)), .v (.int .i64 (c.long)), AC.sl 43 0 0 (c.nb) (some (c.nb)), AC.sl 44 0 0 (c.nt) (some (c.nt)), .v (.int .i64 (c.miss)), .v (.int .i64 (c.good)), .v (.int .i64 (c.fresh)), AC.sl 40 0 0 (Int.toNat (c.nodes)) none])), some (ABlk.mk true true 3 1 (Cs.arr (Int.toNat (c.nodes)) fun k => List.map AC.v ((fun i => [Value.int .i64 (pairF c (2 * c.np) i)]) k))), some (ABlk.mk true true 3 1 (Cs.arr (c.np) fun k => List.map AC.v ((fun i => [Value.int .i64 (c.fp i)]) k))), some (ABlk.mk true true 3 1 (Cs.arr (c.ns) fun k => List.map AC.v ((fun i => [Value.int .i64 (c.fs i)]) k))), some (ABlk.mk true true 3 1 (Cs.arr (c.nb) fun k => List.map AC.v ((fun i => [Value.int .i64 (c.fb i)]) k))), some (ABlk.mk true true 47 3 (Cs.arr (c.nt) fun k => List.map AC.v ((fun i => [Value.int .i64 (Station.node (c.ft i)), Value.int .u32 (Station.safe (c.ft i)), Value.int .i64 (Station.hold (c.ft i))]) k))), some (ABlk.mk true true 3 1 (Cs.arr (c.np) fun k => List.map AC.v ((fun i => [Value.int .i64 ((fun p => Int.ofNat (f p)) i)]) k)))], 161, 1000000000000000000000000000000000000000019, [(partnerN c (Int.toNat (c.nodes)) (pairF c (2 * c.np)) (List.headD [Int.ofNat i] (Int.ofNat 0)) != Int.negSucc 0) == true, (pairN c (Int.toNat (c.nodes)) (pairF c (2 * c.np)) (List.headD [Int.ofNat i] (Int.ofNat 0)) != Int.negSucc 0) == false, decide (pairN c (Int.toNat (c.nodes)) (pairF c (2 * c.np)) (List.headD [Int.ofNat i] (Int.ofNat 0)) < Int.ofNat 0) == true, netK c (Int.toNat (c.nodes)) (pairF c (2 * c.np)), true, netK c (Int.toNat (c.nodes)) (pairF c (2 * c.np)), true, decide (Int.ofNat i < c.nodes) == true, true, true], [])) ∧ ((partnerN c (Int.toNat (c.nodes)) (pairF c (2 * c.np)) (List.headD [Int.ofNat i] (Int.ofNat 0)) != Int.negSucc 0) = false → Q (Exit.normal, [some (lkA (List.zip [1, 2, 5, 7, 8] (hvV c s i)) (0 + 1)), some (lkA (List.zip [1, 2, 5, 7, 8] (hvV c s i)) (0 + 1 + 1)), some (lkA (List.zip [1, 2, 5, 7, 8] (hvV c s i)) (0 + 1 + 1 + 1 + 1 + 1)), some (lkA (List.zip [1, 2, 5, 7, 8] (hvV c s i)) (0 + 1 + 1 + 1 + 1 + 1 + 1 + 1)), some (.c (.v (.int .i64 (IntKind.wrap .i64 (Int.ofNat i + Int.ofNat 1)))))], [some (ABlk.mk false false 107 0 (Cs.lit [.v (.int .i64 (Int.ofNat 1)), .v (.int .i64 (Int.negSucc 0))])), some (ABlk.mk true false 25 0 (Cs.lit [.v (.int .i64 (c.nodes)), AC.sl 0 0 0 (c.np) none, AC.sl 1 0 0 (c.ns) none, .v (.int .i64 (c.long)), AC.sl 2 0 0 (c.nb) none, AC.sl 3 0 0 (c.nt) none, .v (.int .i64 (c.miss)), .v (.int .i64 (c.good)), .v (.int .i64 (c.fresh))])), some (ABlk.mk true false 130 0 (Cs.lit [.v (.int .i64 (c.nodes)), AC.sl 41 0 0 (c.np) (some (c.np)), AC.sl 42 0 0 (c.ns) (some (c.ns)), .v (.int .i64 (c.long)), AC.sl 43 0 0 (c.nb) (some (c.nb)), AC.sl 44 0 0 (c.nt) (some (c.nt)), .v (.int .i64 (c.miss)), .v (.int .i64 (c.good)), .v (.int .i64 (c.fresh)), AC.sl 40 0 0 (Int.toNat (c.nodes)) none])), some (ABlk.mk true true 3 1 (Cs.arr (Int.toNat (c.nodes)) fun k => List.map AC.v ((fun i => [Value.int .i64 (pairF c (2 * c.np) i)]) k))), some (ABlk.mk true true 3 1 (Cs.arr (c.np) fun k => List.map AC.v ((fun i => [Value.int .i64 (c.fp i)]) k))), some (ABlk.mk true true 3 1 (Cs.arr (c.ns) fun k => List.map AC.v ((fun i => [Value.int .i64 (c.fs i)]) k))), some (ABlk.mk true true 3 1 (Cs.arr (c.nb) fun k => List.map AC.v ((fun i => [Value.int .i64 (c.fb i)]) k))), some (ABlk.mk true true 47 3 (Cs.arr (c.nt) fun k => List.map AC.v ((fun i => [Value.int .i64 (Station.node (c.ft i)), Value.int .u32 (Station.safe (c.ft i)), Value.int .i64 (Station.hold (c.ft i))]) k))), some (ABlk.mk true true 3 1 (Cs.arr (c.np) fun k => List.map AC.v ((fun i => [Value.int .i64 ((fun p => Int.ofNat (f p)) i)]) k)))], 161, 1000000000000000000000000000000000000000021, [(partnerN c (Int.toNat (c.nodes)) (pairF c (2 * c.np)) (List.headD [Int.ofNat i] (Int.ofNat 0)) != Int.negSucc 0) == false, (pairN c (Int.toNat (c.nodes)) (pairF c (2 * c.np)) (List.headD [Int.ofNat i] (Int.ofNat 0)) != Int.negSucc 0) == false, decide (pairN c (Int.toNat (c.nodes)) (pairF c (2 * c.np)) (List.headD [Int.ofNat i] (Int.ofNat 0)) < Int.ofNat 0) == true, netK c (Int.toNat (c.nodes)) (pairF c (2 * c.np)), true, netK c (Int.toNat (c.nodes)) (pairF c (2 * c.np)), true, decide (Int.ofNat i < c.nodes) == true, true, true], [])))))) ∧ ((decide (pairN c (Int.toNat (c.nodes)) (pairF c (2 * c.np)) (List.headD [Int.ofNat i] (Int.ofNat 0)) < Int.ofNat 0)) = false → (((decide (pairN c (Int.toNat (c.nodes)) (pairF c (2 * c.np)) (List.headD [Int.ofNat i] (Int.ofNat 0)) ≥ ↑(c.np))) = true → Q (Exit.ret, [some (lkA (List.zip [1, 2, 5, 7, 8] (hvV c s i)) (0 + 1)), some (lkA (List.zip [1, 2, 5, 7, 8] (hvV c s i)) (0 + 1 + 1)), some (lkA (List.zip [1, 2, 5, 7, 8] (hvV c s i)) (0 + 1 + 1 + 1 + 1 + 1)), some (lkA (List.zip [1, 2, 5, 7, 8] (hvV c s i)) (0 + 1 + 1 + 1 + 1 + 1 + 1 + 1)), some (lkA (List.zip [1, 2, 5, 7, 8] (hvV c s i)) (0 + 1 + 1 + 1 + 1 + 1 + 1 + 1 + 1))], [some (ABlk.mk false false 107 0 (Cs.lit [.v (.int .i64 (Int.ofNat 1)), .v (.int .i64 (Int.negSucc 0))])), some (ABlk.mk true false 25 0 (Cs.lit [.v (.int .i64 (c.nodes)), AC.sl 0 0 0 (c.np) none, AC.sl 1 0 0 (c.ns) none, .v (.int .i64 (c.long)), AC.sl 2 0 0 (c.nb) none, AC.sl 3 0 0 (c.nt) none, .v (.int .i64 (c.miss)), .v (.int .i64 (c.good)), .v (.int .i64 (c.fresh))])), some (ABlk.mk true false 130 0 (Cs.lit [.v (.int .i64 (c.nodes)), AC.sl 41 0 0 (c.np) (some (c.np)), AC.sl 42 0 0 (c.ns) (some (c.ns)), .v (.int .i64 (c.long)), AC.sl 43 0 0 (c.nb) (some (c.nb)), AC.sl 44 0 0 (c.nt) (some (c.nt)), .v (.int .i64 (c.miss)), .v (.int .i64 (c.good)), .v (.int .i64 (c.fresh)), AC.sl 40 0 0 (Int.toNat (c.nodes)) none])), some (ABlk.mk true true 3 1 (Cs.arr (Int.toNat (c.nodes)) fun k => List.map AC.v ((fun i => [Value.int .i64 (pairF c (2 * c.np) i)]) k))), some (ABlk.mk true true 3 1 (Cs.arr (c.np) fun k => List.map AC.v ((fun i => [Value.int .i64 (c.fp i)]) k))), some (ABlk.mk true true 3 1 (Cs.arr (c.ns) fun k => List.map AC.v ((fun i => [Value.int .i64 (c.fs i)]) k))), some (ABlk.mk true true 3 1 (Cs.arr (c.nb) fun k => List.map AC.v ((fun i => [Value.int .i64 (c.fb i)]) k))), some (ABlk.mk true true 47 3 (Cs.arr (c.nt) fun k => List.map AC.v ((fun i => [Value.int .i64 (Station.node (c.ft i)), Value.int .u32 (Station.safe (c.ft i)), Value.int .i64 (Station.hold (c.ft i))]) k))), some (ABlk.mk true true 3 1 (Cs.arr (c.np) fun k => List.map AC.v ((fun i => [Value.int .i64 ((fun p => Int.ofNat (f p)) i)]) k)))], 161, 1000000000000000000000000000000000000000022, [decide (pairN c (Int.toNat (c.nodes)) (pairF c (2 * c.np)) (List.headD [Int.ofNat i] (Int.ofNat 0)) ≥ ↑(c.np)) == true, true, decide (pairN c (Int.toNat (c.nodes)) (pairF c (2 * c.np)) (List.headD [Int.ofNat i] (Int.ofNat 0)) < Int.ofNat 0) == false, netK c (Int.toNat (c.nodes)) (pairF c (2 * c.np)), true, netK c (Int.toNat (c.nodes)) (pairF c (2 * c.np)), true, decide (Int.ofNat i < c.nodes) == true, true, true], [])) ∧ ((decide (pairN c (Int.toNat (c.nodes)) (pairF c (2 * c.np)) (List.headD [Int.ofNat i] (Int.ofNat 0)) ≥ ↑(c.np))) = false → (((partnerN c (Int.toNat (c.nodes)) (pairF c (2 * c.np)) (List.headD [partnerN c (Int.toNat (c.nodes)) (pairF c (2 * c.np)) (List.headD [Int.ofNat i] (Int.ofNat 0))] (Int.ofNat 0)) != Int.ofNat i) = true → Q (Exit.ret, [some (lkA (List.zip [1, 2, 5, 7, 8] (hvV c s i)) (0 + 1)), some (lkA (List.zip [1, 2, 5, 7, 8] (hvV c s i)) (0 + 1 + 1)), some (lkA (List.zip [1, 2, 5, 7, 8] (hvV c s i)) (0 + 1 + 1 + 1 + 1 + 1)), some (lkA (List.zip [1, 2, 5, 7, 8] (hvV c s i)) (0 + 1 + 1 + 1 + 1 + 1 + 1 + 1)), some (lkA (List.zip [1, 2, 5, 7, 8] (hvV c s i)) (0 + 1 + 1 + 1 + 1 + 1 + 1 + 1 + 1))], [some (ABlk.mk false false 107 0 (Cs.lit [.v (.int .i64 (Int.ofNat 1)), .v (.int .i64 (Int.negSucc 0))])), some (ABlk.mk true false 25 0 (Cs.lit [.v (.int .i64 (c.nodes)), AC.sl 0 0 0 (c.np) none, AC.sl 1 0 0 (c.ns) none, .v (.int .i64 (c.long)), AC.sl 2 0 0 (c.nb) none, AC.sl 3 0 0 (c.nt) none, .v (.int .i64 (c.miss)), .v (.int .i64 (c.good)), .v (.int .i64 (c.fresh))])), some (ABlk.mk true false 130 0 (Cs.lit [.v (.int .i64 (c.nodes)), AC.sl 41 0 0 (c.np) (some (c.np)), AC.sl 42 0 0 (c.ns) (some (c.ns)), .v (.int .i64 (c.long)), AC.sl 43 0 0 (c.nb) (some (c.nb)), AC.sl 44 0 0 (c.nt) (some (c.nt)), .v (.int .i64 (c.miss)), .v (.int .i64 (c.good)), .v (.int .i64 (c.fresh)), AC.sl 40 0 0 (Int.toNat (c.nodes)) none])), some (ABlk.mk true true 3 1 (Cs.arr (Int.toNat (c.nodes)) fun k => List.map AC.v ((fun i => [Value.int .i64 (pairF c (2 * c.np) i)]) k))), some (ABlk.mk true true 3 1 (Cs.arr (c.np) fun k => List.map AC.v ((fun i => [Value.int .i64 (c.fp i)]) k))), some (ABlk.mk true true 3 1 (Cs.arr (c.ns) fun k => List.map AC.v ((fun i => [Value.int .i64 (c.fs i)]) k))), some (ABlk.mk true true 3 1 (Cs.arr (c.nb) fun k => List.map AC.v ((fun i => [Value.int .i64 (c.fb i)]) k))), some (ABlk.mk true true 47 3 (Cs.arr (c.nt) fun k => List.map AC.v ((fun i => [Value.int .i64 (Station.node (c.ft i)), Value.int .u32 (Station.safe (c.ft i)), Value.int .i64 (Station.hold (c.ft i))]) k))), some (ABlk.mk true true 3 1 (Cs.arr (c.np) fun k => List.map AC.v ((fun i => [Value.int .i64 ((fun p => Int.ofNat (f p)) i)]) k)))], 161, 1000000000000000000000000000000000000000026, [(partnerN c (Int.toNat (c.nodes)) (pairF c (2 * c.np)) (List.headD [partnerN c (Int.toNat (c.nodes)) (pairF c (2 * c.np)) (List.headD [Int.ofNat i] (Int.ofNat 0))] (Int.ofNat 0)) != Int.ofNat i) == true, netK c (Int.toNat (c.nodes)) (pairF c (2 * c.np)), true, decide (pairN c (Int.toNat (c.nodes)) (pairF c (2 * c.np)) (List.headD [Int.ofNat i] (Int.ofNat 0)) ≥ ↑(c.np)) == false, true, decide (pairN c (Int.toNat (c.nodes)) (pairF c (2 * c.np)) (List.headD [Int.ofNat i] (Int.ofNat 0)) < Int.ofNat 0) == false, netK c (Int.toNat (c.nodes)) (pairF c (2 * c.np)), true, netK c (Int.toNat (c.nodes)) (pairF c (2 * c.np)), true, decide (Int.ofNat i < c.nodes) == true, true, true], [])) ∧ ((partnerN c (Int.toNat (c.nodes)) (pairF c (2 * c.np)) (List.headD [partnerN c (Int.toNat (c.nodes)) (pairF c (2 * c.np)) (List.headD [Int.ofNat i] (Int.ofNat 0))] (Int.ofNat 0)) != Int.ofNat i) = false → (((pairN c (Int.toNat (c.nodes)) (pairF c (2 * c.np)) (List.headD [partnerN c (Int.toNat (c.nodes)) (pairF c (2 * c.np)) (List.headD [Int.ofNat i] (Int.ofNat 0))] (Int.ofNat 0)) != pairN c (Int.toNat (c.nodes)) (pairF c (2 * c.np)) (List.headD [Int.ofNat i] (Int.ofNat 0))) = true → Q (Exit.ret, [some (lkA (List.zip [1, 2, 5, 7, 8] (hvV c s i)) (0 + 1)), some (lkA (List.zip [1, 2, 5, 7, 8] (hvV c s i)) (0 + 1 + 1)), some (lkA (List.zip [1, 2, 5, 7, 8] (hvV c s i)) (0 + 1 + 1 + 1 + 1 + 1)), some (lkA (List.zip [1, 2, 5, 7, 8] (hvV c s i)) (0 + 1 + 1 + 1 + 1 + 1 + 1 + 1)), some (lkA (List.zip [1, 2, 5, 7, 8] (hvV c s i)) (0 + 1 + 1 + 1 + 1 + 1 + 1 + 1 + 1))], [some (ABlk.mk false false 107 0 (Cs.lit [.v (.int .i64 (Int.ofNat 1)), .v (.int .i64 (Int.negSucc 0))])), some (ABlk.mk true false 25 0 (Cs.lit [.v (.int .i64 (c.nodes)), AC.sl 0 0 0 (c.np) none, AC.sl 1 0 0 (c.ns) none, .v (.int .i64 (c.long)), AC.sl 2 0 0 (c.nb) none, AC.sl 3 0 0 (c.nt) none, .v (.int .i64 (c.miss)), .v (.int .i64 (c.good)), .v (.int .i64 (c.fresh))])), some (ABlk.mk true false 130 0 (Cs.lit [.v (.int .i64 (c.nodes)), AC.sl 41 0 0 (c.np) (some (c.np)), AC.sl 42 0 0 (c.ns) (some (c.ns)), .v (.int .i64 (c.long)), AC.sl 43 0 0 (c.nb) (some (c.nb)), AC.sl 44 0 0 (c.nt) (some (c.nt)), .v (.int .i64 (c.miss)), .v (.int .i64 (c.good)), .v (.int .i64 (c.fresh)), AC.sl 40 0 0 (Int.toNat (c.nodes)) none])), some (ABlk.mk true true 3 1 (Cs.arr (Int.toNat (c.nodes)) fun k => List.map AC.v ((fun i => [Value.int .i64 (pairF c (2 * c.np) i)]) k))), some (ABlk.mk true true 3 1 (Cs.arr (c.np) fun k => List.map AC.v ((fun i => [Value.int .i64 (c.fp i)]) k))), some (ABlk.mk true true 3 1 (Cs.arr (c.ns) fun k => List.map AC.v ((fun i => [Value.int .i64 (c.fs i)]) k))), some (ABlk.mk true true 3 1 (Cs.arr (c.nb) fun k => List.map AC.v ((fun i => [Value.int .i64 (c.fb i)]) k))), some (ABlk.mk true true 47 3 (Cs.arr (c.nt) fun k => List.map AC.v ((fun i => [Value.int .i64 (Station.node (c.ft i)), Value.int .u32 (Station.safe (c.ft i)), Value.int .i64 (Station.hold (c.ft i))]) k))), some (ABlk.mk true true 3 1 (Cs.arr (c.np) fun k => List.map AC.v ((fun i => [Value.int .i64 ((fun p => Int.ofNat (f p)) i)]) k)))], 161, 1000000000000000000000000000000000000000030, [(pairN c (Int.toNat (c.nodes)) (pairF c (2 * c.np)) (List.headD [partnerN c (Int.toNat (c.nodes)) (pairF c (2 * c.np)) (List.headD [Int.ofNat i] (Int.ofNat 0))] (Int.ofNat 0)) != pairN c (Int.toNat (c.nodes)) (pairF c (2 * c.np)) (List.headD [Int.ofNat i] (Int.ofNat 0))) == true, netK c (Int.toNat (c.nodes)) (pairF c (2 * c.np)), true, (partnerN c (Int.toNat (c.nodes)) (pairF c (2 * c.np)) (List.headD [partnerN c (Int.toNat (c.nodes)) (pairF c (2 * c.np)) (List.headD [Int.ofNat i] (Int.ofNat 0))] (Int.ofNat 0)) != Int.ofNat i) == false, netK c (Int.toNat (c.nodes)) (pairF c (2 * c.np)), true, decide (pairN c (Int.toNat (c.nodes)) (pairF c (2 * c.np)) (List.headD [Int.ofNat i] (Int.ofNat 0)) ≥ ↑(c.np)) == false, true, decide (pairN c (Int.toNat (c.nodes)) (pairF c (2 * c.np)) (List.headD [Int.ofNat i] (Int.ofNat 0)) < Int.ofNat 0) == false, netK c (Int.toNat (c.nodes)) (pairF c (2 * c.np)), true, netK c (Int.toNat (c.nodes)) (pairF c (2 * c.np)), true, decide (Int.ofNat i < c.nodes) == true, true, true], [])) ∧ ((pairN c (Int.toNat (c.nodes)) (pairF c (2 * c.np)) (List.headD [partnerN c (Int.toNat (c.nodes)) (pairF c (2 * c.np)) (List.headD [Int.ofNat i] (Int.ofNat 0))] (Int.ofNat 0)) != pairN c (Int.toNat (c.nodes)) (pairF c (2 * c.np)) (List.headD [Int.ofNat i] (Int.ofNat 0))) = false → (((Int.ofNat i == headN c (Int.toNat (c.nodes)) (pairF c (2 * c.np)) (List.headD [pairN c (Int.toNat (c.nodes)) (pairF c (2 * c.np)) (List.headD [Int.ofNat i] (Int.ofNat 0))] (Int.ofNat 0))) = true → (((distF (c.nodes) (Int.ofNat 0) (headN c (Int.toNat (c.nodes)) (pairF c (2 * c.np)) (List.headD [pairN c (Int.toNat (c.nodes)) (pairF c (2 * c.np)) (List.headD [Int.ofNat i] (Int.ofNat 0))] (Int.ofNat 0))) (Int.ofNat i) != Int.ofNat 0) = true → Q (Exit.ret, [some (lkA (List.zip [1, 2, 5, 7, 8] (hvV c s i)) (0 + 1)), some (lkA (List.zip [1, 2, 5, 7, 8] (hvV c s i)) (0 + 1 + 1)), some (lkA (List.zip [1, 2, 5, 7, 8] (hvV c s i)) (0 + 1 + 1 + 1 + 1 + 1)), some (lkA (List.zip [1, 2, 5, 7, 8] (hvV c s i)) (0 + 1 + 1 + 1 + 1 + 1 + 1 + 1)), some (lkA (List.zip [1, 2, 5, 7, 8] (hvV c s i)) (0 + 1 + 1 + 1 + 1 + 1 + 1 + 1 + 1))], [some (ABlk.mk false false 107 0 (Cs.lit [.v (.int .i64 (Int.ofNat 1)), .v (.int .i64 (Int.negSucc 0))])), some (ABlk.mk true false 25 0 (Cs.lit [.v (.int .i64 (c.nodes)), AC.sl 0 0 0 (c.np) none, AC.sl 1 0 0 (c.ns) none, .v (.int .i64 (c.long)), AC.sl 2 0 0 (c.nb) none, AC.sl 3 0 0 (c.nt) none, .v (.int .i64 (c.miss)), .v (.int .i64 (c.good)), .v (.int .i64 (c.fresh))])), some (ABlk.mk true false 130 0 (Cs.lit [.v (.int .i64 (c.nodes)), AC.sl 41 0 0 (c.np) (some (c.np)), AC.sl 42 0 0 (c.ns) (some (c.ns)), .v (.int .i64 (c.long)), AC.sl 43 0 0 (c.nb) (some (c.nb)), AC.sl 44 0 0 (c.nt) (some (c.nt)), .v (.int .i64 (c.miss)), .v (.int .i64 (c.good)), .v (.int .i64 (c.fresh)), AC.sl 40 0 0 (Int.toNat (c.nodes)) none])), some (ABlk.mk true true 3 1 (Cs.arr (Int.toNat (c.nodes)) fun k => List.map AC.v ((fun i => [Value.int .i64 (pairF c (2 * c.np) i)]) k))), some (ABlk.mk true true 3 1 (Cs.arr (c.np) fun k => List.map AC.v ((fun i => [Value.int .i64 (c.fp i)]) k))), some (ABlk.mk true true 3 1 (Cs.arr (c.ns) fun k => List.map AC.v ((fun i => [Value.int .i64 (c.fs i)]) k))), some (ABlk.mk true true 3 1 (Cs.arr (c.nb) fun k => List.map AC.v ((fun i => [Value.int .i64 (c.fb i)]) k))), some (ABlk.mk true true 47 3 (Cs.arr (c.nt) fun k => List.map AC.v ((fun i => [Value.int .i64 (Station.node (c.ft i)), Value.int .u32 (Station.safe (c.ft i)), Value.int .i64 (Station.hold (c.ft i))]) k))), some (ABlk.mk true true 3 1 (Cs.arr (c.np) fun i_1 => if i_1 = 0 + Int.toNat (pairN c (Int.toNat (c.nodes)) (pairF c (2 * c.np)) (List.headD [Int.ofNat i] (Int.ofNat 0))) then setL ((fun k => List.map AC.v ((fun i => [Value.int .i64 ((fun p => Int.ofNat (f p)) i)]) k)) i_1) 0 [.v (.int .i64 (IntKind.wrap .i64 (Int.ofNat (f (0 + Int.toNat (pairN c (Int.toNat (c.nodes)) (pairF c (2 * c.np)) (List.headD [Int.ofNat i] (Int.ofNat 0))))) + Int.ofNat 1)))] else List.map AC.v ((fun i => [Value.int .i64 ((fun p => Int.ofNat (f p)) i)]) i_1)))], 161, 1080000000000000000000000000000000000000047, [(distF (c.nodes) (Int.ofNat 0) (headN c (Int.toNat (c.nodes)) (pairF c (2 * c.np)) (List.headD [pairN c (Int.toNat (c.nodes)) (pairF c (2 * c.np)) (List.headD [Int.ofNat i] (Int.ofNat 0))] (Int.ofNat 0))) (Int.ofNat i) != Int.ofNat 0) == true, (Int.ofNat i == headN c (Int.toNat (c.nodes)) (pairF c (2 * c.np)) (List.headD [pairN c (Int.toNat (c.nodes)) (pairF c (2 * c.np)) (List.headD [Int.ofNat i] (Int.ofNat 0))] (Int.ofNat 0))) == true, netK c (Int.toNat (c.nodes)) (pairF c (2 * c.np)), true, true, true, netK c (Int.toNat (c.nodes)) (pairF c (2 * c.np)), true, true, true, ABlk.inb (ABlk.mk true true 3 1 (Cs.arr (c.np) fun k => List.map AC.v ((fun i => [Value.int .i64 ((fun p => Int.ofNat (f p)) i)]) k))) (0 + Int.toNat (pairN c (Int.toNat (c.nodes)) (pairF c (2 * c.np)) (List.headD [Int.ofNat i] (Int.ofNat 0)))) 1, decide (Int.ofNat 0 ≤ pairN c (Int.toNat (c.nodes)) (pairF c (2 * c.np)) (List.headD [Int.ofNat i] (Int.ofNat 0)) ∧ pairN c (Int.toNat (c.nodes)) (pairF c (2 * c.np)) (List.headD [Int.ofNat i] (Int.ofNat 0)) < ↑(c.np)), ABlk.inb (ABlk.mk true true 3 1 (Cs.arr (c.np) fun k => List.map AC.v ((fun i => [Value.int .i64 ((fun p => Int.ofNat (f p)) i)]) k))) (0 + Int.toNat (pairN c (Int.toNat (c.nodes)) (pairF c (2 * c.np)) (List.headD [Int.ofNat i] (Int.ofNat 0)))) 1, true, decide (Int.ofNat 0 ≤ pairN c (Int.toNat (c.nodes)) (pairF c (2 * c.np)) (List.headD [Int.ofNat i] (Int.ofNat 0)) ∧ pairN c (Int.toNat (c.nodes)) (pairF c (2 * c.np)) (List.headD [Int.ofNat i] (Int.ofNat 0)) < ↑(c.np)), (pairN c (Int.toNat (c.nodes)) (pairF c (2 * c.np)) (List.headD [partnerN c (Int.toNat (c.nodes)) (pairF c (2 * c.np)) (List.headD [Int.ofNat i] (Int.ofNat 0))] (Int.ofNat 0)) != pairN c (Int.toNat (c.nodes)) (pairF c (2 * c.np)) (List.headD [Int.ofNat i] (Int.ofNat 0))) == false, netK c (Int.toNat (c.nodes)) (pairF c (2 * c.np)), true, (partnerN c (Int.toNat (c.nodes)) (pairF c (2 * c.np)) (List.headD [partnerN c (Int.toNat (c.nodes)) (pairF c (2 * c.np)) (List.headD [Int.ofNat i] (Int.ofNat 0))] (Int.ofNat 0)) != Int.ofNat i) == false, netK c (Int.toNat (c.nodes)) (pairF c (2 * c.np)), true, decide (pairN c (Int.toNat (c.nodes)) (pairF c (2 * c.np)) (List.headD [Int.ofNat i] (Int.ofNat 0)) ≥ ↑(c.np)) == false, true, decide (pairN c (Int.toNat (c.nodes)) (pairF c (2 * c.np)) (List.headD [Int.ofNat i] (Int.ofNat 0)) < Int.ofNat 0) == false, netK c (Int.toNat (c.nodes)) (pairF c (2 * c.np)), true, netK c (Int.toNat (c.nodes)) (pairF c (2 * c.np)), true, decide (Int.ofNat i < c.nodes) == true, true, true], [])) ∧ ((distF (c.nodes) (Int.ofNat 0) (headN c (Int.toNat (c.nodes)) (pairF c (2 * c.np)) (List.headD [pairN c (Int.toNat (c.nodes)) (pairF c (2 * c.np)) (List.headD [Int.ofNat i] (Int.ofNat 0))] (Int.ofNat 0))) (Int.ofNat i) != Int.ofNat 0) = false → (((Int.ofNat i != headN c (Int.toNat (c.nodes)) (pairF c (2 * c.np)) (List.headD [pairN c (Int.toNat (c.nodes)) (pairF c (2 * c.np)) (List.headD [Int.ofNat i] (Int.ofNat 0))] (Int.ofNat 0))) = true → (((distF (c.nodes) (Int.ofNat 0) (headN c (Int.toNat (c.nodes)) (pairF c (2 * c.np)) (List.headD [pairN c (Int.toNat (c.nodes)) (pairF c (2 * c.np)) (List.headD [Int.ofNat i] (Int.ofNat 0))] (Int.ofNat 0))) (Int.ofNat i) != Int.ofNat 1) = true → Q (Exit.ret, [some (lkA (List.zip [1, 2, 5, 7, 8] (hvV c s i)) (0 + 1)), some (lkA (List.zip [1, 2, 5, 7, 8] (hvV c s i)) (0 + 1 + 1)), some (lkA (List.zip [1, 2, 5, 7, 8] (hvV c s i)) (0 + 1 + 1 + 1 + 1 + 1)), some (lkA (List.zip [1, 2, 5, 7, 8] (hvV c s i)) (0 + 1 + 1 + 1 + 1 + 1 + 1 + 1)), some (lkA (List.zip [1, 2, 5, 7, 8] (hvV c s i)) (0 + 1 + 1 + 1 + 1 + 1 + 1 + 1 + 1))], [some (ABlk.mk false false 107 0 (Cs.lit [.v (.int .i64 (Int.ofNat 1)), .v (.int .i64 (Int.negSucc 0))])), some (ABlk.mk true false 25 0 (Cs.lit [.v (.int .i64 (c.nodes)), AC.sl 0 0 0 (c.np) none, AC.sl 1 0 0 (c.ns) none, .v (.int .i64 (c.long)), AC.sl 2 0 0 (c.nb) none, AC.sl 3 0 0 (c.nt) none, .v (.int .i64 (c.miss)), .v (.int .i64 (c.good)), .v (.int .i64 (c.fresh))])), some (ABlk.mk true false 130 0 (Cs.lit [.v (.int .i64 (c.nodes)), AC.sl 41 0 0 (c.np) (some (c.np)), AC.sl 42 0 0 (c.ns) (some (c.ns)), .v (.int .i64 (c.long)), AC.sl 43 0 0 (c.nb) (some (c.nb)), AC.sl 44 0 0 (c.nt) (some (c.nt)), .v (.int .i64 (c.miss)), .v (.int .i64 (c.good)), .v (.int .i64 (c.fresh)), AC.sl 40 0 0 (Int.toNat (c.nodes)) none])), some (ABlk.mk true true 3 1 (Cs.arr (Int.toNat (c.nodes)) fun k => List.map AC.v ((fun i => [Value.int .i64 (pairF c (2 * c.np) i)]) k))), some (ABlk.mk true true 3 1 (Cs.arr (c.np) fun k => List.map AC.v ((fun i => [Value.int .i64 (c.fp i)]) k))), some (ABlk.mk true true 3 1 (Cs.arr (c.ns) fun k => List.map AC.v ((fun i => [Value.int .i64 (c.fs i)]) k))), some (ABlk.mk true true 3 1 (Cs.arr (c.nb) fun k => List.map AC.v ((fun i => [Value.int .i64 (c.fb i)]) k))), some (ABlk.mk true true 47 3 (Cs.arr (c.nt) fun k => List.map AC.v ((fun i => [Value.int .i64 (Station.node (c.ft i)), Value.int .u32 (Station.safe (c.ft i)), Value.int .i64 (Station.hold (c.ft i))]) k))), some (ABlk.mk true true 3 1 (Cs.arr (c.np) fun i_1 => if i_1 = 0 + Int.toNat (pairN c (Int.toNat (c.nodes)) (pairF c (2 * c.np)) (List.headD [Int.ofNat i] (Int.ofNat 0))) then setL ((fun k => List.map AC.v ((fun i => [Value.int .i64 ((fun p => Int.ofNat (f p)) i)]) k)) i_1) 0 [.v (.int .i64 (IntKind.wrap .i64 (Int.ofNat (f (0 + Int.toNat (pairN c (Int.toNat (c.nodes)) (pairF c (2 * c.np)) (List.headD [Int.ofNat i] (Int.ofNat 0))))) + Int.ofNat 1)))] else List.map AC.v ((fun i => [Value.int .i64 ((fun p => Int.ofNat (f p)) i)]) i_1)))], 161, 1080000000000000000000000000000000000000055, [(distF (c.nodes) (Int.ofNat 0) (headN c (Int.toNat (c.nodes)) (pairF c (2 * c.np)) (List.headD [pairN c (Int.toNat (c.nodes)) (pairF c (2 * c.np)) (List.headD [Int.ofNat i] (Int.ofNat 0))] (Int.ofNat 0))) (Int.ofNat i) != Int.ofNat 1) == true, (Int.ofNat i != headN c (Int.toNat (c.nodes)) (pairF c (2 * c.np)) (List.headD [pairN c (Int.toNat (c.nodes)) (pairF c (2 * c.np)) (List.headD [Int.ofNat i] (Int.ofNat 0))] (Int.ofNat 0))) == true, netK c (Int.toNat (c.nodes)) (pairF c (2 * c.np)), true, (distF (c.nodes) (Int.ofNat 0) (headN c (Int.toNat (c.nodes)) (pairF c (2 * c.np)) (List.headD [pairN c (Int.toNat (c.nodes)) (pairF c (2 * c.np)) (List.headD [Int.ofNat i] (Int.ofNat 0))] (Int.ofNat 0))) (Int.ofNat i) != Int.ofNat 0) == false, (Int.ofNat i == headN c (Int.toNat (c.nodes)) (pairF c (2 * c.np)) (List.headD [pairN c (Int.toNat (c.nodes)) (pairF c (2 * c.np)) (List.headD [Int.ofNat i] (Int.ofNat 0))] (Int.ofNat 0))) == true, netK c (Int.toNat (c.nodes)) (pairF c (2 * c.np)), true, true, true, netK c (Int.toNat (c.nodes)) (pairF c (2 * c.np)), true, true, true, ABlk.inb (ABlk.mk true true 3 1 (Cs.arr (c.np) fun k => List.map AC.v ((fun i => [Value.int .i64 ((fun p => Int.ofNat (f p)) i)]) k))) (0 + Int.toNat (pairN c (Int.toNat (c.nodes)) (pairF c (2 * c.np)) (List.headD [Int.ofNat i] (Int.ofNat 0)))) 1, decide (Int.ofNat 0 ≤ pairN c (Int.toNat (c.nodes)) (pairF c (2 * c.np)) (List.headD [Int.ofNat i] (Int.ofNat 0)) ∧ pairN c (Int.toNat (c.nodes)) (pairF c (2 * c.np)) (List.headD [Int.ofNat i] (Int.ofNat 0)) < ↑(c.np)), ABlk.inb (ABlk.mk true true 3 1 (Cs.arr (c.np) fun k => List.map AC.v ((fun i => [Value.int .i64 ((fun p => Int.ofNat (f p)) i)]) k))) (0 + Int.toNat (pairN c (Int.toNat (c.nodes)) (pairF c (2 * c.np)) (List.headD [Int.ofNat i] (Int.ofNat 0)))) 1, true, decide (Int.ofNat 0 ≤ pairN c (Int.toNat (c.nodes)) (pairF c (2 * c.np)) (List.headD [Int.ofNat i] (Int.ofNat 0)) ∧ pairN c (Int.toNat (c.nodes)) (pairF c (2 * c.np)) (List.headD [Int.ofNat i] (Int.ofNat 0)) < ↑(c.np)), (pairN c (Int.toNat (c.nodes)) (pairF c (2 * c.np)) (List.headD [partnerN c (Int.toNat (c.nodes)) (pairF c (2 * c.np)) (List.headD [Int.ofNat i] (Int.ofNat 0))] (Int.ofNat 0)) != pairN c (Int.toNat (c.nodes)) (pairF c (2 * c.np)) (List.headD [Int.ofNat i] (Int.ofNat 0))) == false, netK c (Int.toNat (c.nodes)) (pairF c (2 * c.np)), true, (partnerN c (Int.toNat (c.nodes)) (pairF c (2 * c.np)) (List.headD [partnerN c (Int.toNat (c.nodes)) (pairF c (2 * c.np)) (List.headD [Int.ofNat i] (Int.ofNat 0))] (Int.ofNat 0)) != Int.ofNat i) == false, netK c (Int.toNat (c.nodes)) (pairF c (2 * c.np)), true, decide (pairN c (Int.toNat (c.nodes)) (pairF c (2 * c.np)) (List.headD [Int.ofNat i] (Int.ofNat 0)) ≥ ↑(c.np)) == false, true, decide (pairN c (Int.toNat (c.nodes)) (pairF c (2 * c.np)) (List.headD [Int.ofNat i] (Int.ofNat 0)) < Int.ofNat 0) == false, netK c (Int.toNat (c.nodes)) (pairF c (2 * c.np)), true, netK c (Int.toNat (c.nodes)) (pairF c (2 * c.np)), true, decide (Int.ofNat i < c.nodes) == true, true, true], [])) ∧ ((distF (c.nodes) (Int.ofNat 0) (headN c (Int.toNat (c.nodes)) (pairF c (2 * c.np)) (List.headD [pairN c (Int.toNat (c.nodes)) (pairF c (2 * c.np)) (List.headD [Int.ofNat i] (Int.ofNat 0))] (Int.ofNat 0))) (Int.ofNat i) != Int.ofNat 1) = false → Q (Exit.normal, [some (lkA (List.zip [1, 2, 5, 7, 8] (hvV c s i)) (0 + 1)), some (lkA (List.zip [1, 2, 5, 7, 8] (hvV c s i)) (0 + 1 + 1)), some (lkA (List.zip [1, 2, 5, 7, 8] (hvV c s i)) (0 + 1 + 1 + 1 + 1 + 1)), some (lkA (List.zip [1, 2, 5, 7, 8] (hvV c s i)) (0 + 1 + 1 + 1 + 1 + 1 + 1 + 1)), some (.c (.v (.int .i64 (IntKind.wrap .i64 (Int.ofNat i + Int.ofNat 1)))))], [some (ABlk.mk false false 107 0 (Cs.lit [.v (.int .i64 (Int.ofNat 1)), .v (.int .i64 (Int.negSucc 0))])), some (ABlk.mk true false 25 0 (Cs.lit [.v (.int .i64 (c.nodes)), AC.sl 0 0 0 (c.np) none, AC.sl 1 0 0 (c.ns) none, .v (.int .i64 (c.long)), AC.sl 2 0 0 (c.nb) none, AC.sl 3 0 0 (c.nt) none, .v (.int .i64 (c.miss)), .v (.int .i64 (c.good)), .v (.int .i64 (c.fresh))])), some (ABlk.mk true false 130 0 (Cs.lit [.v (.int .i64 (c.nodes)), AC.sl 41 0 0 (c.np) (some (c.np)), AC.sl 42 0 0 (c.ns) (some (c.ns)), .v (.int .i64 (c.long)), AC.sl 43 0 0 (c.nb) (some (c.nb)), AC.sl 44 0 0 (c.nt) (some (c.nt)), .v (.int .i64 (c.miss)), .v (.int .i64 (c.good)), .v (.int .i64 (c.fresh)), AC.sl 40 0 0 (Int.toNat (c.nodes)) none])), some (ABlk.mk true true 3 1 (Cs.arr (Int.toNat (c.nodes)) fun k => List.map AC.v ((fun i => [Value.int .i64 (pairF c (2 * c.np) i)]) k))), some (ABlk.mk true true 3 1 (Cs.arr (c.np) fun k => List.map AC.v ((fun i => [Value.int .i64 (c.fp i)]) k))), some (ABlk.mk true true 3 1 (Cs.arr (c.ns) fun k => List.map AC.v ((fun i => [Value.int .i64 (c.fs i)]) k))), some (ABlk.mk true true 3 1 (Cs.arr (c.nb) fun k => List.map AC.v ((fun i => [Value.int .i64 (c.fb i)]) k))), some (ABlk.mk true true 47 3 (Cs.arr (c.nt) fun k => List.map AC.v ((fun i => [Value.int .i64 (Station.node (c.ft i)), Value.int .u32 (Station.safe (c.ft i)), Value.int .i64 (Station.hold (c.ft i))]) k))), some (ABlk.mk true true 3 1 (Cs.arr (c.np) fun i_1 => if i_1 = 0 + Int.toNat (pairN c (Int.toNat (c.nodes)) (pairF c (2 * c.np)) (List.headD [Int.ofNat i] (Int.ofNat 0))) then setL ((fun k => List.map AC.v ((fun i => [Value.int .i64 ((fun p => Int.ofNat (f p)) i)]) k)) i_1) 0 [.v (.int .i64 (IntKind.wrap .i64 (Int.ofNat (f (0 + Int.toNat (pairN c (Int.toNat (c.nodes)) (pairF c (2 * c.np)) (List.headD [Int.ofNat i] (Int.ofNat 0))))) + Int.ofNat 1)))] else List.map AC.v ((fun i => [Value.int .i64 ((fun p => Int.ofNat (f p)) i)]) i_1)))], 161, 1080000000000000000000000000000000000000057, [(distF (c.nodes) (Int.ofNat 0) (headN c (Int.toNat (c.nodes)) (pairF c (2 * c.np)) (List.headD [pairN c (Int.toNat (c.nodes)) (pairF c (2 * c.np)) (List.headD [Int.ofNat i] (Int.ofNat 0))] (Int.ofNat 0))) (Int.ofNat i) != Int.ofNat 1) == false, (Int.ofNat i != headN c (Int.toNat (c.nodes)) (pairF c (2 * c.np)) (List.headD [pairN c (Int.toNat (c.nodes)) (pairF c (2 * c.np)) (List.headD [Int.ofNat i] (Int.ofNat 0))] (Int.ofNat 0))) == true, netK c (Int.toNat (c.nodes)) (pairF c (2 * c.np)), true, (distF (c.nodes) (Int.ofNat 0) (headN c (Int.toNat (c.nodes)) (pairF c (2 * c.np)) (List.headD [pairN c (Int.toNat (c.nodes)) (pairF c (2 * c.np)) (List.headD [Int.ofNat i] (Int.ofNat 0))] (Int.ofNat 0))) (Int.ofNat i) != Int.ofNat 0) == false, (Int.ofNat i == headN c (Int.toNat (c.nodes)) (pairF c (2 * c.np)) (List.headD [pairN c (Int.toNat (c.nodes)) (pairF c (2 * c.np)) (List.headD [Int.ofNat i] (Int.ofNat 0))] (Int.ofNat 0))) == true, netK c (Int.toNat (c.nodes)) (pairF c (2 * c.np)), true, true, true, netK c (Int.toNat (c.nodes)) (pairF c (2 * c.np)), true, true, true, ABlk.inb (ABlk.mk true true 3 1 (Cs.arr (c.np) fun k => List.map AC.v ((fun i => [Value.int .i64 ((fun p => Int.ofNat (f p)) i)]) k))) (0 + Int.toNat (pairN c (Int.toNat (c.nodes)) (pairF c (2 * c.np)) (List.headD [Int.ofNat i] (Int.ofNat 0)))) 1, decide (Int.ofNat 0 ≤ pairN c (Int.toNat (c.nodes)) (pairF c (2 * c.np)) (List.headD [Int.ofNat i] (Int.ofNat 0)) ∧ pairN c (Int.toNat (c.nodes)) (pairF c (2 * c.np)) (List.headD [Int.ofNat i] (Int.ofNat 0)) < ↑(c.np)), ABlk.inb (ABlk.mk true true 3 1 (Cs.arr (c.np) fun k => List.map AC.v ((fun i => [Value.int .i64 ((fun p => Int.ofNat (f p)) i)]) k))) (0 + Int.toNat (pairN c (Int.toNat (c.nodes)) (pairF c (2 * c.np)) (List.headD [Int.ofNat i] (Int.ofNat 0)))) 1, true, decide (Int.ofNat 0 ≤ pairN c (Int.toNat (c.nodes)) (pairF c (2 * c.np)) (List.headD [Int.ofNat i] (Int.ofNat 0)) ∧ pairN c (Int.toNat (c.nodes)) (pairF c (2 * c.np)) (List.headD [Int.ofNat i] (Int.ofNat 0)) < ↑(c.np)), (pairN c (Int.toNat (c.nodes)) (pairF c (2 * c.np)) (List.headD [partnerN c (Int.toNat (c.nodes)) (pairF c (2 * c.np)) (List.headD [Int.ofNat i] (Int.ofNat 0))] (Int.ofNat 0)) != pairN c (Int.toNat (c.nodes)) (pairF c (2 * c.np)) (List.headD [Int.ofNat i] (Int.ofNat 0))) == false, netK c (Int.toNat (c.nodes)) (pairF c (2 * c.np)), true, (partnerN c (Int.toNat (c.nodes)) (pairF c (2 * c.np)) (List.headD [partnerN c (Int.toNat (c.nodes)) (pairF c (2 * c.np)) (List.headD [Int.ofNat i] (Int.ofNat 0))] (Int.ofNat 0)) != Int.ofNat i) == false, netK c (Int.toNat (c.nodes)) (pairF c (2 * c.np)), true, decide (pairN c (Int.toNat (c.nodes)) (pairF c (2 * c.np)) (List.headD [Int.ofNat i] (Int.ofNat 0)) ≥ ↑(c.np)) == false, true, decide (pairN c (Int.toNat (c.nodes)) (pairF c (2 * c.np)) (List.headD [Int.ofNat i] (Int.ofNat 0)) < Int.ofNat 0) == false, netK c (Int.toNat (c.nodes)) (pairF c (2 * c.np)), true, netK c (Int.toNat (c.nodes)) (pairF c (2 * c.np)), true, decide (Int.ofNat i < c.nodes) == true, true, true], [])))) ∧ ((Int.ofNat i != headN c (Int.toNat (c.nodes)) (pairF c (2 * c.np)) (List.headD [pairN c (Int.toNat (c.nodes)) (pairF c (2 * c.np)) (List.headD [Int.ofNat i] (Int.ofNat 0))] (Int.ofNat 0))) = false → Q (Exit.normal, [some (lkA (List.zip [1, 2, 5, 7, 8] (hvV c s i)) (0 + 1)), some (lkA (List.zip [1, 2, 5, 7, 8] (hvV c s i)) (0 + 1 + 1)), some (lkA (List.zip [1, 2, 5, 7, 8] (hvV c s i)) (0 + 1 + 1 + 1 + 1 + 1)), some (lkA (List.zip [1, 2, 5, 7, 8] (hvV c s i)) (0 + 1 + 1 + 1 + 1 + 1 + 1 + 1)), some (.c (.v (.int .i64 (IntKind.wrap .i64 (Int.ofNat i + Int.ofNat 1)))))], [some (ABlk.mk false false 107 0 (Cs.lit [.v (.int .i64 (Int.ofNat 1)), .v (.int .i64 (Int.negSucc 0))])), some (ABlk.mk true false 25 0 (Cs.lit [.v (.int .i64 (c.nodes)), AC.sl 0 0 0 (c.np) none, AC.sl 1 0 0 (c.ns) none, .v (.int .i64 (c.long)), AC.sl 2 0 0 (c.nb) none, AC.sl 3 0 0 (c.nt) none, .v (.int .i64 (c.miss)), .v (.int .i64 (c.good)), .v (.int .i64 (c.fresh))])), some (ABlk.mk true false 130 0 (Cs.lit [.v (.int .i64 (c.nodes)), AC.sl 41 0 0 (c.np) (some (c.np)), AC.sl 42 0 0 (c.ns) (some (c.ns)), .v (.int .i64 (c.long)), AC.sl 43 0 0 (c.nb) (some (c.nb)), AC.sl 44 0 0 (c.nt) (some (c.nt)), .v (.int .i64 (c.miss)), .v (.int .i64 (c.good)), .v (.int .i64 (c.fresh)), AC.sl 40 0 0 (Int.toNat (c.nodes)) none])), some (ABlk.mk true true 3 1 (Cs.arr (Int.toNat (c.nodes)) fun k => List.map AC.v ((fun i => [Value.int .i64 (pairF c (2 * c.np) i)]) k))), some (ABlk.mk true true 3 1 (Cs.arr (c.np) fun k => List.map AC.v ((fun i => [Value.int .i64 (c.fp i)]) k))), some (ABlk.mk true true 3 1 (Cs.arr (c.ns) fun k => List.map AC.v ((fun i => [Value.int .i64 (c.fs i)]) k))), some (ABlk.mk true true 3 1 (Cs.arr (c.nb) fun k => List.map AC.v ((fun i => [Value.int .i64 (c.fb i)]) k))), some (ABlk.mk true true 47 3 (Cs.arr (c.nt) fun k => List.map AC.v ((fun i => [Value.int .i64 (Station.node (c.ft i)), Value.int .u32 (Station.safe (c.ft i)), Value.int .i64 (Station.hold (c.ft i))]) k))), some (ABlk.mk true true 3 1 (Cs.arr (c.np) fun i_1 => if i_1 = 0 + Int.toNat (pairN c (Int.toNat (c.nodes)) (pairF c (2 * c.np)) (List.headD [Int.ofNat i] (Int.ofNat 0))) then setL ((fun k => List.map AC.v ((fun i => [Value.int .i64 ((fun p => Int.ofNat (f p)) i)]) k)) i_1) 0 [.v (.int .i64 (IntKind.wrap .i64 (Int.ofNat (f (0 + Int.toNat (pairN c (Int.toNat (c.nodes)) (pairF c (2 * c.np)) (List.headD [Int.ofNat i] (Int.ofNat 0))))) + Int.ofNat 1)))] else List.map AC.v ((fun i => [Value.int .i64 ((fun p => Int.ofNat (f p)) i)]) i_1)))], 161, 1080000000000000000000000000000000000000055, [(Int.ofNat i != headN c (Int.toNat (c.nodes)) (pairF c (2 * c.np)) (List.headD [pairN c (Int.toNat (c.nodes)) (pairF c (2 * c.np)) (List.headD [Int.ofNat i] (Int.ofNat 0))] (Int.ofNat 0))) == false, netK c (Int.toNat (c.nodes)) (pairF c (2 * c.np)), true, (distF (c.nodes) (Int.ofNat 0) (headN c (Int.toNat (c.nodes)) (pairF c (2 * c.np)) (List.headD [pairN c (Int.toNat (c.nodes)) (pairF c (2 * c.np)) (List.headD [Int.ofNat i] (Int.ofNat 0))] (Int.ofNat 0))) (Int.ofNat i) != Int.ofNat 0) == false, (Int.ofNat i == headN c (Int.toNat (c.nodes)) (pairF c (2 * c.np)) (List.headD [pairN c (Int.toNat (c.nodes)) (pairF c (2 * c.np)) (List.headD [Int.ofNat i] (Int.ofNat 0))] (Int.ofNat 0))) == true, netK c (Int.toNat (c.nodes)) (pairF c (2 * c.np)), true, true, true, netK c (Int.toNat (c.nodes)) (pairF c (2 * c.np)), true, true, true, ABlk.inb (ABlk.mk true true 3 1 (Cs.arr (c.np) fun k => List.map AC.v ((fun i => [Value.int .i64 ((fun p => Int.ofNat (f p)) i)]) k))) (0 + Int.toNat (pairN c (Int.toNat (c.nodes)) (pairF c (2 * c.np)) (List.headD [Int.ofNat i] (Int.ofNat 0)))) 1, decide (Int.ofNat 0 ≤ pairN c (Int.toNat (c.nodes)) (pairF c (2 * c.np)) (List.headD [Int.ofNat i] (Int.ofNat 0)) ∧ pairN c (Int.toNat (c.nodes)) (pairF c (2 * c.np)) (List.headD [Int.ofNat i] (Int.ofNat 0)) < ↑(c.np)), ABlk.inb (ABlk.mk true true 3 1 (Cs.arr (c.np) fun k => List.map AC.v ((fun i => [Value.int .i64 ((fun p => Int.ofNat (f p)) i)]) k))) (0 + Int.toNat (pairN c (Int.toNat (c.nodes)) (pairF c (2 * c.np)) (List.headD [Int.ofNat i] (Int.ofNat 0)))) 1, true, decide (Int.ofNat 0 ≤ pairN c (Int.toNat (c.nodes)) (pairF c (2 * c.np)) (List.headD [Int.ofNat i] (Int.ofNat 0)) ∧ pairN c (Int.toNat (c.nodes)) (pairF c (2 * c.np)) (List.headD [Int.ofNat i] (Int.ofNat 0)) < ↑(c.np)), (pairN c (Int.toNat (c.nodes)) (pairF c (2 * c.np)) (List.headD [partnerN c (Int.toNat (c.nodes)) (pairF c (2 * c.np)) (List.headD [Int.ofNat i] (Int.ofNat 0))] (Int.ofNat 0)) != pairN c (Int.toNat (c.nodes)) (pairF c (2 * c.np)) (List.headD [Int.ofNat i] (Int.ofNat 0))) == false, netK c (Int.toNat (c.nodes)) (pairF c (2 * c.np)), true, (partnerN c (Int.toNat (c.nodes)) (pairF c (2 * c.np)) (List.headD [partnerN c (Int.toNat (c.nodes)) (pairF c (2 * c.np)) (List.headD [Int.ofNat i] (Int.ofNat 0))] (Int.ofNat 0)) != Int.ofNat i) == false, netK c (Int.toNat (c.nodes)) (pairF c (2 * c.np)), true, decide (pairN c (Int.toNat (c.nodes)) (pairF c (2 * c.np)) (List.headD [Int.ofNat i] (Int.ofNat 0)) ≥ ↑(c.np)) == false, true, decide (pairN c (Int.toNat (c.nodes)) (pairF c (2 * c.np)) (List.headD [Int.ofNat i] (Int.ofNat 0)) < Int.ofNat 0) == false, netK c (Int.toNat (c.nodes)) (pairF c (2 * c.np)), true, netK c (Int.toNat (c.nodes)) (pairF c (2 * c.np)), true, decide (Int.ofNat i < c.nodes) == true, true, true], [])))))) ∧ ((Int.ofNat i == headN c (Int.toNat (c.nodes)) (pairF c (2 * c.np)) (List.headD [pairN c (Int.toNat (c.nodes)) (pairF c (2 * c.np)) (List.headD [Int.ofNat i] (Int.ofNat 0))] (Int.ofNat 0))) = false → (((Int.ofNat i != headN c (Int.toNat (c.nodes)) (pairF c (2 * c.np)) (List.headD [pairN c (Int.toNat (c.nodes)) (pairF c (2 * c.np)) (List.headD [Int.ofNat i] (Int.ofNat 0))] (Int.ofNat 0))) = true → (((distF (c.nodes) (Int.ofNat 0) (headN c (Int.toNat (c.nodes)) (pairF c (2 * c.np)) (List.headD [pairN c (Int.toNat (c.nodes)) (pairF c (2 * c.np)) (List.headD [Int.ofNat i] (Int.ofNat 0))] (Int.ofNat 0))) (Int.ofNat i) != Int.ofNat 1) = true → Q (Exit.ret, [some (lkA (List.zip [1, 2, 5, 7, 8] (hvV c s i)) (0 + 1)), some (lkA (List.zip [1, 2, 5, 7, 8] (hvV c s i)) (0 + 1 + 1)), some (lkA (List.zip [1, 2, 5, 7, 8] (hvV c s i)) (0 + 1 + 1 + 1 + 1 + 1)), some (lkA (List.zip [1, 2, 5, 7, 8] (hvV c s i)) (0 + 1 + 1 + 1 + 1 + 1 + 1 + 1)), some (lkA (List.zip [1, 2, 5, 7, 8] (hvV c s i)) (0 + 1 + 1 + 1 + 1 + 1 + 1 + 1 + 1))], [some (ABlk.mk false false 107 0 (Cs.lit [.v (.int .i64 (Int.ofNat 1)), .v (.int .i64 (Int.negSucc 0))])), some (ABlk.mk true false 25 0 (Cs.lit [.v (.int .i64 (c.nodes)), AC.sl 0 0 0 (c.np) none, AC.sl 1 0 0 (c.ns) none, .v (.int .i64 (c.long)), AC.sl 2 0 0 (c.nb) none, AC.sl 3 0 0 (c.nt) none, .v (.int .i64 (c.miss)), .v (.int .i64 (c.good)), .v (.int .i64 (c.fresh))])), some (ABlk.mk true false 130 0 (Cs.lit [.v (.int .i64 (c.nodes)), AC.sl 41 0 0 (c.np) (some (c.np)), AC.sl 42 0 0 (c.ns) (some (c.ns)), .v (.int .i64 (c.long)), AC.sl 43 0 0 (c.nb) (some (c.nb)), AC.sl 44 0 0 (c.nt) (some (c.nt)), .v (.int .i64 (c.miss)), .v (.int .i64 (c.good)), .v (.int .i64 (c.fresh)), AC.sl 40 0 0 (Int.toNat (c.nodes)) none])), some (ABlk.mk true true 3 1 (Cs.arr (Int.toNat (c.nodes)) fun k => List.map AC.v ((fun i => [Value.int .i64 (pairF c (2 * c.np) i)]) k))), some (ABlk.mk true true 3 1 (Cs.arr (c.np) fun k => List.map AC.v ((fun i => [Value.int .i64 (c.fp i)]) k))), some (ABlk.mk true true 3 1 (Cs.arr (c.ns) fun k => List.map AC.v ((fun i => [Value.int .i64 (c.fs i)]) k))), some (ABlk.mk true true 3 1 (Cs.arr (c.nb) fun k => List.map AC.v ((fun i => [Value.int .i64 (c.fb i)]) k))), some (ABlk.mk true true 47 3 (Cs.arr (c.nt) fun k => List.map AC.v ((fun i => [Value.int .i64 (Station.node (c.ft i)), Value.int .u32 (Station.safe (c.ft i)), Value.int .i64 (Station.hold (c.ft i))]) k))), some (ABlk.mk true true 3 1 (Cs.arr (c.np) fun i_1 => if i_1 = 0 + Int.toNat (pairN c (Int.toNat (c.nodes)) (pairF c (2 * c.np)) (List.headD [Int.ofNat i] (Int.ofNat 0))) then setL ((fun k => List.map AC.v ((fun i => [Value.int .i64 ((fun p => Int.ofNat (f p)) i)]) k)) i_1) 0 [.v (.int .i64 (IntKind.wrap .i64 (Int.ofNat (f (0 + Int.toNat (pairN c (Int.toNat (c.nodes)) (pairF c (2 * c.np)) (List.headD [Int.ofNat i] (Int.ofNat 0))))) + Int.ofNat 1)))] else List.map AC.v ((fun i => [Value.int .i64 ((fun p => Int.ofNat (f p)) i)]) i_1)))], 161, 1080000000000000000000000000000000000000053, [(distF (c.nodes) (Int.ofNat 0) (headN c (Int.toNat (c.nodes)) (pairF c (2 * c.np)) (List.headD [pairN c (Int.toNat (c.nodes)) (pairF c (2 * c.np)) (List.headD [Int.ofNat i] (Int.ofNat 0))] (Int.ofNat 0))) (Int.ofNat i) != Int.ofNat 1) == true, (Int.ofNat i != headN c (Int.toNat (c.nodes)) (pairF c (2 * c.np)) (List.headD [pairN c (Int.toNat (c.nodes)) (pairF c (2 * c.np)) (List.headD [Int.ofNat i] (Int.ofNat 0))] (Int.ofNat 0))) == true, netK c (Int.toNat (c.nodes)) (pairF c (2 * c.np)), true, (Int.ofNat i == headN c (Int.toNat (c.nodes)) (pairF c (2 * c.np)) (List.headD [pairN c (Int.toNat (c.nodes)) (pairF c (2 * c.np)) (List.headD [Int.ofNat i] (Int.ofNat 0))] (Int.ofNat 0))) == false, netK c (Int.toNat (c.nodes)) (pairF c (2 * c.np)), true, true, true, netK c (Int.toNat (c.nodes)) (pairF c (2 * c.np)), true, true, true, ABlk.inb (ABlk.mk true true 3 1 (Cs.arr (c.np) fun k => List.map AC.v ((fun i => [Value.int .i64 ((fun p => Int.ofNat (f p)) i)]) k))) (0 + Int.toNat (pairN c (Int.toNat (c.nodes)) (pairF c (2 * c.np)) (List.headD [Int.ofNat i] (Int.ofNat 0)))) 1, decide (Int.ofNat 0 ≤ pairN c (Int.toNat (c.nodes)) (pairF c (2 * c.np)) (List.headD [Int.ofNat i] (Int.ofNat 0)) ∧ pairN c (Int.toNat (c.nodes)) (pairF c (2 * c.np)) (List.headD [Int.ofNat i] (Int.ofNat 0)) < ↑(c.np)), ABlk.inb (ABlk.mk true true 3 1 (Cs.arr (c.np) fun k => List.map AC.v ((fun i => [Value.int .i64 ((fun p => Int.ofNat (f p)) i)]) k))) (0 + Int.toNat (pairN c (Int.toNat (c.nodes)) (pairF c (2 * c.np)) (List.headD [Int.ofNat i] (Int.ofNat 0)))) 1, true, decide (Int.ofNat 0 ≤ pairN c (Int.toNat (c.nodes)) (pairF c (2 * c.np)) (List.headD [Int.ofNat i] (Int.ofNat 0)) ∧ pairN c (Int.toNat (c.nodes)) (pairF c (2 * c.np)) (List.headD [Int.ofNat i] (Int.ofNat 0)) < ↑(c.np)), (pairN c (Int.toNat (c.nodes)) (pairF c (2 * c.np)) (List.headD [partnerN c (Int.toNat (c.nodes)) (pairF c (2 * c.np)) (List.headD [Int.ofNat i] (Int.ofNat 0))] (Int.ofNat 0)) != pairN c (Int.toNat (c.nodes)) (pairF c (2 * c.np)) (List.headD [Int.ofNat i] (Int.ofNat 0))) == false, netK c (Int.toNat (c.nodes)) (pairF c (2 * c.np)), true, (partnerN c (Int.toNat (c.nodes)) (pairF c (2 * c.np)) (List.headD [partnerN c (Int.toNat (c.nodes)) (pairF c (2 * c.np)) (List.headD [Int.ofNat i] (Int.ofNat 0))] (Int.ofNat 0)) != Int.ofNat i) == false, netK c (Int.toNat (c.nodes)) (pairF c (2 * c.np)), true, decide (pairN c (Int.toNat (c.nodes)) (pairF c (2 * c.np)) (List.headD [Int.ofNat i] (Int.ofNat 0)) ≥ ↑(c.np)) == false, true, decide (pairN c (Int.toNat (c.nodes)) (pairF c (2 * c.np)) (List.headD [Int.ofNat i] (Int.ofNat 0)) < Int.ofNat 0) == false, netK c (Int.toNat (c.nodes)) (pairF c (2 * c.np)), true, netK c (Int.toNat (c.nodes)) (pairF c (2 * c.np)), true, decide (Int.ofNat i < c.nodes) == true, true, true], [])) ∧ ((distF (c.nodes) (Int.ofNat 0) (headN c (Int.toNat (c.nodes)) (pairF c (2 * c.np)) (List.headD [pairN c (Int.toNat (c.nodes)) (pairF c (2 * c.np)) (List.headD [Int.ofNat i] (Int.ofNat 0))] (Int.ofNat 0))) (Int.ofNat i) != Int.ofNat 1) = false → Q (Exit.normal, [some (lkA (List.zip [1, 2, 5, 7, 8] (hvV c s i)) (0 + 1)), some (lkA (List.zip [1, 2, 5, 7, 8] (hvV c s i)) (0 + 1 + 1)), some (lkA (List.zip [1, 2, 5, 7, 8] (hvV c s i)) (0 + 1 + 1 + 1 + 1 + 1)), some (lkA (List.zip [1, 2, 5, 7, 8] (hvV c s i)) (0 + 1 + 1 + 1 + 1 + 1 + 1 + 1)), some (.c (.v (.int .i64 (IntKind.wrap .i64 (Int.ofNat i + Int.ofNat 1)))))], [some (ABlk.mk false false 107 0 (Cs.lit [.v (.int .i64 (Int.ofNat 1)), .v (.int .i64 (Int.negSucc 0))])), some (ABlk.mk true false 25 0 (Cs.lit [.v (.int .i64 (c.nodes)), AC.sl 0 0 0 (c.np) none, AC.sl 1 0 0 (c.ns) none, .v (.int .i64 (c.long)), AC.sl 2 0 0 (c.nb) none, AC.sl 3 0 0 (c.nt) none, .v (.int .i64 (c.miss)), .v (.int .i64 (c.good)), .v (.int .i64 (c.fresh))])), some (ABlk.mk true false 130 0 (Cs.lit [.v (.int .i64 (c.nodes)), AC.sl 41 0 0 (c.np) (some (c.np)), AC.sl 42 0 0 (c.ns) (some (c.ns)), .v (.int .i64 (c.long)), AC.sl 43 0 0 (c.nb) (some (c.nb)), AC.sl 44 0 0 (c.nt) (some (c.nt)), .v (.int .i64 (c.miss)), .v (.int .i64 (c.good)), .v (.int .i64 (c.fresh)), AC.sl 40 0 0 (Int.toNat (c.nodes)) none])), some (ABlk.mk true true 3 1 (Cs.arr (Int.toNat (c.nodes)) fun k => List.map AC.v ((fun i => [Value.int .i64 (pairF c (2 * c.np) i)]) k))), some (ABlk.mk true true 3 1 (Cs.arr (c.np) fun k => List.map AC.v ((fun i => [Value.int .i64 (c.fp i)]) k))), some (ABlk.mk true true 3 1 (Cs.arr (c.ns) fun k => List.map AC.v ((fun i => [Value.int .i64 (c.fs i)]) k))), some (ABlk.mk true true 3 1 (Cs.arr (c.nb) fun k => List.map AC.v ((fun i => [Value.int .i64 (c.fb i)]) k))), some (ABlk.mk true true 47 3 (Cs.arr (c.nt) fun k => List.map AC.v ((fun i => [Value.int .i64 (Station.node (c.ft i)), Value.int .u32 (Station.safe (c.ft i)), Value.int .i64 (Station.hold (c.ft i))]) k))), some (ABlk.mk true true 3 1 (Cs.arr (c.np) fun i_1 => if i_1 = 0 + Int.toNat (pairN c (Int.toNat (c.nodes)) (pairF c (2 * c.np)) (List.headD [Int.ofNat i] (Int.ofNat 0))) then setL ((fun k => List.map AC.v ((fun i => [Value.int .i64 ((fun p => Int.ofNat (f p)) i)]) k)) i_1) 0 [.v (.int .i64 (IntKind.wrap .i64 (Int.ofNat (f (0 + Int.toNat (pairN c (Int.toNat (c.nodes)) (pairF c (2 * c.np)) (List.headD [Int.ofNat i] (Int.ofNat 0))))) + Int.ofNat 1)))] else List.map AC.v ((fun i => [Value.int .i64 ((fun p => Int.ofNat (f p)) i)]) i_1)))], 161, 1080000000000000000000000000000000000000055, [(distF (c.nodes) (Int.ofNat 0) (headN c (Int.toNat (c.nodes)) (pairF c (2 * c.np)) (List.headD [pairN c (Int.toNat (c.nodes)) (pairF c (2 * c.np)) (List.headD [Int.ofNat i] (Int.ofNat 0))] (Int.ofNat 0))) (Int.ofNat i) != Int.ofNat 1) == false, (Int.ofNat i != headN c (Int.toNat (c.nodes)) (pairF c (2 * c.np)) (List.headD [pairN c (Int.toNat (c.nodes)) (pairF c (2 * c.np)) (List.headD [Int.ofNat i] (Int.ofNat 0))] (Int.ofNat 0))) == true, netK c (Int.toNat (c.nodes)) (pairF c (2 * c.np)), true, (Int.ofNat i == headN c (Int.toNat (c.nodes)) (pairF c (2 * c.np)) (List.headD [pairN c (Int.toNat (c.nodes)) (pairF c (2 * c.np)) (List.headD [Int.ofNat i] (Int.ofNat 0))] (Int.ofNat 0))) == false, netK c (Int.toNat (c.nodes)) (pairF c (2 * c.np)), true, true, true, netK c (Int.toNat (c.nodes)) (pairF c (2 * c.np)), true, true, true, ABlk.inb (ABlk.mk true true 3 1 (Cs.arr (c.np) fun k => List.map AC.v ((fun i => [Value.int .i64 ((fun p => Int.ofNat (f p)) i)]) k))) (0 + Int.toNat (pairN c (Int.toNat (c.nodes)) (pairF c (2 * c.np)) (List.headD [Int.ofNat i] (Int.ofNat 0)))) 1, decide (Int.ofNat 0 ≤ pairN c (Int.toNat (c.nodes)) (pairF c (2 * c.np)) (List.headD [Int.ofNat i] (Int.ofNat 0)) ∧ pairN c (Int.toNat (c.nodes)) (pairF c (2 * c.np)) (List.headD [Int.ofNat i] (Int.ofNat 0)) < ↑(c.np)), ABlk.inb (ABlk.mk true true 3 1 (Cs.arr (c.np) fun k => List.map AC.v ((fun i => [Value.int .i64 ((fun p => Int.ofNat (f p)) i)]) k))) (0 + Int.toNat (pairN c (Int.toNat (c.nodes)) (pairF c (2 * c.np)) (List.headD [Int.ofNat i] (Int.ofNat 0)))) 1, true, decide (Int.ofNat 0 ≤ pairN c (Int.toNat (c.nodes)) (pairF c (2 * c.np)) (List.headD [Int.ofNat i] (Int.ofNat 0)) ∧ pairN c (Int.toNat (c.nodes)) (pairF c (2 * c.np)) (List.headD [Int.ofNat i] (Int.ofNat 0)) < ↑(c.np)), (pairN c (Int.toNat (c.nodes)) (pairF c (2 * c.np)) (List.headD [partnerN c (Int.toNat (c.nodes)) (pairF c (2 * c.np)) (List.headD [Int.ofNat i] (Int.ofNat 0))] (Int.ofNat 0)) != pairN c (Int.toNat (c.nodes)) (pairF c (2 * c.np)) (List.headD [Int.ofNat i] (Int.ofNat 0))) == false, netK c (Int.toNat (c.nodes)) (pairF c (2 * c.np)), true, (partnerN c (Int.toNat (c.nodes)) (pairF c (2 * c.np)) (List.headD [partnerN c (Int.toNat (c.nodes)) (pairF c (2 * c.np)) (List.headD [Int.ofNat i] (Int.ofNat 0))] (Int.ofNat 0)) != Int.ofNat i) == false, netK c (Int.toNat (c.nodes)) (pairF c (2 * c.np)), true, decide (pairN c (Int.toNat (c.nodes)) (pairF c (2 * c.np)) (List.headD [Int.ofNat i] (Int.ofNat 0)) ≥ ↑(c.np)) == false, true, decide (pairN c (Int.toNat (c.nodes)) (pairF c (2 * c.np)) (List.headD [Int.ofNat i] (Int.ofNat 0)) < Int.ofNat 0) == false, netK c (Int.toNat (c.nodes)) (pairF c (2 * c.np)), true, netK c (Int.toNat (c.nodes)) (pairF c (2 * c.np)), true, decide (Int.ofNat i < c.nodes) == true, true, true], [])))) ∧ ((Int.ofNat i != headN c (Int.toNat (c.nodes)) (pairF c (2 * c.np)) (List.headD [pairN c (Int.toNat (c.nodes)) (pairF c (2 * c.np)) (List.headD [Int.ofNat i] (Int.ofNat 0))] (Int.ofNat 0))) = false → Q (Exit.normal, [some (lkA (List.zip [1, 2, 5, 7, 8] (hvV c s i)) (0 + 1)), some (lkA (List.zip [1, 2, 5, 7, 8] (hvV c s i)) (0 + 1 + 1)), some (lkA (List.zip [1, 2, 5, 7, 8] (hvV c s i)) (0 + 1 + 1 + 1 + 1 + 1)), some (lkA (List.zip [1, 2, 5, 7, 8] (hvV c s i)) (0 + 1 + 1 + 1 + 1 + 1 + 1 + 1)), some (.c (.v (.int .i64 (IntKind.wrap .i64 (Int.ofNat i + Int.ofNat 1)))))], [some (ABlk.mk false false 107 0 (Cs.lit [.v (.int .i64 (Int.ofNat 1)), .v (.int .i64 (Int.negSucc 0))])), some (ABlk.mk true false 25 0 (Cs.lit [.v (.int .i64 (c.nodes)), AC.sl 0 0 0 (c.np) none, AC.sl 1 0 0 (c.ns) none, .v (.int .i64 (c.long)), AC.sl 2 0 0 (c.nb) none, AC.sl 3 0 0 (c.nt) none, .v (.int .i64 (c.miss)), .v (.int .i64 (c.good)), .v (.int .i64 (c.fresh))])), some (ABlk.mk true false 130 0 (Cs.lit [.v (.int .i64 (c.nodes)), AC.sl 41 0 0 (c.np) (some (c.np)), AC.sl 42 0 0 (c.ns) (some (c.ns)), .v (.int .i64 (c.long)), AC.sl 43 0 0 (c.nb) (some (c.nb)), AC.sl 44 0 0 (c.nt) (some (c.nt)), .v (.int .i64 (c.miss)), .v (.int .i64 (c.good)), .v (.int .i64 (c.fresh)), AC.sl 40 0 0 (Int.toNat (c.nodes)) none])), some (ABlk.mk true true 3 1 (Cs.arr (Int.toNat (c.nodes)) fun k => List.map AC.v ((fun i => [Value.int .i64 (pairF c (2 * c.np) i)]) k))), some (ABlk.mk true true 3 1 (Cs.arr (c.np) fun k => List.map AC.v ((fun i => [Value.int .i64 (c.fp i)]) k))), some (ABlk.mk true true 3 1 (Cs.arr (c.ns) fun k => List.map AC.v ((fun i => [Value.int .i64 (c.fs i)]) k))), some (ABlk.mk true true 3 1 (Cs.arr (c.nb) fun k => List.map AC.v ((fun i => [Value.int .i64 (c.fb i)]) k))), some (ABlk.mk true true 47 3 (Cs.arr (c.nt) fun k => List.map AC.v ((fun i => [Value.int .i64 (Station.node (c.ft i)), Value.int .u32 (Station.safe (c.ft i)), Value.int .i64 (Station.hold (c.ft i))]) k))), some (ABlk.mk true true 3 1 (Cs.arr (c.np) fun i_1 => if i_1 = 0 + Int.toNat (pairN c (Int.toNat (c.nodes)) (pairF c (2 * c.np)) (List.headD [Int.ofNat i] (Int.ofNat 0))) then setL ((fun k => List.map AC.v ((fun i => [Value.int .i64 ((fun p => Int.ofNat (f p)) i)]) k)) i_1) 0 [.v (.int .i64 (IntKind.wrap .i64 (Int.ofNat (f (0 + Int.toNat (pairN c (Int.toNat (c.nodes)) (pairF c (2 * c.np)) (List.headD [Int.ofNat i] (Int.ofNat 0))))) + Int.ofNat 1)))] else List.map AC.v ((fun i => [Value.int .i64 ((fun p => Int.ofNat (f p)) i)]) i_1)))], 161, 1080000000000000000000000000000000000000053, [(Int.ofNat i != headN c (Int.toNat (c.nodes)) (pairF c (2 * c.np)) (List.headD [pairN c (Int.toNat (c.nodes)) (pairF c (2 * c.np)) (List.headD [Int.ofNat i] (Int.ofNat 0))] (Int.ofNat 0))) == false, netK c (Int.toNat (c.nodes)) (pairF c (2 * c.np)), true, (Int.ofNat i == headN c (Int.toNat (c.nodes)) (pairF c (2 * c.np)) (List.headD [pairN c (Int.toNat (c.nodes)) (pairF c (2 * c.np)) (List.headD [Int.ofNat i] (Int.ofNat 0))] (Int.ofNat 0))) == false, netK c (Int.toNat (c.nodes)) (pairF c (2 * c.np)), true, true, true, netK c (Int.toNat (c.nodes)) (pairF c (2 * c.np)), true, true, true, ABlk.inb (ABlk.mk true true 3 1 (Cs.arr (c.np) fun k => List.map AC.v ((fun i => [Value.int .i64 ((fun p => Int.ofNat (f p)) i)]) k))) (0 + Int.toNat (pairN c (Int.toNat (c.nodes)) (pairF c (2 * c.np)) (List.headD [Int.ofNat i] (Int.ofNat 0)))) 1, decide (Int.ofNat 0 ≤ pairN c (Int.toNat (c.nodes)) (pairF c (2 * c.np)) (List.headD [Int.ofNat i] (Int.ofNat 0)) ∧ pairN c (Int.toNat (c.nodes)) (pairF c (2 * c.np)) (List.headD [Int.ofNat i] (Int.ofNat 0)) < ↑(c.np)), ABlk.inb (ABlk.mk true true 3 1 (Cs.arr (c.np) fun k => List.map AC.v ((fun i => [Value.int .i64 ((fun p => Int.ofNat (f p)) i)]) k))) (0 + Int.toNat (pairN c (Int.toNat (c.nodes)) (pairF c (2 * c.np)) (List.headD [Int.ofNat i] (Int.ofNat 0)))) 1, true, decide (Int.ofNat 0 ≤ pairN c (Int.toNat (c.nodes)) (pairF c (2 * c.np)) (List.headD [Int.ofNat i] (Int.ofNat 0)) ∧ pairN c (Int.toNat (c.nodes)) (pairF c (2 * c.np)) (List.headD [Int.ofNat i] (Int.ofNat 0)) < ↑(c.np)), (pairN c (Int.toNat (c.nodes)) (pairF c (2 * c.np)) (List.headD [partnerN c (Int.toNat (c.nodes)) (pairF c (2 * c.np)) (List.headD [Int.ofNat i] (Int.ofNat 0))] (Int.ofNat 0)) != pairN c (Int.toNat (c.nodes)) (pairF c (2 * c.np)) (List.headD [Int.ofNat i] (Int.ofNat 0))) == false, netK c (Int.toNat (c.nodes)) (pairF c (2 * c.np)), true, (partnerN c (Int.toNat (c.nodes)) (pairF c (2 * c.np)) (List.headD [partnerN c (Int.toNat (c.nodes)) (pairF c (2 * c.np)) (List.headD [Int.ofNat i] (Int.ofNat 0))] (Int.ofNat 0)) != Int.ofNat i) == false, netK c (Int.toNat (c.nodes)) (pairF c (2 * c.np)), true, decide (pairN c (Int.toNat (c.nodes)) (pairF c (2 * c.np)) (List.headD [Int.ofNat i] (Int.ofNat 0)) ≥ ↑(c.np)) == false, true, decide (pairN c (Int.toNat (c.nodes)) (pairF c (2 * c.np)) (List.headD [Int.ofNat i] (Int.ofNat 0)) < Int.ofNat 0) == false, netK c (Int.toNat (c.nodes)) (pairF c (2 * c.np)), true, netK c (Int.toNat (c.nodes)) (pairF c (2 * c.np)), true, decide (Int.ofNat i < c.nodes) == true, true, true], [])))))))))))))) ∧ ((decide (Int.ofNat i < c.nodes)) = false → Q (Exit.exit 0, [some (lkA (List.zip [1, 2, 5, 7, 8] (hvV c s i)) (0 + 1)), some (lkA (List.zip [1, 2, 5, 7, 8] (hvV c s i)) (0 + 1 + 1)), some (lkA (List.zip [1, 2, 5, 7, 8] (hvV c s i)) (0 + 1 + 1 + 1 + 1 + 1)), some (lkA (List.zip [1, 2, 5, 7, 8] (hvV c s i)) (0 + 1 + 1 + 1 + 1 + 1 + 1 + 1)), some (lkA (List.zip [1, 2, 5, 7, 8] (hvV c s i)) (0 + 1 + 1 + 1 + 1 + 1 + 1 + 1 + 1))], [some (ABlk.mk false false 107 0 (Cs.lit [.v (.int .i64 (Int.ofNat 1)), .v (.int .i64 (Int.negSucc 0))])), some (ABlk.mk true false 25 0 (Cs.lit [.v (.int .i64 (c.nodes)), AC.sl 0 0 0 (c.np) none, AC.sl 1 0 0 (c.ns) none, .v (.int .i64 (c.long)), AC.sl 2 0 0 (c.nb) none, AC.sl 3 0 0 (c.nt) none, .v (.int .i64 (c.miss)), .v (.int .i64 (c.good)), .v (.int .i64 (c.fresh))])), some (ABlk.mk true false 130 0 (Cs.lit [.v (.int .i64 (c.nodes)), AC.sl 41 0 0 (c.np) (some (c.np)), AC.sl 42 0 0 (c.ns) (some (c.ns)), .v (.int .i64 (c.long)), AC.sl 43 0 0 (c.nb) (some (c.nb)), AC.sl 44 0 0 (c.nt) (some (c.nt)), .v (.int .i64 (c.miss)), .v (.int .i64 (c.good)), .v (.int .i64 (c.fresh)), AC.sl 40 0 0 (Int.toNat (c.nodes)) none])), some (ABlk.mk true true 3 1 (Cs.arr (Int.toNat (c.nodes)) fun k => List.map AC.v ((fun i => [Value.int .i64 (pairF c (2 * c.np) i)]) k))), some (ABlk.mk true true 3 1 (Cs.arr (c.np) fun k => List.map AC.v ((fun i => [Value.int .i64 (c.fp i)]) k))), some (ABlk.mk true true 3 1 (Cs.arr (c.ns) fun k => List.map AC.v ((fun i => [Value.int .i64 (c.fs i)]) k))), some (ABlk.mk true true 3 1 (Cs.arr (c.nb) fun k => List.map AC.v ((fun i => [Value.int .i64 (c.fb i)]) k))), some (ABlk.mk true true 47 3 (Cs.arr (c.nt) fun k => List.map AC.v ((fun i => [Value.int .i64 (Station.node (c.ft i)), Value.int .u32 (Station.safe (c.ft i)), Value.int .i64 (Station.hold (c.ft i))]) k))), some (ABlk.mk true true 3 1 (Cs.arr (c.np) fun k => List.map AC.v ((fun i => [Value.int .i64 ((fun p => Int.ofNat (f p)) i)]) k)))], 161, 1000000000000000000000000000000000000000004, [decide (Int.ofNat i < c.nodes) == false, true, true], [])))) :
    ∃ p r, hvR Tryd.prog err c f s i p = some r ∧ Q r := by
  rcases Bool.eq_false_or_eq_true (decide (Int.ofNat i < c.nodes)) with h2 | h2
  · have g2 := H.1 h2
    rcases Bool.eq_false_or_eq_true (decide (pairN c (Int.toNat (c.nodes)) (pairF c (2 * c.np)) (List.headD [Int.ofNat i] (Int.ofNat 0)) < Int.ofNat 0)) with h4 | h4
    · have g4 := g2.1 h4
      rcases Bool.eq_false_or_eq_true (pairN c (Int.toNat (c.nodes)) (pairF c (2 * c.np)) (List.headD [Int.ofNat i] (Int.ofNat 0)) != Int.negSucc 0) with h6 | h6
      · have g6 := g4.1 h6
        exact ⟨([.b true, .b true, .b true, .a, .a] : List Dec), _, by kernel_rfl, g6⟩
      · have g6 := g4.2 h6
        rcases Bool.eq_false_or_eq_true (partnerN c (Int.toNat (c.nodes)) (pairF c (2 * c.np)) (List.headD [Int.ofNat i] (Int.ofNat 0)) != Int.negSucc 0) with h8 | h8
        · have g8 := g6.1 h8
          exact ⟨([.b true, .b true, .b false, .a, .b true] : List Dec), _, by kernel_rfl, g8⟩
        · have g8 := g6.2 h8
          exact ⟨([.b true, .b true, .b false, .a, .b false] : List Dec), _, by kernel_rfl, g8⟩
    · have g4 := g2.2 h4
      rcases Bool.eq_false_or_eq_true (decide (pairN c (Int.toNat (c.nodes)) (pairF c (2 * c.np)) (List.headD [Int.ofNat i] (Int.ofNat 0)) ≥ ↑(c.np))) with h6 | h6
      · have g6 := g4.1 h6
        exact ⟨([.b true, .b false, .b true, .a, .a, .a, .a, .a, .a, .a, .a, .a, .a] : List Dec), _, by kernel_rfl, g6⟩
      · have g6 := g4.2 h6
        rcases Bool.eq_false_or_eq_true (partnerN c (Int.toNat (c.nodes)) (pairF c (2 * c.np)) (List.headD [partnerN c (Int.toNat (c.nodes)) (pairF c (2 * c.np)) (List.headD [Int.ofNat i] (Int.ofNat 0))] (Int.ofNat 0)) != Int.ofNat i) with h8 | h8
        · have g8 := g6.1 h8
          exact ⟨([.b true, .b false, .b false, .a, .a, .a, .a, .b true, .a, .a, .a, .a, .a] : List Dec), _, by kernel_rfl, g8⟩
        · have g8 := g6.2 h8
          rcases Bool.eq_false_or_eq_true (pairN c (Int.toNat (c.nodes)) (pairF c (2 * c.np)) (List.headD [partnerN c (Int.toNat (c.nodes)) (pairF c (2 * c.np)) (List.headD [Int.ofNat i] (Int.ofNat 0))] (Int.ofNat 0)) != pairN c (Int.toNat (c.nodes)) (pairF c (2 * c.np)) (List.headD [Int.ofNat i] (Int.ofNat 0))) with h10 | h10
          · have g10 := g8.1 h10
            exact ⟨([.b true, .b false, .b false, .a, .a, .a, .a, .b false, .a, .a, .a, .a, .b true] : List Dec), _, by kernel_rfl, g10⟩
          · have g10 := g8.2 h10
            rcases Bool.eq_false_or_eq_true (Int.ofNat i == headN c (Int.toNat (c.nodes)) (pairF c (2 * c.np)) (List.headD [pairN c (Int.toNat (c.nodes)) (pairF c (2 * c.np)) (List.headD [Int.ofNat i] (Int.ofNat 0))] (Int.ofNat 0))) with h12 | h12
            · have g12 := g10.1 h12
              rcases Bool.eq_false_or_eq_true (distF (c.nodes) (Int.ofNat 0) (headN c (Int.toNat (c.nodes)) (pairF c (2 * c.np)) (List.headD [pairN c (Int.toNat (c.nodes)) (pairF c (2 * c.np)) (List.headD [Int.ofNat i] (Int.ofNat 0))] (Int.ofNat 0))) (Int.ofNat i) != Int.ofNat 0) with h14 | h14
              · have g14 := g12.1 h14
                exact ⟨([.b true, .b false, .b false, .a, .a, .a, .a, .b false, .a, .a, .a, .a, .b false, .b true, .a, .b true, .a, .a, .a, .a, .a, .a, .a] : List Dec), _, by kernel_rfl, g14⟩
              · have g14 := g12.2 h14
                rcases Bool.eq_false_or_eq_true (Int.ofNat i != headN c (Int.toNat (c.nodes)) (pairF c (2 * c.np)) (List.headD [pairN c (Int.toNat (c.nodes)) (pairF c (2 * c.np)) (List.headD [Int.ofNat i] (Int.ofNat 0))] (Int.ofNat 0))) with h16 | h16
                · have g16 := g14.1 h16
                  rcases Bool.eq_false_or_eq_true (distF (c.nodes) (Int.ofNat 0) (headN c (Int.toNat (c.nodes)) (pairF c (2 * c.np)) (List.headD [pairN c (Int.toNat (c.nodes)) (pairF c (2 * c.np)) (List.headD [Int.ofNat i] (Int.ofNat 0))] (Int.ofNat 0))) (Int.ofNat i) != Int.ofNat 1) with h18 | h18
                  · have g18 := g16.1 h18
                    exact ⟨([.b true, .b false, .b false, .a, .a, .a, .a, .b false, .a, .a, .a, .a, .b false, .b true, .a, .b false, .a, .a, .a, .a, .a, .b true, .a, .a, .b true] : List Dec), _, by kernel_rfl, g18⟩
                  · have g18 := g16.2 h18
                    exact ⟨([.b true, .b false, .b false, .a, .a, .a, .a, .b false, .a, .a, .a, .a, .b false, .b true, .a, .b false, .a, .a, .a, .a, .a, .b true, .a, .a, .b false] : List Dec), _, by kernel_rfl, g18⟩
                · have g16 := g14.2 h16
                  exact ⟨([.b true, .b false, .b false, .a, .a, .a, .a, .b false, .a, .a, .a, .a, .b false, .b true, .a, .b false, .a, .a, .a, .a, .a, .b false, .a, .a, .a] : List Dec), _, by kernel_rfl, g16⟩
            · have g12 := g10.2 h12
              rcases Bool.eq_false_or_eq_true (Int.ofNat i != headN c (Int.toNat (c.nodes)) (pairF c (2 * c.np)) (List.headD [pairN c (Int.toNat (c.nodes)) (pairF c (2 * c.np)) (List.headD [Int.ofNat i] (Int.ofNat 0))] (Int.ofNat 0))) with h14 | h14
              · have g14 := g12.1 h14
                rcases Bool.eq_false_or_eq_true (distF (c.nodes) (Int.ofNat 0) (headN c (Int.toNat (c.nodes)) (pairF c (2 * c.np)) (List.headD [pairN c (Int.toNat (c.nodes)) (pairF c (2 * c.np)) (List.headD [Int.ofNat i] (Int.ofNat 0))] (Int.ofNat 0))) (Int.ofNat i) != Int.ofNat 1) with h16 | h16
                · have g16 := g14.1 h16
                  exact ⟨([.b true, .b false, .b false, .a, .a, .a, .a, .b false, .a, .a, .a, .a, .b false, .b false, .a, .a, .a, .a, .a, .a, .a, .b true, .a, .a, .b true] : List Dec), _, by kernel_rfl, g16⟩
                · have g16 := g14.2 h16
                  exact ⟨([.b true, .b false, .b false, .a, .a, .a, .a, .b false, .a, .a, .a, .a, .b false, .b false, .a, .a, .a, .a, .a, .a, .a, .b true, .a, .a, .b false] : List Dec), _, by kernel_rfl, g16⟩
              · have g14 := g12.2 h14
                exact ⟨([.b true, .b false, .b false, .a, .a, .a, .a, .b false, .a, .a, .a, .a, .b false, .b false, .a, .a, .a, .a, .a, .a, .a, .b false, .a, .a, .a] : List Dec), _, by kernel_rfl, g14⟩
  · have g2 := H.2 h2
    exact ⟨([.b false] : List Dec), _, by kernel_rfl, g2⟩
abbrev hwV (c : Cfg) (a : Int) (i : Nat) : List AV := [.c (.ptr 10 0 0), .c (.ptr 39 0 0), .c (.sl 55 0 0 c.np none), i64 a, i64 (Int.ofNat i)]
def hwR (P : Program) (err : Cfg → Int) (c : Cfg) (f : Nat → Nat) (a : Int) (i : Nat) (path : List Dec) : Option VC :=
  view ([2, 5, 7, 12, 13] ++ []) hvIds (fC (ENl0 P err ctsHv) 100 (loopAt P 8 1) 1000000000000000000000000000000000000000000000000000 10000000000000000000000000000000000000000 (stH 161 [2, 5, 7, 12, 13] hvIds (hwV c a i) (hvBk c f) path []))
theorem hw (err : Cfg → Int) (c : Cfg) (f : Nat → Nat) (a : Int) (i : Nat) (Q : VC → Prop) (H : (((decide (Int.ofNat i < ↑(c.np))) = true → (((Int.ofNat (f (0 + Int.toNat (Int.ofNat i))) != Int.ofNat 2) = true → Q (Exit.ret, [some (lkA (List.zip [2, 5, 7, 12, 13] (hwV c a i)) (0 + 1 + 1)), some (lkA (List.zip [2, 5, 7, 12, 13] (hwV c a i)) (0 + 1 + 1 + 1 + 1 + 1)), some (lkA (List.zip [2, 5, 7, 12, 13] (hwV c a i)) (0 + 1 + 1 + 1 + 1 + 1 + 1 + 1)), some (lkA (List.zip [2, 5, 7, 12, 13] (hwV c a i)) (0 + 1 + 1 + 1 + 1 + 1 + 1 + 1 + 1 + 1 + 1 + 1 + 1)), some (lkA (List.zip [2, 5, 7, 12, 13] (hwV c a i)) (0 + 1 + 1 + 1 + 1 + 1 + 1 + 1 + 1 + 1 + 1 + 1 + 1 + 1))], [some (ABlk.mk false false 107 0 (Cs.lit [.v (.int .i64 (Int.ofNat 1)), .v (.int .i64 (Int.negSucc 0))])), some (ABlk.mk true false 25 0 (Cs.lit [.v (.int .i64 (c.nodes)), AC.sl 0 0 0 (c.np) none, AC.sl 1 0 0 (c.ns) none, .v (.int .i64 (c.long)), AC.sl 2 0 0 (c.nb) none, AC.sl 3 0 0 (c.nt) none, .v (.int .i64 (c.miss)), .v (.int .i64 (c.good)), .v (.int .i64 (c.fresh))])), some (ABlk.mk true false 130 0 (Cs.lit [.v (.int .i64 (c.nodes)), AC.sl 41 0 0 (c.np) (some (c.np)), AC.sl 42 0 0 (c.ns) (some (c.ns)), .v (.int .i64 (c.long)), AC.sl 43 0 0 (c.nb) (some (c.nb)), AC.sl 44 0 0 (c.nt) (some (c.nt)), .v (.int .i64 (c.miss)), .v (.int .i64 (c.good)), .v (.int .i64 (c.fresh)), AC.sl 40 0 0 (Int.toNat (c.nodes)) none])), some (ABlk.mk true true 3 1 (Cs.arr (Int.toNat (c.nodes)) fun k => List.map AC.v ((fun i => [Value.int .i64 (pairF c (2 * c.np) i)]) k))), some (ABlk.mk true true 3 1 (Cs.arr (c.np) fun k => List.map AC.v ((fun i => [Value.int .i64 (c.fp i)]) k))), some (ABlk.mk true true 3 1 (Cs.arr (c.ns) fun k => List.map AC.v ((fun i => [Value.int .i64 (c.fs i)]) k))), some (ABlk.mk true true 3 1 (Cs.arr (c.nb) fun k => List.map AC.v ((fun i => [Value.int .i64 (c.fb i)]) k))), some (ABlk.mk true true 47 3 (Cs.arr (c.nt) fun k => List.map AC.v ((fun i => [Value.int .i64 (Station.node (c.ft i)), Value.int .u32 (Station.safe (c.ft i)), Value.int .i64 (Station.hold (c.ft i))]) k))), some (ABlk.mk true true 3 1 (Cs.arr (c.np) fun k => List.map AC.v ((fun i => [Value.int .i64 ((fun p => Int.ofNat (f p)) i)]) k)))], 161, 1000000000000000000000000000000000000000000000000021, [(Int.ofNat (f (0 + Int.toNat (Int.ofNat i))) != Int.ofNat 2) == true, ABlk.inb (ABlk.mk true true 3 1 (Cs.arr (c.np) fun k => List.map AC.v ((fun i => [Value.int .i64 ((fun p => Int.ofNat (f p)) i)]) k))) (0 + Int.toNat (Int.ofNat i)) 1, true, decide (Int.ofNat 0 ≤ Int.ofNat i ∧ Int.ofNat i < ↑(c.np)), netK c (Int.toNat (c.nodes)) (pairF c (2 * c.np)), nxtQ (NetS.mk c (Int.toNat (c.nodes)) (pairF c (2 * c.np)) [.c (.v (.int .i64 a)), .c (.v (.int .i64 (Int.ofNat i)))]), decide (Int.ofNat i < ↑(c.np)) == true, true], [])) ∧ ((Int.ofNat (f (0 + Int.toNat (Int.ofNat i))) != Int.ofNat 2) = false → (((decide (nextF c a (Int.ofNat i) < a)) = true → Q (Exit.ret, [some (lkA (List.zip [2, 5, 7, 12, 13] (hwV c a i)) (0 + 1 + 1)), some (lkA (List.zip [2, 5, 7, 12, 13] (hwV c a i)) (0 + 1 + 1 + 1 + 1 + 1)), some (lkA (List.zip [2, 5, 7, 12, 13] (hwV c a i)) (0 + 1 + 1 + 1 + 1 + 1 + 1 + 1)), some (lkA (List.zip [2, 5, 7, 12, 13] (hwV c a i)) (0 + 1 + 1 + 1 + 1 + 1 + 1 + 1 + 1 + 1 + 1 + 1 + 1)), some (lkA (List.zip [2, 5, 7, 12, 13] (hwV c a i)) (0 + 1 + 1 + 1 + 1 + 1 + 1 + 1 + 1 + 1 + 1 + 1 + 1 + 1))], [some (ABlk.mk false false 107 0 (Cs.lit [.v (.int .i64 (Int.ofNat 1)), .v (.int .i64 (Int.negSucc 0))])), some (ABlk.mk true false 25 0 (Cs.lit [.v (.int .i64 (c.nodes)), AC.sl 0 0 0 (c.np) none, AC.sl 1 0 0 (c.ns) none, .v (.int .i64 (c.long)), AC.sl 2 0 0 (c.nb) none, AC.sl 3 0 0 (c.nt) none, .v (.int .i64 (c.miss)), .v (.int .i64 (c.good)), .v (.int .i64 (c.fresh))])), some (ABlk.mk true false 130 0 (Cs.lit [.v (.int .i64 (c.nodes)), AC.sl 41 0 0 (c.np) (some (c.np)), AC.sl 42 0 0 (c.ns) (some (c.ns)), .v (.int .i64 (c.long)), AC.sl 43 0 0 (c.nb) (some (c.nb)), AC.sl 44 0 0 (c.nt) (some (c.nt)), .v (.int .i64 (c.miss)), .v (.int .i64 (c.good)), .v (.int .i64 (c.fresh)), AC.sl 40 0 0 (Int.toNat (c.nodes)) none])), some (ABlk.mk true true 3 1 (Cs.arr (Int.toNat (c.nodes)) fun k => List.map AC.v ((fun i => [Value.int .i64 (pairF c (2 * c.np) i)]) k))), some (ABlk.mk true true 3 1 (Cs.arr (c.np) fun k => List.map AC.v ((fun i => [Value.int .i64 (c.fp i)]) k))), some (ABlk.mk true true 3 1 (Cs.arr (c.ns) fun k => List.map AC.v ((fun i => [Value.int .i64 (c.fs i)]) k))), some (ABlk.mk true true 3 1 (Cs.arr (c.nb) fun k => List.map AC.v ((fun i => [Value.int .i64 (c.fb i)]) k))), some (ABlk.mk true true 47 3 (Cs.arr (c.nt) fun k => List.map AC.v ((fun i => [Value.int .i64 (Station.node (c.ft i)), Value.int .u32 (Station.safe (c.ft i)), Value.int .i64 (Station.hold (c.ft i))]) k))), some (ABlk.mk true true 3 1 (Cs.arr (c.np) fun k => List.map AC.v ((fun i => [Value.int .i64 ((fun p => Int.ofNat (f p)) i)]) k)))], 161, 1000000000000000000000000000000000000000000000000024, [decide (nextF c a (Int.ofNat i) < a) == true, (Int.ofNat (f (0 + Int.toNat (Int.ofNat i))) != Int.ofNat 2) == false, ABlk.inb (ABlk.mk true true 3 1 (Cs.arr (c.np) fun k => List.map AC.v ((fun i => [Value.int .i64 ((fun p => Int.ofNat (f p)) i)]) k))) (0 + Int.toNat (Int.ofNat i)) 1, true, decide (Int.ofNat 0 ≤ Int.ofNat i ∧ Int.ofNat i < ↑(c.np)), netK c (Int.toNat (c.nodes)) (pairF c (2 * c.np)), nxtQ (NetS.mk c (Int.toNat (c.nodes)) (pairF c (2 * c.np)) [.c (.v (.int .i64 a)), .c (.v (.int .i64 (Int.ofNat i)))]), decide (Int.ofNat i < ↑(c.np)) == true, true], [])) ∧ ((decide (nextF c a (Int.ofNat i) < a)) = false → (((decide (nextF c a (Int.ofNat i) ≥ IntKind.wrap .i64 (a + ↑(c.ns)))) = true → Q (Exit.ret, [some (lkA (List.zip [2, 5, 7, 12, 13] (hwV c a i)) (0 + 1 + 1)), some (lkA (List.zip [2, 5, 7, 12, 13] (hwV c a i)) (0 + 1 + 1 + 1 + 1 + 1)), some (lkA (List.zip [2, 5, 7, 12, 13] (hwV c a i)) (0 + 1 + 1 + 1 + 1 + 1 + 1 + 1)), some (lkA (List.zip [2, 5, 7, 12, 13] (hwV c a i)) (0 + 1 + 1 + 1 + 1 + 1 + 1 + 1 + 1 + 1 + 1 + 1 + 1)), some (lkA (List.zip [2, 5, 7, 12, 13] (hwV c a i)) (0 + 1 + 1 + 1 + 1 + 1 + 1 + 1 + 1 + 1 + 1 + 1 + 1 + 1))], [some (ABlk.mk false false 107 0 (Cs.lit [.v (.int .i64 (Int.ofNat 1)), .v (.int .i64 (Int.negSucc 0))])), some (ABlk.mk true false 25 0 (Cs.lit [.v (.int .i64 (c.nodes)), AC.sl 0 0 0 (c.np) none, AC.sl 1 0 0 (c.ns) none, .v (.int .i64 (c.long)), AC.sl 2 0 0 (c.nb) none, AC.sl 3 0 0 (c.nt) none, .v (.int .i64 (c.miss)), .v (.int .i64 (c.good)), .v (.int .i64 (c.fresh))])), some (ABlk.mk true false 130 0 (Cs.lit [.v (.int .i64 (c.nodes)), AC.sl 41 0 0 (c.np) (some (c.np)), AC.sl 42 0 0 (c.ns) (some (c.ns)), .v (.int .i64 (c.long)), AC.sl 43 0 0 (c.nb) (some (c.nb)), AC.sl 44 0 0 (c.nt) (some (c.nt)), .v (.int .i64 (c.miss)), .v (.int .i64 (c.good)), .v (.int .i64 (c.fresh)), AC.sl 40 0 0 (Int.toNat (c.nodes)) none])), some (ABlk.mk true true 3 1 (Cs.arr (Int.toNat (c.nodes)) fun k => List.map AC.v ((fun i => [Value.int .i64 (pairF c (2 * c.np) i)]) k))), some (ABlk.mk true true 3 1 (Cs.arr (c.np) fun k => List.map AC.v ((fun i => [Value.int .i64 (c.fp i)]) k))), some (ABlk.mk true true 3 1 (Cs.arr (c.ns) fun k => List.map AC.v ((fun i => [Value.int .i64 (c.fs i)]) k))), some (ABlk.mk true true 3 1 (Cs.arr (c.nb) fun k => List.map AC.v ((fun i => [Value.int .i64 (c.fb i)]) k))), some (ABlk.mk true true 47 3 (Cs.arr (c.nt) fun k => List.map AC.v ((fun i => [Value.int .i64 (Station.node (c.ft i)), Value.int .u32 (Station.safe (c.ft i)), Value.int .i64 (Station.hold (c.ft i))]) k))), some (ABlk.mk true true 3 1 (Cs.arr (c.np) fun k => List.map AC.v ((fun i => [Value.int .i64 ((fun p => Int.ofNat (f p)) i)]) k)))], 161, 1000000000000000000000000000000000000000000000000031, [decide (nextF c a (Int.ofNat i) ≥ IntKind.wrap .i64 (a + ↑(c.ns))) == true, true, decide (nextF c a (Int.ofNat i) < a) == false, (Int.ofNat (f (0 + Int.toNat (Int.ofNat i))) != Int.ofNat 2) == false, ABlk.inb (ABlk.mk true true 3 1 (Cs.arr (c.np) fun k => List.map AC.v ((fun i => [Value.int .i64 ((fun p => Int.ofNat (f p)) i)]) k))) (0 + Int.toNat (Int.ofNat i)) 1, true, decide (Int.ofNat 0 ≤ Int.ofNat i ∧ Int.ofNat i < ↑(c.np)), netK c (Int.toNat (c.nodes)) (pairF c (2 * c.np)), nxtQ (NetS.mk c (Int.toNat (c.nodes)) (pairF c (2 * c.np)) [.c (.v (.int .i64 a)), .c (.v (.int .i64 (Int.ofNat i)))]), decide (Int.ofNat i < ↑(c.np)) == true, true], [])) ∧ ((decide (nextF c a (Int.ofNat i) ≥ IntKind.wrap .i64 (a + ↑(c.ns)))) = false → (((ownerN c (Int.toNat (c.nodes)) (pairF c (2 * c.np)) (List.headD [Int.tmod (nextF c a (Int.ofNat i)) ↑(c.ns)] (Int.ofNat 0)) != Int.ofNat i) = true → Q (Exit.ret, [some (lkA (List.zip [2, 5, 7, 12, 13] (hwV c a i)) (0 + 1 + 1)), some (lkA (List.zip [2, 5, 7, 12, 13] (hwV c a i)) (0 + 1 + 1 + 1 + 1 + 1)), some (lkA (List.zip [2, 5, 7, 12, 13] (hwV c a i)) (0 + 1 + 1 + 1 + 1 + 1 + 1 + 1)), some (lkA (List.zip [2, 5, 7, 12, 13] (hwV c a i)) (0 + 1 + 1 + 1 + 1 + 1 + 1 + 1 + 1 + 1 + 1 + 1 + 1)), some (lkA (List.zip [2, 5, 7, 12, 13] (hwV c a i)) (0 + 1 + 1 + 1 + 1 + 1 + 1 + 1 + 1 + 1 + 1 + 1 + 1 + 1))], [some (ABlk.mk false false 107 0 (Cs.lit [.v (.int .i64 (Int.ofNat 1)), .v (.int .i64 (Int.negSucc 0))])), some (ABlk.mk true false 25 0 (Cs.lit [.v (.int .i64 (c.nodes)), AC.sl 0 0 0 (c.np) none, AC.sl 1 0 0 (c.ns) none, .v (.int .i64 (c.long)), AC.sl 2 0 0 (c.nb) none, AC.sl 3 0 0 (c.nt) none, .v (.int .i64 (c.miss)), .v (.int .i64 (c.good)), .v (.int .i64 (c.fresh))])), some (ABlk.mk true false 130 0 (Cs.lit [.v (.int .i64 (c.nodes)), AC.sl 41 0 0 (c.np) (some (c.np)), AC.sl 42 0 0 (c.ns) (some (c.ns)), .v (.int .i64 (c.long)), AC.sl 43 0 0 (c.nb) (some (c.nb)), AC.sl 44 0 0 (c.nt) (some (c.nt)), .v (.int .i64 (c.miss)), .v (.int .i64 (c.good)), .v (.int .i64 (c.fresh)), AC.sl 40 0 0 (Int.toNat (c.nodes)) none])), some (ABlk.mk true true 3 1 (Cs.arr (Int.toNat (c.nodes)) fun k => List.map AC.v ((fun i => [Value.int .i64 (pairF c (2 * c.np) i)]) k))), some (ABlk.mk true true 3 1 (Cs.arr (c.np) fun k => List.map AC.v ((fun i => [Value.int .i64 (c.fp i)]) k))), some (ABlk.mk true true 3 1 (Cs.arr (c.ns) fun k => List.map AC.v ((fun i => [Value.int .i64 (c.fs i)]) k))), some (ABlk.mk true true 3 1 (Cs.arr (c.nb) fun k => List.map AC.v ((fun i => [Value.int .i64 (c.fb i)]) k))), some (ABlk.mk true true 47 3 (Cs.arr (c.nt) fun k => List.map AC.v ((fun i => [Value.int .i64 (Station.node (c.ft i)), Value.int .u32 (Station.safe (c.ft i)), Value.int .i64 (Station.hold (c.ft i))]) k))), some (ABlk.mk true true 3 1 (Cs.arr (c.np) fun k => List.map AC.v ((fun i => [Value.int .i64 ((fun p => Int.ofNat (f p)) i)]) k)))], 161, 1000000000000000000000000000000000000000000000000039, [(ownerN c (Int.toNat (c.nodes)) (pairF c (2 * c.np)) (List.headD [Int.tmod (nextF c a (Int.ofNat i)) ↑(c.ns)] (Int.ofNat 0)) != Int.ofNat i) == true, netK c (Int.toNat (c.nodes)) (pairF c (2 * c.np)), true, decide (↑(c.ns) ≠ Int.ofNat 0), true, decide (nextF c a (Int.ofNat i) ≥ IntKind.wrap .i64 (a + ↑(c.ns))) == false, true, decide (nextF c a (Int.ofNat i) < a) == false, (Int.ofNat (f (0 + Int.toNat (Int.ofNat i))) != Int.ofNat 2) == false, ABlk.inb (ABlk.mk true true 3 1 (Cs.arr (c.np) fun k => List.map AC.v ((fun i => [Value.int .i64 ((fun p => Int.ofNat (f p)) i)]) k))) (0 + Int.toNat (Int.ofNat i)) 1, true, decide (Int.ofNat 0 ≤ Int.ofNat i ∧ Int.ofNat i < ↑(c.np)), netK c (Int.toNat (c.nodes)) (pairF c (2 * c.np)), nxtQ (NetS.mk c (Int.toNat (c.nodes)) (pairF c (2 * c.np)) [.c (.v (.int .i64 a)), .c (.v (.int .i64 (Int.ofNat i)))]), decide (Int.ofNat i < ↑(c.np)) == true, true], [])) ∧ ((ownerN c (Int.toNat (c.nodes)) (pairF c (2 * c.np)) (List.headD [Int.tmod (nextF c a (Int.ofNat i)) ↑(c.ns)] (Int.ofNat 0)) != Int.ofNat i) = false → Q (Exit.normal, [some (lkA (List.zip [2, 5, 7, 12, 13] (hwV c a i)) (0 + 1 + 1)), some (lkA (List.zip [2, 5, 7, 12, 13] (hwV c a i)) (0 + 1 + 1 + 1 + 1 + 1)), some (lkA (List.zip [2, 5, 7, 12, 13] (hwV c a i)) (0 + 1 + 1 + 1 + 1 + 1 + 1 + 1)), some (lkA (List.zip [2, 5, 7, 12, 13] (hwV c a i)) (0 + 1 + 1 + 1 + 1 + 1 + 1 + 1 + 1 + 1 + 1 + 1 + 1)), some (.c (.v (.int .i64 (IntKind.wrap .i64 (Int.ofNat i + Int.ofNat 1)))))], [some (ABlk.mk false false 107 0 (Cs.lit [.v (.int .i64 (Int.ofNat 1)), .v (.int .i64 (Int.negSucc 0))])), some (ABlk.mk true false 25 0 (Cs.lit [.v (.int .i64 (c.nodes)), AC.sl 0 0 0 (c.np) none, AC.sl 1 0 0 (c.ns) none, .v (.int .i64 (c.long)), AC.sl 2 0 0 (c.nb) none, AC.sl 3 0 0 (c.nt) none, .v (.int .i64 (c.miss)), .v (.int .i64 (c.good)), .v (.int .i64 (c.fresh))])), some (ABlk.mk true false 130 0 (Cs.lit [.v (.int .i64 (c.nodes)), AC.sl 41 0 0 (c.np) (some (c.np)), AC.sl 42 0 0 (c.ns) (some (c.ns)), .v (.int .i64 (c.long)), AC.sl 43 0 0 (c.nb) (some (c.nb)), AC.sl 44 0 0 (c.nt) (some (c.nt)), .v (.int .i64 (c.miss)), .v (.int .i64 (c.good)), .v (.int .i64 (c.fresh)), AC.sl 40 0 0 (Int.toNat (c.nodes)) none])), some (ABlk.mk true true 3 1 (Cs.arr (Int.toNat (c.nodes)) fun k => List.map AC.v ((fun i => [Value.int .i64 (pairF c (2 * c.np) i)]) k))), some (ABlk.mk true true 3 1 (Cs.arr (c.np) fun k => List.map AC.v ((fun i => [Value.int .i64 (c.fp i)]) k))), some (ABlk.mk true true 3 1 (Cs.arr (c.ns) fun k => List.map AC.v ((fun i => [Value.int .i64 (c.fs i)]) k))), some (ABlk.mk true true 3 1 (Cs.arr (c.nb) fun k => List.map AC.v ((fun i => [Value.int .i64 (c.fb i)]) k))), some (ABlk.mk true true 47 3 (Cs.arr (c.nt) fun k => List.map AC.v ((fun i => [Value.int .i64 (Station.node (c.ft i)), Value.int .u32 (Station.safe (c.ft i)), Value.int .i64 (Station.hold (c.ft i))]) k))), some (ABlk.mk true true 3 1 (Cs.arr (c.np) fun k => List.map AC.v ((fun i => [Value.int .i64 ((fun p => Int.ofNat (f p)) i)]) k)))], 161, 1000000000000000000000000000000000000000000000000041, [(ownerN c (Int.toNat (c.nodes)) (pairF c (2 * c.np)) (List.headD [Int.tmod (nextF c a (Int.ofNat i)) ↑(c.ns)] (Int.ofNat 0)) != Int.ofNat i) == false, netK c (Int.toNat (c.nodes)) (pairF c (2 * c.np)), true, decide (↑(c.ns) ≠ Int.ofNat 0), true, decide (nextF c a (Int.ofNat i) ≥ IntKind.wrap .i64 (a + ↑(c.ns))) == false, true, decide (nextF c a (Int.ofNat i) < a) == false, (Int.ofNat (f (0 + Int.toNat (Int.ofNat i))) != Int.ofNat 2) == false, ABlk.inb (ABlk.mk true true 3 1 (Cs.arr (c.np) fun k => List.map AC.v ((fun i => [Value.int .i64 ((fun p => Int.ofNat (f p)) i)]) k))) (0 + Int.toNat (Int.ofNat i)) 1, true, decide (Int.ofNat 0 ≤ Int.ofNat i ∧ Int.ofNat i < ↑(c.np)), netK c (Int.toNat (c.nodes)) (pairF c (2 * c.np)), nxtQ (NetS.mk c (Int.toNat (c.nodes)) (pairF c (2 * c.np)) [.c (.v (.int .i64 a)), .c (.v (.int .i64 (Int.ofNat i)))]), decide (Int.ofNat i < ↑(c.np)) == true, true], [])))))))))) ∧ ((decide (Int.ofNat i < ↑(c.np))) = false → Q (Exit.exit 2, [some (lkA (List.zip [2, 5, 7, 12, 13] (hwV c a i)) (0 + 1 + 1)), some (lkA (List.zip [2, 5, 7, 12, 13] (hwV c a i)) (0 + 1 + 1 + 1 + 1 + 1)), some (lkA (List.zip [2, 5, 7, 12, 13] (hwV c a i)) (0 + 1 + 1 + 1 + 1 + 1 + 1 + 1)), some (lkA (List.zip [2, 5, 7, 12, 13] (hwV c a i)) (0 + 1 + 1 + 1 + 1 + 1 + 1 + 1 + 1 + 1 + 1 + 1 + 1)), some (lkA (List.zip [2, 5, 7, 12, 13] (hwV c a i)) (0 + 1 + 1 + 1 + 1 + 1 + 1 + 1 + 1 + 1 + 1 + 1 + 1 + 1))], [some (ABlk.mk false false 107 0 (Cs.lit [.v (.int .i64 (Int.ofNat 1)), .v (.int .i64 (Int.negSucc 0))])), some (ABlk.mk true false 25 0 (Cs.lit [.v (.int .i64 (c.nodes)), AC.sl 0 0 0 (c.np) none, AC.sl 1 0 0 (c.ns) none, .v (.int .i64 (c.long)), AC.sl 2 0 0 (c.nb) none, AC.sl 3 0 0 (c.nt) none, .v (.int .i64 (c.miss)), .v (.int .i64 (c.good)), .v (.int .i64 (c.fresh))])), some (ABlk.mk true false 130 0 (Cs.lit [.v (.int .i64 (c.nodes)), AC.sl 41 0 0 (c.np) (some (c.np)), AC.sl 42 0 0 (c.ns) (some (c.ns)), .v (.int .i64 (c.long)), AC.sl 43 0 0 (c.nb) (some (c.nb)), AC.sl 44 0 0 (c.nt) (some (c.nt)), .v (.int .i64 (c.miss)), .v (.int .i64 (c.good)), .v (.int .i64 (c.fresh)), AC.sl 40 0 0 (Int.toNat (c.nodes)) none])), some (ABlk.mk true true 3 1 (Cs.arr (Int.toNat (c.nodes)) fun k => List.map AC.v ((fun i => [Value.int .i64 (pairF c (2 * c.np) i)]) k))), some (ABlk.mk true true 3 1 (Cs.arr (c.np) fun k => List.map AC.v ((fun i => [Value.int .i64 (c.fp i)]) k))), some (ABlk.mk true true 3 1 (Cs.arr (c.ns) fun k => List.map AC.v ((fun i => [Value.int .i64 (c.fs i)]) k))), some (ABlk.mk true true 3 1 (Cs.arr (c.nb) fun k => List.map AC.v ((fun i => [Value.int .i64 (c.fb i)]) k))), some (ABlk.mk true true 47 3 (Cs.arr (c.nt) fun k => List.map AC.v ((fun i => [Value.int .i64 (Station.node (c.ft i)), Value.int .u32 (Station.safe (c.ft i)), Value.int .i64 (Station.hold (c.ft i))]) k))), some (ABlk.mk true true 3 1 (Cs.arr (c.np) fun k => List.map AC.v ((fun i => [Value.int .i64 ((fun p => Int.ofNat (f p)) i)]) k)))], 161, 1000000000000000000000000000000000000000000000000005, [decide (Int.ofNat i < ↑(c.np)) == false, true], [])))) :
    ∃ p r, hwR Tryd.prog err c f a i p = some r ∧ Q r := by
  rcases Bool.eq_false_or_eq_true (decide (Int.ofNat i < ↑(c.np))) with h2 | h2
  · have g2 := H.1 h2
    rcases Bool.eq_false_or_eq_true (Int.ofNat (f (0 + Int.toNat (Int.ofNat i))) != Int.ofNat 2) with h4 | h4
    · have g4 := g2.1 h4
      exact ⟨([.b true, .b true, .a, .a, .a, .a, .a, .a, .a, .a, .a, .a, .a, .a, .a, .a, .a, .a, .a, .a, .a] : List Dec), _, by kernel_rfl, g4⟩
    · have g4 := g2.2 h4
      rcases Bool.eq_false_or_eq_true (decide (nextF c a (Int.ofNat i) < a)) with h6 | h6
      · have g6 := g4.1 h6
        exact ⟨([.b true, .b false, .a, .a, .b true, .a, .a, .a, .a, .a, .a, .a, .a, .a, .a, .a, .a, .a, .a, .a, .a] : List Dec), _, by kernel_rfl, g6⟩
      · have g6 := g4.2 h6
        rcases Bool.eq_false_or_eq_true (decide (nextF c a (Int.ofNat i) ≥ IntKind.wrap .i64 (a + ↑(c.ns)))) with h8 | h8
        · have g8 := g6.1 h8
          exact ⟨([.b true, .b false, .a, .a, .b false, .a, .a, .a, .a, .a, .a, .b true, .a, .a, .a, .a, .a, .a, .a, .a, .a] : List Dec), _, by kernel_rfl, g8⟩
        · have g8 := g6.2 h8
          rcases Bool.eq_false_or_eq_true (ownerN c (Int.toNat (c.nodes)) (pairF c (2 * c.np)) (List.headD [Int.tmod (nextF c a (Int.ofNat i)) ↑(c.ns)] (Int.ofNat 0)) != Int.ofNat i) with h10 | h10
          · have g10 := g8.1 h10
            exact ⟨([.b true, .b false, .a, .a, .b false, .a, .a, .a, .a, .a, .a, .b false, .a, .a, .a, .a, .a, .a, .a, .a, .b true] : List Dec), _, by kernel_rfl, g10⟩
          · have g10 := g8.2 h10
            exact ⟨([.b true, .b false, .a, .a, .b false, .a, .a, .a, .a, .a, .a, .b false, .a, .a, .a, .a, .a, .a, .a, .a, .b false] : List Dec), _, by kernel_rfl, g10⟩
  · have g2 := H.2 h2
    exact ⟨([.b false] : List Dec), _, by kernel_rfl, g2⟩
abbrev hvS (c : Cfg) (f : Nat → Nat) (s : Int) : LSum := ⟨[1, 2, 5, 7, 8], hvIds, mkFr 161 [(1, i64 s), (2, .c (.ptr 10 0 0)), (5, .c (.ptr 39 0 0)), (7, .c (.sl 55 0 0 c.np none))], hvIds.zip (hvBk c f), 100000000000000000000000000000000000000000000000000, .exit 0⟩
abbrev hwS (c : Cfg) : LSum := ⟨[2, 5, 7, 12, 13], hvIds, mkFr 161 [(2, .c (.ptr 10 0 0)), (5, .c (.ptr 39 0 0))], (hvIds.take 8).zip ([signB, cfgB c] ++ netYh c), 10000000000000000000000000000000000000000000000000000, .exit 2⟩
/-- a number's lower bits -/
def hvMask (a : Int) : Int := IntKind.wrap IntKind.i64 ↑(BitVec.toNat (BitVec.ofInt (IntKind.bits IntKind.i64) a &&& BitVec.ofInt (IntKind.bits IntKind.i64) 1099511627775))
theorem hvA (err : Cfg → Int) (c : Cfg) (f : Nat → Nat) (s : Int) (Q : VF → Prop) (H : (((roundN c (Int.toNat (c.nodes)) == IntKind.wrap .i64 (c.long * ↑(c.ns))) = true → Q (.c (.v (.bool true)), [], 10000000000130000000000000000000000000000000000000000, [(roundN c (Int.toNat (c.nodes)) == IntKind.wrap .i64 (c.long * ↑(c.ns))) == true, true, true, true, netK c (Int.toNat (c.nodes)) (pairF c (2 * c.np)), true, decide (Int.ofNat 0 ≤ ↑(c.np) ∧ Int.ofNat (c.np) = Int.ofNat (c.np) ∧ ↑(c.np) * Int.ofNat 8 ≤ Int.ofNat 140737488355328), true, cfgK c, decide (c.nb ≤ 9223372036854775807), decide (err c = Int.ofNat 0), true, true, true, true, true, true, decide (↑(c.nt) > Int.ofNat 60) == false, true, decide (↑(c.nb) > Int.ofNat 60) == false, true, decide (↑(c.ns) > Int.ofNat 60) == false, true, decide (↑(c.np) > Int.ofNat 60) == false, true, true, true, true, true, true, true], [LoopV Tryd.prog (loopAt Tryd.prog 8 1) [2, 5, 7, 12, 13] hvIds [some (.c (.ptr 10 0 0)), some (.c (.ptr 39 0 0)), some (.c (.sl 55 0 0 (c.np) none)), some (.c (.v (.int .i64 (hvMask s)))), some (.c (.v (.int .i64 (Int.ofNat 0))))] [some (ABlk.mk false false 107 0 (Cs.lit [.v (.int .i64 (Int.ofNat 1)), .v (.int .i64 (Int.negSucc 0))])), some (ABlk.mk true false 25 0 (Cs.lit [.v (.int .i64 (c.nodes)), AC.sl 0 0 0 (c.np) none, AC.sl 1 0 0 (c.ns) none, .v (.int .i64 (c.long)), AC.sl 2 0 0 (c.nb) none, AC.sl 3 0 0 (c.nt) none, .v (.int .i64 (c.miss)), .v (.int .i64 (c.good)), .v (.int .i64 (c.fresh))])), some (ABlk.mk true false 130 0 (Cs.lit [.v (.int .i64 (c.nodes)), AC.sl 41 0 0 (c.np) (some (c.np)), AC.sl 42 0 0 (c.ns) (some (c.ns)), .v (.int .i64 (c.long)), AC.sl 43 0 0 (c.nb) (some (c.nb)), AC.sl 44 0 0 (c.nt) (some (c.nt)), .v (.int .i64 (c.miss)), .v (.int .i64 (c.good)), .v (.int .i64 (c.fresh)), AC.sl 40 0 0 (Int.toNat (c.nodes)) none])), some (ABlk.mk true true 3 1 (Cs.arr (Int.toNat (c.nodes)) fun k => List.map AC.v ((fun i => [Value.int .i64 (pairF c (2 * c.np) i)]) k))), some (ABlk.mk true true 3 1 (Cs.arr (c.np) fun k => List.map AC.v ((fun i => [Value.int .i64 (c.fp i)]) k))), some (ABlk.mk true true 3 1 (Cs.arr (c.ns) fun k => List.map AC.v ((fun i => [Value.int .i64 (c.fs i)]) k))), some (ABlk.mk true true 3 1 (Cs.arr (c.nb) fun k => List.map AC.v ((fun i => [Value.int .i64 (c.fb i)]) k))), some (ABlk.mk true true 47 3 (Cs.arr (c.nt) fun k => List.map AC.v ((fun i => [Value.int .i64 (Station.node (c.ft i)), Value.int .u32 (Station.safe (c.ft i)), Value.int .i64 (Station.hold (c.ft i))]) k))), some (ABlk.mk true true 3 1 (Cs.arr (c.np) fun k => List.map AC.v ((fun i => [Value.int .i64 ((fun p => Int.ofNat (f p)) i)]) k)))] 161 100000000000000000000000000000000000000000000000004 (mkFr 161 [(2, .c (.ptr 10 0 0)), (5, .c (.ptr 39 0 0))]) (List.zip (List.take 8 hvIds) ([signB, cfgB c] ++ netYh c)) 10000000000000000000000000000000000000000000000000000 (Exit.exit 2) none, LoopV Tryd.prog (loopAt Tryd.prog 8 0) [1, 2, 5, 7, 8] hvIds [some (.c (.v (.int .i64 s))), some (.c (.ptr 10 0 0)), some (.c (.ptr 39 0 0)), some (.c (.sl 55 0 0 (Int.toNat ↑(c.np)) none)), some (.c (.v (.int .i64 (Int.ofNat 0))))] [some (ABlk.mk false false 107 0 (Cs.lit [.v (.int .i64 (Int.ofNat 1)), .v (.int .i64 (Int.negSucc 0))])), some (ABlk.mk true false 25 0 (Cs.lit [.v (.int .i64 (c.nodes)), AC.sl 0 0 0 (c.np) none, AC.sl 1 0 0 (c.ns) none, .v (.int .i64 (c.long)), AC.sl 2 0 0 (c.nb) none, AC.sl 3 0 0 (c.nt) none, .v (.int .i64 (c.miss)), .v (.int .i64 (c.good)), .v (.int .i64 (c.fresh))])), some (ABlk.mk true false 130 0 (Cs.lit [.v (.int .i64 (c.nodes)), AC.sl 41 0 0 (c.np) (some (c.np)), AC.sl 42 0 0 (c.ns) (some (c.ns)), .v (.int .i64 (c.long)), AC.sl 43 0 0 (c.nb) (some (c.nb)), AC.sl 44 0 0 (c.nt) (some (c.nt)), .v (.int .i64 (c.miss)), .v (.int .i64 (c.good)), .v (.int .i64 (c.fresh)), AC.sl 40 0 0 (Int.toNat (c.nodes)) none])), some (ABlk.mk true true 3 1 (Cs.arr (Int.toNat (c.nodes)) fun k => List.map AC.v ((fun i => [Value.int .i64 (pairF c (2 * c.np) i)]) k))), some (ABlk.mk true true 3 1 (Cs.arr (c.np) fun k => List.map AC.v ((fun i => [Value.int .i64 (c.fp i)]) k))), some (ABlk.mk true true 3 1 (Cs.arr (c.ns) fun k => List.map AC.v ((fun i => [Value.int .i64 (c.fs i)]) k))), some (ABlk.mk true true 3 1 (Cs.arr (c.nb) fun k => List.map AC.v ((fun i => [Value.int .i64 (c.fb i)]) k))), some (ABlk.mk true true 47 3 (Cs.arr (c.nt) fun k => List.map AC.v ((fun i => [Value.int .i64 (Station.node (c.ft i)), Value.int .u32 (Station.safe (c.ft i)), Value.int .i64 (Station.hold (c.ft i))]) k))), some (ABlk.mk true true 3 1 (Cs.arr (Int.toNat ↑(c.np)) fun x => List.map AC.v (Array.toList (Value.cells (Value.int .i64 0)))))] 161 58 (mkFr 161 [(1, i64 s), (2, .c (.ptr 10 0 0)), (5, .c (.ptr 39 0 0)), (7, .c (.sl 55 0 0 (c.np) none))]) (List.zip hvIds (hvBk c f)) 100000000000000000000000000000000000000000000000000 (Exit.exit 0) none])) ∧ ((roundN c (Int.toNat (c.nodes)) == IntKind.wrap .i64 (c.long * ↑(c.ns))) = false → Q (.c (.v (.bool false)), [], 10000000000130000000000000000000000000000000000000000, [(roundN c (Int.toNat (c.nodes)) == IntKind.wrap .i64 (c.long * ↑(c.ns))) == false, true, true, true, netK c (Int.toNat (c.nodes)) (pairF c (2 * c.np)), true, decide (Int.ofNat 0 ≤ ↑(c.np) ∧ Int.ofNat (c.np) = Int.ofNat (c.np) ∧ ↑(c.np) * Int.ofNat 8 ≤ Int.ofNat 140737488355328), true, cfgK c, decide (c.nb ≤ 9223372036854775807), decide (err c = Int.ofNat 0), true, true, true, true, true, true, decide (↑(c.nt) > Int.ofNat 60) == false, true, decide (↑(c.nb) > Int.ofNat 60) == false, true, decide (↑(c.ns) > Int.ofNat 60) == false, true, decide (↑(c.np) > Int.ofNat 60) == false, true, true, true, true, true, true, true], [LoopV Tryd.prog (loopAt Tryd.prog 8 1) [2, 5, 7, 12, 13] hvIds [some (.c (.ptr 10 0 0)), some (.c (.ptr 39 0 0)), some (.c (.sl 55 0 0 (c.np) none)), some (.c (.v (.int .i64 (hvMask s)))), some (.c (.v (.int .i64 (Int.ofNat 0))))] [some (ABlk.mk false false 107 0 (Cs.lit [.v (.int .i64 (Int.ofNat 1)), .v (.int .i64 (Int.negSucc 0))])), some (ABlk.mk true false 25 0 (Cs.lit [.v (.int .i64 (c.nodes)), AC.sl 0 0 0 (c.np) none, AC.sl 1 0 0 (c.ns) none, .v (.int .i64 (c.long)), AC.sl 2 0 0 (c.nb) none, AC.sl 3 0 0 (c.nt) none, .v (.int .i64 (c.miss)), .v (.int .i64 (c.good)), .v (.int .i64 (c.fresh))])), some (ABlk.mk true false 130 0 (Cs.lit [.v (.int .i64 (c.nodes)), AC.sl 41 0 0 (c.np) (some (c.np)), AC.sl 42 0 0 (c.ns) (some (c.ns)), .v (.int .i64 (c.long)), AC.sl 43 0 0 (c.nb) (some (c.nb)), AC.sl 44 0 0 (c.nt) (some (c.nt)), .v (.int .i64 (c.miss)), .v (.int .i64 (c.good)), .v (.int .i64 (c.fresh)), AC.sl 40 0 0 (Int.toNat (c.nodes)) none])), some (ABlk.mk true true 3 1 (Cs.arr (Int.toNat (c.nodes)) fun k => List.map AC.v ((fun i => [Value.int .i64 (pairF c (2 * c.np) i)]) k))), some (ABlk.mk true true 3 1 (Cs.arr (c.np) fun k => List.map AC.v ((fun i => [Value.int .i64 (c.fp i)]) k))), some (ABlk.mk true true 3 1 (Cs.arr (c.ns) fun k => List.map AC.v ((fun i => [Value.int .i64 (c.fs i)]) k))), some (ABlk.mk true true 3 1 (Cs.arr (c.nb) fun k => List.map AC.v ((fun i => [Value.int .i64 (c.fb i)]) k))), some (ABlk.mk true true 47 3 (Cs.arr (c.nt) fun k => List.map AC.v ((fun i => [Value.int .i64 (Station.node (c.ft i)), Value.int .u32 (Station.safe (c.ft i)), Value.int .i64 (Station.hold (c.ft i))]) k))), some (ABlk.mk true true 3 1 (Cs.arr (c.np) fun k => List.map AC.v ((fun i => [Value.int .i64 ((fun p => Int.ofNat (f p)) i)]) k)))] 161 100000000000000000000000000000000000000000000000004 (mkFr 161 [(2, .c (.ptr 10 0 0)), (5, .c (.ptr 39 0 0))]) (List.zip (List.take 8 hvIds) ([signB, cfgB c] ++ netYh c)) 10000000000000000000000000000000000000000000000000000 (Exit.exit 2) none, LoopV Tryd.prog (loopAt Tryd.prog 8 0) [1, 2, 5, 7, 8] hvIds [some (.c (.v (.int .i64 s))), some (.c (.ptr 10 0 0)), some (.c (.ptr 39 0 0)), some (.c (.sl 55 0 0 (Int.toNat ↑(c.np)) none)), some (.c (.v (.int .i64 (Int.ofNat 0))))] [some (ABlk.mk false false 107 0 (Cs.lit [.v (.int .i64 (Int.ofNat 1)), .v (.int .i64 (Int.negSucc 0))])), some (ABlk.mk true false 25 0 (Cs.lit [.v (.int .i64 (c.nodes)), AC.sl 0 0 0 (c.np) none, AC.sl 1 0 0 (c.ns) none, .v (.int .i64 (c.long)), AC.sl 2 0 0 (c.nb) none, AC.sl 3 0 0 (c.nt) none, .v (.int .i64 (c.miss)), .v (.int .i64 (c.good)), .v (.int .i64 (c.fresh))])), some (ABlk.mk true false 130 0 (Cs.lit [.v (.int .i64 (c.nodes)), AC.sl 41 0 0 (c.np) (some (c.np)), AC.sl 42 0 0 (c.ns) (some (c.ns)), .v (.int .i64 (c.long)), AC.sl 43 0 0 (c.nb) (some (c.nb)), AC.sl 44 0 0 (c.nt) (some (c.nt)), .v (.int .i64 (c.miss)), .v (.int .i64 (c.good)), .v (.int .i64 (c.fresh)), AC.sl 40 0 0 (Int.toNat (c.nodes)) none])), some (ABlk.mk true true 3 1 (Cs.arr (Int.toNat (c.nodes)) fun k => List.map AC.v ((fun i => [Value.int .i64 (pairF c (2 * c.np) i)]) k))), some (ABlk.mk true true 3 1 (Cs.arr (c.np) fun k => List.map AC.v ((fun i => [Value.int .i64 (c.fp i)]) k))), some (ABlk.mk true true 3 1 (Cs.arr (c.ns) fun k => List.map AC.v ((fun i => [Value.int .i64 (c.fs i)]) k))), some (ABlk.mk true true 3 1 (Cs.arr (c.nb) fun k => List.map AC.v ((fun i => [Value.int .i64 (c.fb i)]) k))), some (ABlk.mk true true 47 3 (Cs.arr (c.nt) fun k => List.map AC.v ((fun i => [Value.int .i64 (Station.node (c.ft i)), Value.int .u32 (Station.safe (c.ft i)), Value.int .i64 (Station.hold (c.ft i))]) k))), some (ABlk.mk true true 3 1 (Cs.arr (Int.toNat ↑(c.np)) fun x => List.map AC.v (Array.toList (Value.cells (Value.int .i64 0)))))] 161 58 (mkFr 161 [(1, i64 s), (2, .c (.ptr 10 0 0)), (5, .c (.ptr 39 0 0)), (7, .c (.sl 55 0 0 (c.np) none))]) (List.zip hvIds (hvBk c f)) 100000000000000000000000000000000000000000000000000 (Exit.exit 0) none])))) :
    ∃ p r, lwR (ENl0 Tryd.prog err ctsHv) 8 mS c [i64 s] p [some (hvS c f s), some (hwS c)] = some r ∧ Q r := by
  rcases Bool.eq_false_or_eq_true (roundN c (Int.toNat (c.nodes)) == IntKind.wrap .i64 (c.long * ↑(c.ns))) with h2 | h2
  · have g2 := H.1 h2
    exact ⟨([.b false, .a, .a, .a, .b false, .a, .a, .a, .b false, .a, .a, .a, .b false, .a, .b true] : List Dec), _, by kernel_rfl, g2⟩
  · have g2 := H.2 h2
    exact ⟨([.b false, .a, .a, .a, .b false, .a, .a, .a, .b false, .a, .a, .a, .b false, .a, .b false] : List Dec), _, by kernel_rfl, g2⟩
end Go.Proofs.YtgfmjbfjodidpaaDoor
end
/- ConfigsHalves: sums of its loops; what its runs answer. -/
section
namespace Go.Proofs.YtgfmjbfjodidpaaDoor
open Go.RowKit

theorem hvBk_low {c : Cfg} {f : Nat → Nat} {n : Nat} (hn : 45 ≤ n) : ∀ b ∈ hvBk c f, lowB n b := by
  intro b hb
  simp only [List.cons_append, List.nil_append, List.mem_cons, List.mem_append] at hb
  rcases hb with rfl | rfl | h
  · exact low_lit rfl
  · exact cfgB_low (by omega)
  · rcases h with h | h | h | h | h | h | h
    · exact netY_lowk (ib := 39) (c := c) (by omega) b (by simp [h])
    · exact netY_lowk (ib := 39) (c := c) (by omega) b (by simp [h])
    · exact netY_lowk (ib := 39) (c := c) (by omega) b (by simp [h])
    · exact netY_lowk (ib := 39) (c := c) (by omega) b (by simp [h])
    · exact netY_lowk (ib := 39) (c := c) (by omega) b (by simp [h])
    · exact netY_lowk (ib := 39) (c := c) (by omega) b (by simp [h])
    · rcases h with rfl | h
      · exact wBlk_low
      · cases h
theorem hvN_succ (c : Cfg) (i p : Nat) : hvN c (i + 1) p = hvN c i p + (if pairF c (2 * c.np) i == (p : Int) then 1 else 0) := rfl
theorem hv_sum (c : Cfg) (s : Int) (g : CfgGood c) (he : cfgErr c = 0) {eblks : List (Option ABlk)} (heb : BL (hvBk c (hvN c 0)) eblks) :
    LoopV Tryd.prog (loopAt Tryd.prog 8 0) [1, 2, 5, 7, 8] hvIds ((hvV c s 0).map some) eblks 161 58 (mkFr 161 [(1, i64 s), (2, .c (.ptr 10 0 0)), (5, .c (.ptr 39 0 0)), (7, .c (.sl 55 0 0 c.np none))]) (hvIds.zip (hvBk c (hvN c c.nodes.toNat))) 100000000000000000000000000000000000000000000000000 (.exit 0) none := by
  have n4 := g.n4
  have n16 := g.n16
  have p8 := g.p8
  have nd := cfg_nod he
  refine loop_viewE (hENl0 ctsHv_ok) (fuel := 100) (str := 10000000000000000000000000000000000000000) (nh := 1000000000000000000000000000000000000000000) (n := 58) (n' := 100000000000000000000000000000000000000000000000000) (S := Nat) (fun i => i ≤ c.nodes.toNat) (fun i => c.nodes.toNat - i) [1, 2, 5, 7, 8] [] hvIds (fun i => hvV c s i) (fun i => hvBk c (hvN c i)) (by decide) (by decide) (by unfold lim; omega) (s0 := 0) (by omega) (fun _ => ⟨rfl, rfl⟩) (by kernel_rfl) heb (fun i _ => ⟨rfl, hvBk_low (by omega)⟩) ?_
  intro i hi
  refine (?_ : (∃ p r, hvR Tryd.prog cfgErr c (hvN c i) s i p = some r ∧ _) → _) (hv cfgErr c (hvN c i) s i (StepV 58 100000000000000000000000000000000000000000000000000 161 [1, 2, 5, 7, 8] [] hvIds (fun i => i ≤ c.nodes.toNat) (fun i => c.nodes.toNat - i) (fun i => hvV c s i) (fun i => hvBk c (hvN c i)) (.exit 0) [(1, i64 s), (2, .c (.ptr 10 0 0)), (5, .c (.ptr 39 0 0)), (7, .c (.sl 55 0 0 c.np none))] (hvIds.zip (hvBk c (hvN c c.nodes.toNat))) i) ?_)
  · rintro ⟨p, r, h1, h2⟩
    exact ⟨p, [], r, h1, h2⟩
  · have hw : IntKind.wrap IntKind.i64 (Int.ofNat i + Int.ofNat 1) = Int.ofNat (i + 1) := wrap_nat1 i (by omega)
    have m1 : Int.negSucc 0 = -1 := rfl
    simp only [hw, List.headD_cons, m1]
    rcases Nat.lt_or_ge i c.nodes.toNat with hlt | hge
    · have hz : (0 : Int) ≤ Int.ofNat i ∧ Int.ofNat i < c.nodes := by simp; omega
      have ep : pairN c c.nodes.toNat (pairF c (2 * c.np)) (Int.ofNat i) = pairF c (2 * c.np) i := by
        unfold pairN atF
        rw [if_neg (by omega), if_pos (by simp; omega)]
        rfl
      rcases node_cases g nd hz with ⟨e1, e2⟩ | ⟨o, a, o1, o2, ea, a1, a2, e1, e3, hh⟩
      · simp only [e1, e2]
        rw [ep] at e1
        (repeat' (first | refine ⟨fun h => ?_, fun h => ?_⟩ | fail))
        all_goals (first | (exfalso; simp at *; done) | (exfalso; simp at *; omega) | skip)
        refine ⟨?_, rfl, by dsimp only; omega, rfl, .inl ⟨rfl, i + 1, by omega, by show c.nodes.toNat - (i + 1) < c.nodes.toNat - i; omega, rfl, ?_⟩⟩
        · simp [allT, cfgK_t, netK_t, intsOk_ints, stsOk_sts, intsOk_s, stsOk_s]
          simp at hz
          omega
        · refine ⟨BEq.refl _, BEq.refl _, BEq.refl _, BEq.refl _, BEq.refl _, BEq.refl _, BEq.refl _, BEq.refl _, ⟨rfl, rfl, rfl, rfl, .inr (.inl ⟨c.np, _, _, rfl, rfl, fun q hq => ?_⟩)⟩, trivial⟩
          show _ = List.map AC.v [Value.int .i64 (Int.ofNat (hvN c (i + 1) q))]
          rw [hvN_succ, if_neg (by rw [e1]; simp)]
          rfl
      · have ei : pairF c (2 * c.np) i = o := by rw [← ep, e1]
        have hv0 := hvN_succ c i
        have hc := cntF_le (fun k => pairF c (2 * c.np) k == ((o.toNat : Nat) : Int)) i
        have hc' : hvN c i o.toNat ≤ i := hc
        have hww : IntKind.wrap IntKind.i64 (Int.ofNat (hvN c i (0 + o.toNat)) + Int.ofNat 1) = Int.ofNat (hvN c i o.toNat + 1) := by rw [Nat.zero_add]; exact wrap_nat1 _ (by omega)
        have blk : ∀ q, q < c.np → (if q = 0 + o.toNat then setL ((fun k => List.map AC.v ((fun i' => [Value.int .i64 ((fun p => Int.ofNat (hvN c i p)) i')]) k)) q) 0 [.v (.int .i64 (IntKind.wrap .i64 (Int.ofNat (hvN c i (0 + o.toNat)) + Int.ofNat 1)))] else List.map AC.v ((fun i' => [Value.int .i64 ((fun p => Int.ofNat (hvN c i p)) i')]) q)) = List.map AC.v [Value.int .i64 (Int.ofNat (hvN c (i + 1) q))] := by
          intro q hq
          rw [hv0 q, hww, Nat.zero_add]
          by_cases hqo : q = o.toNat
          · subst hqo
            rw [if_pos rfl, if_pos (by rw [ei]; simp; omega)]
            rfl
          · rw [if_neg hqo, if_neg (by rw [ei]; simp; omega)]
            rfl
        have d0 : decide (Int.ofNat i < c.nodes) = true := decide_eq_true hz.2
        have d1 : decide (o < Int.ofNat 0) = false := decide_eq_false (by simp; omega)
        have d2 : decide (o ≥ (c.np : Int)) = false := decide_eq_false (by omega)
        have d3 : (o != o) = false := by simp
        have d4 : ((0 : Int) != Int.ofNat 0) = false := by simp
        have d5 : ((1 : Int) != Int.ofNat 1) = false := by simp
        have d6 : (Int.ofNat i != Int.ofNat i) = false := by simp
        have d7 : (Int.ofNat i == Int.ofNat i) = true := by simp
        clear hv0 hc
        rcases hh with ⟨za, b1, b2, b3, b4⟩ | ⟨zn, zb, b1, b2, b3, b4⟩
        · subst za
          have b4' : distF c.nodes (Int.ofNat 0) (Int.ofNat i) (Int.ofNat i) = 0 := b4
          simp only [e1, b1, b2, b3, e3, b4', d0, d1, d2, d3, d4, d5, d6, d7, Bool.false_eq_true, Bool.true_eq_false, false_implies, true_implies, forall_const, and_true, true_and]
          refine ⟨?_, rfl, by dsimp only; omega, rfl, .inl ⟨rfl, i + 1, by omega, by show c.nodes.toNat - (i + 1) < c.nodes.toNat - i; omega, rfl, ?_⟩⟩
          · simp only [allT, List.forall_mem_cons, d0, d1, d2, d3, d4, d5, d6, d7]
            simp [cfgK_t, netK_t, intsOk_ints, stsOk_sts, intsOk_s, stsOk_s, okN4_eq, inb_arr, inb_lit]
            omega
          · exact ⟨BEq.refl _, BEq.refl _, BEq.refl _, BEq.refl _, BEq.refl _, BEq.refl _, BEq.refl _, BEq.refl _, ⟨rfl, rfl, rfl, rfl, .inr (.inl ⟨c.np, _, _, rfl, rfl, blk⟩)⟩, trivial⟩
        · have t1 : (Int.ofNat i == a) = false := by simp; exact zn
          have t2 : (Int.ofNat i != a) = true := by simp; exact zn
          have b4' : distF c.nodes (Int.ofNat 0) a (Int.ofNat i) = 1 := b4
          simp only [e1, b1, b2, b3, e3, b4', d0, d1, d2, d3, d4, d5, d6, d7, t1, t2, Bool.false_eq_true, Bool.true_eq_false, false_implies, true_implies, forall_const, and_true, true_and]
          refine ⟨?_, rfl, by dsimp only; omega, rfl, .inl ⟨rfl, i + 1, by omega, by show c.nodes.toNat - (i + 1) < c.nodes.toNat - i; omega, rfl, ?_⟩⟩
          · simp only [allT, List.forall_mem_cons, d0, d1, d2, d3, d4, d5, d6, d7, t1, t2]
            simp [cfgK_t, netK_t, intsOk_ints, stsOk_sts, intsOk_s, stsOk_s, okN4_eq, inb_arr, inb_lit]
            omega
          · exact ⟨BEq.refl _, BEq.refl _, BEq.refl _, BEq.refl _, BEq.refl _, BEq.refl _, BEq.refl _, BEq.refl _, ⟨rfl, rfl, rfl, rfl, .inr (.inl ⟨c.np, _, _, rfl, rfl, blk⟩)⟩, trivial⟩
    · obtain rfl : i = c.nodes.toNat := by omega
      refine ⟨fun h => ?_, fun h => ?_⟩
      · exfalso; simp at h; omega
      · refine ⟨by simp [allT]; omega, rfl, by dsimp only; omega, rfl, .inr ⟨by simp, rfl, fun q hq => ?_, mem_end (by kernel_rfl) (hvBk_low (by omega))⟩⟩
        simp only [List.mem_cons, List.not_mem_nil, or_false] at hq
        rcases hq with rfl | rfl | rfl | rfl <;> exact ⟨rfl, by simp [lkA]⟩
theorem hw_sum (c : Cfg) (a : Int) (g : CfgGood c) (he : cfgErr c = 0) (h0 : 0 ≤ a) (h1 : a ≤ 1099511627775) {eblks : List (Option ABlk)} (heb : BL (hvBk c (hvN c c.nodes.toNat)) eblks) :
    LoopV Tryd.prog (loopAt Tryd.prog 8 1) [2, 5, 7, 12, 13] hvIds ((hwV c a 0).map some) eblks 161 100000000000000000000000000000000000000000000000004 (mkFr 161 [(2, .c (.ptr 10 0 0)), (5, .c (.ptr 39 0 0))]) ((hvIds.take 8).zip ([signB, cfgB c] ++ netYh c)) 10000000000000000000000000000000000000000000000000000 (.exit 2) none := by
  have n4 := g.n4
  have n16 := g.n16
  have p8 := g.p8
  have s1 := g.s1
  have s16 := g.s16
  have nd := cfg_nod he
  have hp : nxPre c c.nodes.toNat = true := by simp [nxPre, good_wi g (show 0 < c.nodes.toNat by omega), good_has g]
  refine loop_viewE (hENl0 ctsHv_ok) (fuel := 100) (str := 10000000000000000000000000000000000000000) (nh := 1000000000000000000000000000000000000000000000000000) (n := 100000000000000000000000000000000000000000000000004) (n' := 10000000000000000000000000000000000000000000000000000) (S := Nat) (fun i => i ≤ c.np) (fun i => c.np - i) [2, 5, 7, 12, 13] [] hvIds (fun i => hwV c a i) (fun i => hvBk c (hvN c c.nodes.toNat)) (by decide) (by decide) (by unfold lim; omega) (s0 := 0) (by omega) (fun _ => ⟨rfl, rfl⟩) (by kernel_rfl) heb (fun i _ => ⟨rfl, hvBk_low (by omega)⟩) ?_
  intro i hi
  refine (?_ : (∃ p r, hwR Tryd.prog cfgErr c (hvN c c.nodes.toNat) a i p = some r ∧ _) → _) (hw cfgErr c (hvN c c.nodes.toNat) a i (StepV 100000000000000000000000000000000000000000000000004 10000000000000000000000000000000000000000000000000000 161 [2, 5, 7, 12, 13] [] hvIds (fun i => i ≤ c.np) (fun i => c.np - i) (fun i => hwV c a i) (fun i => hvBk c (hvN c c.nodes.toNat)) (.exit 2) [(2, .c (.ptr 10 0 0)), (5, .c (.ptr 39 0 0))] ((hvIds.take 8).zip ([signB, cfgB c] ++ netYh c)) i) ?_)
  · rintro ⟨p, r, h1, h2⟩
    exact ⟨p, [], r, h1, h2⟩
  · have hw : IntKind.wrap IntKind.i64 (Int.ofNat i + Int.ofNat 1) = Int.ofNat (i + 1) := wrap_nat1 i (by omega)
    have ei : 0 + Int.toNat (Int.ofNat i) = i := by simp
    simp only [hw, List.headD_cons, ei]
    rcases Nat.lt_or_ge i c.np with hlt | hge
    · have h2 := hvN_two g nd hlt
      obtain ⟨f1, f2, f3⟩ := next_facts g (s := a) (o := Int.ofNat i) h0 (by omega) (by simp; omega)
      have w1 : IntKind.wrap IntKind.i64 (a + (c.ns : Int)) = a + c.ns := wrap_nat _ (by omega) (by omega)
      have w2 : Int.tmod (nextF c a (Int.ofNat i)) (c.ns : Int) = nextF c a (Int.ofNat i) % c.ns := Int.tmod_eq_emod_of_nonneg (by omega)
      simp only [h2, w1, w2, f3]
      generalize nextF c a (Int.ofNat i) = z at *
      (repeat' (first | refine ⟨fun h => ?_, fun h => ?_⟩ | fail))
      all_goals (first | (exfalso; simp at *; done) | (exfalso; simp at *; omega) | skip)
      refine ⟨?_, rfl, by dsimp only; omega, rfl, .inl ⟨rfl, i + 1, by omega, by show c.np - (i + 1) < c.np - i; omega, rfl, BL.refl (hvBk c (hvN c c.nodes.toNat))⟩⟩
      simp only [allT, List.forall_mem_cons, nxtQ_eq]
      simp_all [cfgK_t, netK_t, intsOk_ints, stsOk_sts, intsOk_s, stsOk_s, inb_arr, inb_lit]
      omega
    · obtain rfl : i = c.np := by omega
      refine ⟨fun h => ?_, fun h => ?_⟩
      · exfalso; simp at h
      · refine ⟨by simp [allT], rfl, by dsimp only; omega, rfl, .inr ⟨by simp, rfl, fun q hq => ?_, ?_⟩⟩
        · simp only [List.mem_cons, List.not_mem_nil, or_false] at hq
          rcases hq with rfl | rfl <;> exact ⟨rfl, by simp [lkA]⟩
        · intro p hpp
          have hm := mem_end (ids := hvIds) (bs := hvBk c (hvN c c.nodes.toNat)) (n := 100000000000000000000000000000000000000000000000004) (n' := 10000000000000000000000000000000000000000000000000000) (by kernel_rfl) (hvBk_low (by omega)) p
          refine hm ?_
          simp only [List.take, List.zip_cons_cons, List.zip_nil_left, List.cons_append, List.nil_append, List.mem_cons, List.not_mem_nil, or_false] at hpp ⊢
          rcases hpp with h | h | h | h | h | h | h | h <;> simp [h]
end Go.Proofs.YtgfmjbfjodidpaaDoor
end
/- ConfigsHalves: what its runs answer. -/
section
namespace Go.Proofs.YtgfmjbfjodidpaaDoor
open Go.RowKit

theorem hvMask_in (a : Int) : 0 ≤ hvMask a ∧ hvMask a ≤ 1099511627775 := by
  unfold hvMask
  have h : BitVec.toNat (BitVec.ofInt (IntKind.bits IntKind.i64) a &&& BitVec.ofInt (IntKind.bits IntKind.i64) 1099511627775) ≤ 1099511627775 := by
    rw [BitVec.toNat_and]
    exact Nat.le_trans Nat.and_le_right (by decide)
  rw [wrap_nat _ (by omega) (by omega)]
  omega
set_option maxRecDepth 1000000 in
theorem hv_run1 (c : Cfg) (s : Int) (h0 : cfgErr c ≠ 0) (hb : c.nb ≤ 9223372036854775807) : ∃ p r, lwR (ENl1 Tryd.prog cfgErr ctsHv) 8 mS c [i64 s] p [] = some r ∧ GoodF (bo true) r := by
  refine hvE cfgErr c s _ ?_
  (repeat' (first | refine ⟨fun h => ?_, fun h => ?_⟩ | fail))
  all_goals (refine ⟨rfl, (by first | (unfold lim; omega) | (dsimp only; unfold lim; omega)), ?_, by simp⟩)
  all_goals (simp_all [allT, cfgK_t, netK_t, intsOk_ints, stsOk_sts, intsOk_s, stsOk_s, h0, hb])
set_option maxRecDepth 1000000 in
theorem hv_run0 (c : Cfg) (s : Int) (h0 : cfgErr c = 0) (hb : c.nb ≤ 9223372036854775807) : ∃ p r, lwR (ENl0 Tryd.prog cfgErr ctsHv) 8 mS c [i64 s] p [some (hvS c (hvN c c.nodes.toNat) s), some (hwS c)] = some r ∧ GoodF (bo true) r := by
  refine hvA cfgErr c (hvN c c.nodes.toNat) s _ ?_
  have g := cfg_good h0
  have n4 := g.n4
  have n16 := g.n16
  have p2 := g.p2
  have p8 := g.p8
  have n3 := g.s16
  have nt := g.nt
  have nb := g.nb
  have hA := hvMask_in s
  have s0 := hv_sum c s g h0 (eblks := [some signB, some (cfgB c), some (netY 39 c), some (intsW c.nodes.toNat (pairF c (2 * c.np))), some (intsW c.np c.fp), some (intsW c.ns c.fs), some (intsW c.nb c.fb), some (stsW c.nt c.ft), some ⟨true, true, 3, 1, .arr c.np fun _ => [.v (.int .i64 0)]⟩]) ⟨BEq.refl _, BEq.refl _, BEq.refl _, BEq.refl _, BEq.refl _, BEq.refl _, BEq.refl _, BEq.refl _, ⟨rfl, rfl, rfl, rfl, .inr (.inl ⟨c.np, _, _, rfl, rfl, fun _ _ => rfl⟩)⟩, trivial⟩
  have s1 := hw_sum c (hvMask s) g h0 hA.1 hA.2 (BL.refl (hvBk c (hvN c c.nodes.toNat)))
  have hp0 := good_pre g (nq := c.nodes.toNat) (by omega)
  obtain ⟨er, r1, r2, _⟩ := ck_round hp0
  have w1 : IntKind.wrap IntKind.i64 (c.long * (c.ns : Int)) = c.ns * c.long := by rw [Int.mul_comm]; exact wrap_nat _ (by omega) (by omega)
  simp only [er, w1]
  (repeat' (first | refine ⟨fun h => ?_, fun h => ?_⟩ | fail))
  all_goals (first | (exfalso; simp at *; done) | skip)
  refine ⟨rfl, (by first | (unfold lim; omega) | (dsimp only; unfold lim; omega)), ?_, fun q hq => ?_⟩
  · simp [allT, cfgK_t, netK_t, intsOk_ints, stsOk_sts, intsOk_s, stsOk_s, h0, hb]
    omega
  · simp only [List.mem_cons, List.not_mem_nil, or_false] at hq
    rcases hq with rfl | rfl
    · first | exact s1 | exact s0
    · first | exact s0 | exact s1
end Go.Proofs.YtgfmjbfjodidpaaDoor
end
