/- Parts, one behind the other. Laws of a config that came in: from their runs to their calls. -/
import Derived.Test.YtiflbhmccenemaaDoorJModesAny18
import Derived.Test.YtiflbhmccenemaaDoorJModesAny15
import Derived.Test.YtiflbhmccenemaaDoorJModesAny10
set_option linter.unusedSimpArgs false
set_option linter.unusedVariables false
/- Laws of a config that came in: from their runs to their calls. -/
section
namespace Go.Proofs.YtiflbhmccenemaaDoor
open Go.RowKit

def lwR (E : Env) (f : FuncId) (G : AMem) (c : Cfg) (r : List AV) (path : List Dec) (lp : List (Option LSum)) : Option VF := viewF [] (fCallF E (fC E 300) f (.agg (cfgC c) :: r) 10 10000000000000000000000000000000000000000 (stA (G ++ cfgL c) path lp))
theorem cfg_law {E : Env} (hE : EnvOk E) {f : FuncId} {G : AMem} {w : World} (hG : ∀ p ∈ G, GlobAt w p) {c : Cfg} {cs : List Value} (hc : CfgIn w c cs) {r : List AV} {us : List Value} (hr : ∀ β, γt β r = some us)
    (run : ∃ p lp q, lwR E f G c r p lp = some q ∧ GoodF (bo true) q) : Calls E.P f (.agg cs.toArray :: us).toArray w fun e w' => e = .returned (.bool true) ∧ Below w.heap.size w w' := by
  obtain ⟨p, lp, ⟨v, b', n, ob, po⟩, hrun, hv, hn, hob, hpo⟩ := run
  obtain ⟨s', r1, r2, r3, r4⟩ := viewF_out hrun
  obtain ⟨β, q1, q2, _, q4⟩ := rel_cfgIn hG hc
  have hn : n ≤ lim := hn
  refine (calls_f hE r1 ⟨by rw [r3]; exact hob, by rw [r4]; exact hpo⟩ (C := loneC w) (β := β) (w := w) (vs := .agg cs.toArray :: us) ?_ q1 (fun id h1 h2 => q4 id (by omega) (by omega))).mono ?_
  · simp only [γt, γ1, q2, hr β]
  · rintro e w' ⟨β', u, rfl, _, _, hu, hr'⟩
    simp only at hv
    subst hv
    cases hu
    exact ⟨rfl, below_lone hr'⟩
theorem cfgErr_zero {c : Cfg} (h : cfgErr c = 0) : rule1 c = 0 ∧ rule2 c = 0 ∧ rule3 c = 0 ∧ rule4 c = 0 ∧ rule5 c = 0 ∧ rule6 c = 0 ∧ rule7 c = 0 ∧ rule8 c = 0 ∧ rule9 c = 0 ∧ rule10 c = 0 := by
  unfold cfgErr at h
  generalize rule1 c = x1 at *
  generalize rule2 c = x2 at *
  generalize rule3 c = x3 at *
  generalize rule4 c = x4 at *
  generalize rule5 c = x5 at *
  generalize rule6 c = x6 at *
  generalize rule7 c = x7 at *
  generalize rule8 c = x8 at *
  generalize rule9 c = x9 at *
  generalize rule10 c = x10 at *
  by_cases h1 : x1 = 0 <;> by_cases h2 : x2 = 0 <;> by_cases h3 : x3 = 0 <;> by_cases h4 : x4 = 0 <;> by_cases h5 : x5 = 0 <;> by_cases h6 : x6 = 0 <;> by_cases h7 : x7 = 0 <;> by_cases h8 : x8 = 0 <;> by_cases h9 : x9 = 0 <;> simp_all
theorem cfg_nodes {c : Cfg} (h : cfgErr c = 0) : 4 ≤ c.nodes ∧ c.nodes ≤ 16 := withinF_zero (cfgErr_zero h).1
theorem cfg_np {c : Cfg} (h : cfgErr c = 0) : 2 ≤ c.np ∧ c.np ≤ 8 := by
  have := withinF_zero (cfgErr_zero h).2.1
  omega
end Go.Proofs.YtiflbhmccenemaaDoor
end
/- What a view asks for, of a config that may be: by the pairs that it has. -/
section
namespace Go.Proofs.YtiflbhmccenemaaDoor
open Go.RowKit

theorem fp_in {c : Cfg} (h : cfgErr c = 0) {p : Nat} (hp : p < c.np) : 0 ≤ c.fp p ∧ c.fp p < c.nodes := by
  have h3 := (cfgErr_zero h).2.2.1
  unfold rule3 at h3
  split at h3
  · rename_i hh
    simp only [Bool.and_eq_true] at hh
    have := List.all_eq_true.1 hh.1 p (by simpa using hp)
    simpa using this
  · cases h3
theorem headN_ok {c : Cfg} (h : cfgErr c = 0) {fq : Nat → Int} (p : Nat) : headN c c.nodes.toNat fq (Int.ofNat p) = if p < c.np then c.fp p else -1 := by
  have hn := cfg_nodes h
  unfold headN atF
  rw [if_neg (by omega)]
  by_cases hp : p < c.np
  · rw [if_pos hp, if_pos (by simp; omega)]; rfl
  · rw [if_neg hp, if_neg (by simp; omega)]
theorem hasB_ok {c : Cfg} (h : cfgErr c = 0) {fq : Nat → Int} (p : Nat) : hasB c c.nodes.toNat fq p = decide (p < c.np) := by
  unfold hasB
  rw [headN_ok h]
  by_cases hp : p < c.np
  · rw [if_pos hp]; have := fp_in h hp; simp [hp, this.1]
  · rw [if_neg hp]; simp [hp]
theorem cntF_lt (f : Nat → Bool) (n : Nat) : ∀ m, n ≤ m → cntF (fun p => decide (p < n) && f p) m = cntF f n
  | 0, h => by
    obtain rfl : n = 0 := by omega
    rfl
  | m + 1, h => by
    by_cases e : n = m + 1
    · subst e
      exact cntF_congr fun i hi => by simp [hi]
    · rw [cntF, cntF_lt f n m (by omega)]
      have : ¬ m < n := by omega
      simp [this]
theorem cntF_all (n : Nat) : cntF (fun _ => true) n = n := by
  induction n with
  | zero => rfl
  | succ n ih => rw [cntF, ih]; rfl
theorem asks_ok {c : Cfg} (h : cfgErr c = 0) (l : List AC) (cmd : Int) : asksC c (Int.toNat c.nodes) (pairF c (2 * c.np)) l cmd = refAs c.np l cmd := by
  have hp := cfg_np h
  unfold asksC refAs
  have e1 : insN c (Int.toNat c.nodes) (pairF c (2 * c.np)) l = refN c.np l := by
    unfold insN refN
    rw [← cntF_lt (fun p => asB (l.getD p nov)) c.np 8 (by omega)]
    exact cntF_congr fun i _ => by rw [hasB_ok h]
  have e2 : allN c (Int.toNat c.nodes) (pairF c (2 * c.np)) = c.np := by
    unfold allN
    have h1 := cntF_lt (fun _ => true) c.np 8 (by omega)
    rw [cntF_all] at h1
    refine Eq.trans (cntF_congr fun i _ => ?_) h1
    rw [hasB_ok h]; simp
  rw [e1, e2]
theorem pV_nextY (c : Cfg) (nq : Nat) (fq : Nat → Int) (u : Vw) : pV (fun l r => r.isEmpty && decide (0 ≤ asI (l.getD 41 nov))) ⟨c, nq, fq, [.agg (vwL u)]⟩ = decide (0 ≤ u.mode) := by
  simp only [pV, isVw_cells]; rfl
theorem pV_asksY (c : Cfg) (nq : Nat) (fq : Nat → Int) (u : Vw) : pV (fun _ r => r.isEmpty) ⟨c, nq, fq, [.agg (vwL u)]⟩ = true := rfl
theorem refAs_pos (n : Nat) (l : List AC) (cmd : Int) : 1 ≤ refAs n l cmd ∧ refAs n l cmd ≤ 4 := asksZ_pos _ _ _
end Go.Proofs.YtiflbhmccenemaaDoor
end
