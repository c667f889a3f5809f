/- What a view asks for, of a config that may be: by the pairs that it has. -/
import Derived.Test.YtgfmjbfjodidpaaDoorJModesWorse1
import Derived.Test.YtgfmjbfjodidpaaDoorJB0x17
set_option linter.unusedSimpArgs false
set_option linter.unusedVariables false
section
namespace Go.Proofs.YtgfmjbfjodidpaaDoor
open Go.RowKit

theorem fp_in {c : Cfg} (h : cfgErr c = 0) {p : Nat} (hp : p < c.np) : 0 ≤ c.fp p ∧ c.fp p < c.nodes := by
  have h3 := (cfgErr_zero h).2.2.1
  unfold rule3 at h3
  split at h3
  · rename_i hh
    simp only [Bool.and_eq_true] at hh
    have := List.all_eq_true.1 hh.1 p (by simpa using hp)
    simpa using this
  · cases h3
theorem headN_ok {c : Cfg} (h : cfgErr c = 0) {fq : Nat → Int} (p : Nat) : headN c c.nodes.toNat fq (Int.ofNat p) = if p < c.np then c.fp p else -1 := by
  have hn := cfg_nodes h
  unfold headN atF
  rw [if_neg (by omega)]
  by_cases hp : p < c.np
  · rw [if_pos hp, if_pos (by simp; omega)]; rfl
  · rw [if_neg hp, if_neg (by simp; omega)]
theorem hasB_ok {c : Cfg} (h : cfgErr c = 0) {fq : Nat → Int} (p : Nat) : hasB c c.nodes.toNat fq p = decide (p < c.np) := by
  unfold hasB
  rw [headN_ok h]
  by_cases hp : p < c.np
  · rw [if_pos hp]; have := fp_in h hp; simp [hp, this.1]
  · rw [if_neg hp]; simp [hp]
theorem cntF_lt (f : Nat → Bool) (n : Nat) : ∀ m, n ≤ m → cntF (fun p => decide (p < n) && f p) m = cntF f n
  | 0, h => by
    obtain rfl : n = 0 := by omega
    rfl
  | m + 1, h => by
    by_cases e : n = m + 1
    · subst e
      exact cntF_congr fun i hi => by simp [hi]
    · rw [cntF, cntF_lt f n m (by omega)]
      have : ¬ m < n := by omega
      simp [this]
theorem cntF_all (n : Nat) : cntF (fun _ => true) n = n := by
  induction n with
  | zero => rfl
  | succ n ih => rw [cntF, ih]; rfl
theorem asks_ok {c : Cfg} (h : cfgErr c = 0) (l : List AC) (cmd : Int) : asksC c (Int.toNat c.nodes) (pairF c (2 * c.np)) l cmd = refAs c.np l cmd := by
  have hp := cfg_np h
  unfold asksC refAs
  have e1 : insN c (Int.toNat c.nodes) (pairF c (2 * c.np)) l = refN c.np l := by
    unfold insN refN
    rw [← cntF_lt (fun p => asB (l.getD p nov)) c.np 8 (by omega)]
    exact cntF_congr fun i _ => by rw [hasB_ok h]
  have e2 : allN c (Int.toNat c.nodes) (pairF c (2 * c.np)) = c.np := by
    unfold allN
    have h1 := cntF_lt (fun _ => true) c.np 8 (by omega)
    rw [cntF_all] at h1
    refine Eq.trans (cntF_congr fun i _ => ?_) h1
    rw [hasB_ok h]; simp
  rw [e1, e2]
theorem pV_nextY (c : Cfg) (nq : Nat) (fq : Nat → Int) (u : Vw) : pV (fun l r => r.isEmpty && decide (0 ≤ asI (l.getD 41 nov))) ⟨c, nq, fq, [.agg (vwL u)]⟩ = decide (0 ≤ u.mode) := by
  simp only [pV, isVw_cells]; rfl
theorem pV_asksY (c : Cfg) (nq : Nat) (fq : Nat → Int) (u : Vw) : pV (fun _ r => r.isEmpty) ⟨c, nq, fq, [.agg (vwL u)]⟩ = true := rfl
end Go.Proofs.YtgfmjbfjodidpaaDoor
end
