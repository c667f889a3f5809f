/- Laws of a config that came in: from their runs to their calls. -/
import Derived.Test.YtiflbhmccenemaaDoorJModesTotal18
import Derived.Test.YtiflbhmccenemaaDoorJModesTotal16
import Derived.Test.YtiflbhmccenemaaDoorJModesTotal10
set_option linter.unusedSimpArgs false
set_option linter.unusedVariables false
section
namespace Go.Proofs.YtiflbhmccenemaaDoor
open Go.RowKit

def lwR (E : Env) (f : FuncId) (G : AMem) (c : Cfg) (r : List AV) (path : List Dec) (lp : List (Option LSum)) : Option VF := viewF [] (fCallF E (fC E 300) f (.agg (cfgC c) :: r) 10 10000000000000000000000000000000000000000 (stA (G ++ cfgL c) path lp))
theorem cfg_law {E : Env} (hE : EnvOk E) {f : FuncId} {G : AMem} {w : World} (hG : ∀ p ∈ G, GlobAt w p) {c : Cfg} {cs : List Value} (hc : CfgIn w c cs) {r : List AV} {us : List Value} (hr : ∀ β, γt β r = some us)
    (run : ∃ p lp q, lwR E f G c r p lp = some q ∧ GoodF (bo true) q) : Calls E.P f (.agg cs.toArray :: us).toArray w fun e w' => e = .returned (.bool true) ∧ Below w.heap.size w w' := by
  obtain ⟨p, lp, ⟨v, b', n, ob, po⟩, hrun, hv, hn, hob, hpo⟩ := run
  obtain ⟨s', r1, r2, r3, r4⟩ := viewF_out hrun
  obtain ⟨β, q1, q2, _, q4⟩ := rel_cfgIn hG hc
  have hn : n ≤ lim := hn
  refine (calls_f hE r1 ⟨by rw [r3]; exact hob, by rw [r4]; exact hpo⟩ (C := loneC w) (β := β) (w := w) (vs := .agg cs.toArray :: us) ?_ q1 (fun id h1 h2 => q4 id (by omega) (by omega))).mono ?_
  · simp only [γt, γ1, q2, hr β]
  · rintro e w' ⟨β', u, rfl, _, _, hu, hr'⟩
    simp only at hv
    subst hv
    cases hu
    exact ⟨rfl, below_lone hr'⟩
theorem cfgErr_zero {c : Cfg} (h : cfgErr c = 0) : rule1 c = 0 ∧ rule2 c = 0 ∧ rule3 c = 0 ∧ rule4 c = 0 ∧ rule5 c = 0 ∧ rule6 c = 0 ∧ rule7 c = 0 ∧ rule8 c = 0 ∧ rule9 c = 0 ∧ rule10 c = 0 := by
  unfold cfgErr at h
  generalize rule1 c = x1 at *
  generalize rule2 c = x2 at *
  generalize rule3 c = x3 at *
  generalize rule4 c = x4 at *
  generalize rule5 c = x5 at *
  generalize rule6 c = x6 at *
  generalize rule7 c = x7 at *
  generalize rule8 c = x8 at *
  generalize rule9 c = x9 at *
  generalize rule10 c = x10 at *
  by_cases h1 : x1 = 0 <;> by_cases h2 : x2 = 0 <;> by_cases h3 : x3 = 0 <;> by_cases h4 : x4 = 0 <;> by_cases h5 : x5 = 0 <;> by_cases h6 : x6 = 0 <;> by_cases h7 : x7 = 0 <;> by_cases h8 : x8 = 0 <;> by_cases h9 : x9 = 0 <;> simp_all
theorem cfg_nodes {c : Cfg} (h : cfgErr c = 0) : 4 ≤ c.nodes ∧ c.nodes ≤ 16 := withinF_zero (cfgErr_zero h).1
theorem cfg_np {c : Cfg} (h : cfgErr c = 0) : 2 ≤ c.np ∧ c.np ≤ 8 := by
  have := withinF_zero (cfgErr_zero h).2.1
  omega
end Go.Proofs.YtiflbhmccenemaaDoor
end
