/- Parts, one behind the other. Laws of a config that came in: from their runs to their calls. -/
import Derived.Test.YtpgaplcdbbnblaaGreatDoorJHealthsBlame19
import Derived.Test.YtpgaplcdbbnblaaGreatDoorJHealthsBlame15
import Derived.Test.YtpgaplcdbbnblaaGreatDoorJHealthsBlame10
set_option linter.unusedSimpArgs false
set_option linter.unusedVariables false
/- Laws of a config that came in: from their runs to their calls. -/
section
namespace Go.Proofs.YtpgaplcdbbnblaaGreatDoor
open Go.RowKit
def lwR (E : Env) (f : FuncId) (G : AMem) (c : Cfg) (r : List AV) (path : List Dec) (lp : List (Option LSum)) : Option VF := viewF [] (fCallF E (fC E 300) f (.agg (cfgC c) :: r) 10 10000000000000000000000000000000000000000 (stA (G ++ cfgL c) path lp))
theorem cfg_law {E : Env} (hE : EnvOk E) {f : FuncId} {G : AMem} {w : World} (hG : ∀ p ∈ G, GlobAt w p) {c : Cfg} {cs : List Value} (hc : CfgIn w c cs) {r : List AV} {us : List Value} (hr : ∀ β, γt β r = some us)
 (run : ∃ p lp q, lwR E f G c r p lp = some q ∧ GoodF (bo true) q) : Calls E.P f (.agg cs.toArray :: us).toArray w fun e w' => e = .returned (.bool true) ∧ Below w.heap.size w w' := by
 obtain ⟨p, lp, ⟨v, b', n, ob, po⟩, hrun, hv, hn, hob, hpo⟩ := run
 obtain ⟨s', r1, r2, r3, r4⟩ := viewF_out hrun
 obtain ⟨β, q1, q2, _, q4⟩ := rel_cfgIn hG hc
 have hn : n ≤ lim := hn
 refine (calls_f hE r1 ⟨by rw [r3]; exact hob, by rw [r4]; exact hpo⟩ (C := loneC w) (β := β) (w := w) (vs := .agg cs.toArray :: us) ?_ q1 (fun id h1 h2 => q4 id (by omega) (by omega))).mono ?_
 · simp only [γt, γ1, q2, hr β]
 · rintro e w' ⟨β', u, rfl, _, _, hu, hr'⟩
   simp only at hv
   subst hv
   cases hu
   exact ⟨rfl, below_lone hr'⟩
theorem cfgErr_zero {c : Cfg} (h : cfgErr c = 0) : rule1 c = 0 ∧ rule2 c = 0 ∧ rule3 c = 0 ∧ rule4 c = 0 ∧ rule5 c = 0 ∧ rule6 c = 0 ∧ rule7 c = 0 ∧ rule8 c = 0 ∧ rule9 c = 0 ∧ rule10 c = 0 := by
 unfold cfgErr at h
 generalize rule1 c = x1 at *
 generalize rule2 c = x2 at *
 generalize rule3 c = x3 at *
 generalize rule4 c = x4 at *
 generalize rule5 c = x5 at *
 generalize rule6 c = x6 at *
 generalize rule7 c = x7 at *
 generalize rule8 c = x8 at *
 generalize rule9 c = x9 at *
 generalize rule10 c = x10 at *
 by_cases h1 : x1 = 0 <;> by_cases h2 : x2 = 0 <;> by_cases h3 : x3 = 0 <;> by_cases h4 : x4 = 0 <;> by_cases h5 : x5 = 0 <;> by_cases h6 : x6 = 0 <;> by_cases h7 : x7 = 0 <;> by_cases h8 : x8 = 0 <;> by_cases h9 : x9 = 0 <;> simp_all
end Go.Proofs.YtpgaplcdbbnblaaGreatDoor
end
/- Laws on a net of a config that came in: their contracts. -/
section
namespace Go.Proofs.YtpgaplcdbbnblaaGreatDoor
open Go.RowKit
def ctRef4 (err : Cfg → Int) : CtF := ctCfg (fun c => i64 (err c)) fun _ => true
def ENl0 (P : Program) (err : Cfg → Int) (l : List (FuncId × CtF)) : Env := ⟨P, (15, ctNew0 err) :: (16, ctRef4 err) :: l⟩
def ENl1 (P : Program) (err : Cfg → Int) (l : List (FuncId × CtF)) : Env := ⟨P, (15, ctNew1 err) :: (16, ctRef4 err) :: l⟩
theorem hENl0 {l : List (FuncId × CtF)} (hl : ∀ f g, (f, g) ∈ l → CtOk Tryz.prog f g) : EnvOk (ENl0 Tryz.prog cfgErr l) := by
 refine envOk (fun f g h => ?_) (by kernel_rfl) (by kernel_rfl)
 rcases List.mem_cons.1 h with h | h
 · cases h; exact ct_new0
 rcases List.mem_cons.1 h with h | h
 · cases h; exact ct_ref4
 · exact hl f g h
theorem hENl1 {l : List (FuncId × CtF)} (hl : ∀ f g, (f, g) ∈ l → CtOk Tryz.prog f g) : EnvOk (ENl1 Tryz.prog cfgErr l) := by
 refine envOk (fun f g h => ?_) (by kernel_rfl) (by kernel_rfl)
 rcases List.mem_cons.1 h with h | h
 · cases h; exact ct_new1
 rcases List.mem_cons.1 h with h | h
 · cases h; exact ct_ref4
 · exact hl f g h
structure CfgGood (c : Cfg) : Prop where
 n4 : 4 ≤ c.nodes
 n16 : c.nodes ≤ 16
 p2 : 2 ≤ c.np
 p8 : c.np ≤ 8
 s1 : 1 ≤ c.ns
 s16 : c.ns ≤ 16
 l1 : c.nodes + 116 ≤ c.long
 l2 : 3 * c.nodes + 1 ≤ c.long
 l4 : c.long ≤ 4096
 nb : (c.nb : Int) = c.nodes
 nt : c.nt ≤ 8
 miss : 1 ≤ c.miss ∧ c.miss ≤ 100
 good : 1 ≤ c.good ∧ c.good ≤ 100
 fresh : 1 ≤ c.fresh ∧ c.fresh ≤ 100
 fp : ∀ p, p < c.np → 0 ≤ c.fp p ∧ c.fp p < c.nodes
 fs : ∀ i, i < c.ns → 0 ≤ c.fs i ∧ c.fs i < c.np
 has : ∀ p, p < c.np → ∃ i, i < c.ns ∧ c.fs i = p
theorem cfg_good {c : Cfg} (h : cfgErr c = 0) : CfgGood c := by
 obtain ⟨h1, h2, h3, h4, h5, h6, h7, h8, h9, h10⟩ := cfgErr_zero h
 have a1 := withinF_zero h1
 have a2 := withinF_zero h2
 have a4 := withinF_zero h4
 have a6 := withinF_zero h6
 have a8 := withinF_zero h8
 unfold rule3 at h3
 unfold rule5 all5 at h5
 unfold rule7 at h7
 unfold rule10 at h10
 have b3 : insideF c.fp c.np c.nodes = true := by
  split at h3
  · rename_i hh; simp only [Bool.and_eq_true] at hh; exact hh.1
  · cases h3
 split at h5
 · rename_i g5
   simp only [Bool.and_eq_true] at g5
   have b7 : (c.nb : Int) = c.nodes := by
    split at h7
    · assumption
    · cases h7
   have b10 : (1 ≤ c.miss ∧ c.miss ≤ 100) ∧ (1 ≤ c.good ∧ c.good ≤ 100) ∧ (1 ≤ c.fresh ∧ c.fresh ≤ 100) := by
    split at h10
    · rename_i g; exact absurd h10 g
    · rename_i g
      split at h10
      · rename_i g'; exact absurd h10 g'
      · rename_i g'
        exact ⟨withinF_zero (by omega), withinF_zero (by omega), withinF_zero h10⟩
   refine ⟨a1.1, a1.2, by omega, by omega, by omega, by omega, by omega, by omega, a6.2, b7, by omega, b10.1, b10.2.1, b10.2.2, fun p hp => ?_, fun i hi => ?_, fun p hp => ?_⟩
   · have := List.all_eq_true.1 b3 p (by simpa using hp)
     simpa using this
   · have := List.all_eq_true.1 g5.1 i (by simpa using hi)
     simpa using this
   · have := List.all_eq_true.1 g5.2 p (by simpa using hp)
     obtain ⟨i, hi, he⟩ := List.any_eq_true.1 this
     exact ⟨i, by simpa using hi, by simpa using he⟩
 · cases h5
end Go.Proofs.YtpgaplcdbbnblaaGreatDoor
end
