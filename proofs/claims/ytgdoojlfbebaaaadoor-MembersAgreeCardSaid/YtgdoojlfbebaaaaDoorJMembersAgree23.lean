/- Parts, one behind the other. Laws of a config that came in: from their runs to their calls. -/
import Derived.Test.YtgdoojlfbebaaaaDoorJMembersAgree22
import Derived.Test.YtgdoojlfbebaaaaDoorJMembersAgree14
import Derived.Test.YtgdoojlfbebaaaaDoorJMembersAgree9
set_option linter.unusedSimpArgs false
set_option linter.unusedVariables false
/- Laws of a config that came in: from their runs to their calls. -/
section
namespace Go.Proofs.YtgdoojlfbebaaaaDoor
open Go.RowKit
theorem cfgErr_zero {c : Cfg} (h : cfgErr c = 0) : rule1 c = 0 ∧ rule2 c = 0 ∧ rule3 c = 0 ∧ rule4 c = 0 ∧ rule5 c = 0 ∧ rule6 c = 0 ∧ rule7 c = 0 ∧ rule8 c = 0 ∧ rule9 c = 0 ∧ rule10 c = 0 := by
 unfold cfgErr at h
 generalize rule1 c = x1 at *
 generalize rule2 c = x2 at *
 generalize rule3 c = x3 at *
 generalize rule4 c = x4 at *
 generalize rule5 c = x5 at *
 generalize rule6 c = x6 at *
 generalize rule7 c = x7 at *
 generalize rule8 c = x8 at *
 generalize rule9 c = x9 at *
 generalize rule10 c = x10 at *
 by_cases h1 : x1 = 0 <;> by_cases h2 : x2 = 0 <;> by_cases h3 : x3 = 0 <;> by_cases h4 : x4 = 0 <;> by_cases h5 : x5 = 0 <;> by_cases h6 : x6 = 0 <;> by_cases h7 : x7 = 0 <;> by_cases h8 : x8 = 0 <;> by_cases h9 : x9 = 0 <;> simp_all
end Go.Proofs.YtgdoojlfbebaaaaDoor
end
/- Laws on a net of a config that came in: their contracts. -/
section
namespace Go.Proofs.YtgdoojlfbebaaaaDoor
open Go.RowKit
def ctRef4 (err : Cfg → Int) : CtF := ctCfg (fun c => i64 (err c)) fun _ => true
def ENl0 (P : Program) (err : Cfg → Int) (l : List (FuncId × CtF)) : Env := ⟨P, (11, ctNew0 err) :: (12, ctRef4 err) :: l⟩
def ENl1 (P : Program) (err : Cfg → Int) (l : List (FuncId × CtF)) : Env := ⟨P, (11, ctNew1 err) :: (12, ctRef4 err) :: l⟩
theorem hENl0 {l : List (FuncId × CtF)} (hl : ∀ f g, (f, g) ∈ l → CtOk Tryd.prog f g) : EnvOk (ENl0 Tryd.prog cfgErr l) := by
 refine envOk (fun f g h => ?_) (by kernel_rfl) (by kernel_rfl)
 rcases List.mem_cons.1 h with h | h
 · cases h; exact ct_new0
 rcases List.mem_cons.1 h with h | h
 · cases h; exact ct_ref4
 · exact hl f g h
theorem hENl1 {l : List (FuncId × CtF)} (hl : ∀ f g, (f, g) ∈ l → CtOk Tryd.prog f g) : EnvOk (ENl1 Tryd.prog cfgErr l) := by
 refine envOk (fun f g h => ?_) (by kernel_rfl) (by kernel_rfl)
 rcases List.mem_cons.1 h with h | h
 · cases h; exact ct_new1
 rcases List.mem_cons.1 h with h | h
 · cases h; exact ct_ref4
 · exact hl f g h
structure CfgGood (c : Cfg) : Prop where
 n4 : 4 ≤ c.nodes
 n16 : c.nodes ≤ 16
 p2 : 2 ≤ c.np
 p8 : c.np ≤ 8
 s1 : 1 ≤ c.ns
 s16 : c.ns ≤ 16
 l1 : c.nodes + 116 ≤ c.long
 l2 : 3 * c.nodes + 1 ≤ c.long
 l4 : c.long ≤ 4096
 nb : (c.nb : Int) = c.nodes
 nt : c.nt ≤ 8
 miss : 1 ≤ c.miss ∧ c.miss ≤ 100
 good : 1 ≤ c.good ∧ c.good ≤ 100
 fresh : 1 ≤ c.fresh ∧ c.fresh ≤ 100
 fp : ∀ p, p < c.np → 0 ≤ c.fp p ∧ c.fp p < c.nodes
 fs : ∀ i, i < c.ns → 0 ≤ c.fs i ∧ c.fs i < c.np
 has : ∀ p, p < c.np → ∃ i, i < c.ns ∧ c.fs i = p
theorem cfg_good {c : Cfg} (h : cfgErr c = 0) : CfgGood c := by
 obtain ⟨h1, h2, h3, h4, h5, h6, h7, h8, h9, h10⟩ := cfgErr_zero h
 have a1 := withinF_zero h1
 have a2 := withinF_zero h2
 have a4 := withinF_zero h4
 have a6 := withinF_zero h6
 have a8 := withinF_zero h8
 unfold rule3 at h3
 unfold rule5 all5 at h5
 unfold rule7 at h7
 unfold rule10 at h10
 have b3 : insideF c.fp c.np c.nodes = true := by
  split at h3
  · rename_i hh; simp only [Bool.and_eq_true] at hh; exact hh.1
  · cases h3
 split at h5
 · rename_i g5
   simp only [Bool.and_eq_true] at g5
   have b7 : (c.nb : Int) = c.nodes := by
    split at h7
    · assumption
    · cases h7
   have b10 : (1 ≤ c.miss ∧ c.miss ≤ 100) ∧ (1 ≤ c.good ∧ c.good ≤ 100) ∧ (1 ≤ c.fresh ∧ c.fresh ≤ 100) := by
    split at h10
    · rename_i g; exact absurd h10 g
    · rename_i g
      split at h10
      · rename_i g'; exact absurd h10 g'
      · rename_i g'
        exact ⟨withinF_zero (by omega), withinF_zero (by omega), withinF_zero h10⟩
   refine ⟨a1.1, a1.2, by omega, by omega, by omega, by omega, by omega, by omega, a6.2, b7, by omega, b10.1, b10.2.1, b10.2.2, fun p hp => ?_, fun i hi => ?_, fun p hp => ?_⟩
   · have := List.all_eq_true.1 b3 p (by simpa using hp)
     simpa using this
   · have := List.all_eq_true.1 g5.1 i (by simpa using hi)
     simpa using this
   · have := List.all_eq_true.1 g5.2 p (by simpa using hp)
     obtain ⟨i, hi, he⟩ := List.any_eq_true.1 this
     exact ⟨i, by simpa using hi, by simpa using he⟩
 · cases h5
end Go.Proofs.YtgdoojlfbebaaaaDoor
end
/- Which pairs there are, by a config that may be. No Go text is in sight. -/
section
namespace Go.Proofs.YtgdoojlfbebaaaaDoor
open Go.RowKit
theorem head_good {c : Cfg} (g : CfgGood c) {nq : Nat} (hq : 0 < nq) (fq : Nat → Int) (z : Int) : 0 ≤ headN c nq fq z ↔ 0 ≤ z ∧ z < c.np := by
 constructor
 · exact headN_in
 · intro h
   unfold headN atF
   rw [if_neg (by omega), if_pos h]
   exact (g.fp z.toNat (by omega)).1
end Go.Proofs.YtgdoojlfbebaaaaDoor
end
/- sennitref22's First and May: contracts by named functions; the same as the program's. -/
section
namespace Go.Proofs.YtgdoojlfbebaaaaDoor
open Go.RowKit
theorem eqF_all : ∀ (ks : List (Option IntKind)) (xs : List AC), eqF ks xs xs = true
 | none :: ks, x :: xs => by simp [eqF, eqF_all ks xs]
 | some _ :: ks, x :: xs => by simp [eqF, eqF_all ks xs]
 | [], _ => by simp [eqF]
 | none :: _, [] => by simp [eqF]
 | some _ :: _, [] => by simp [eqF]
theorem has_np {c : Cfg} (g : CfgGood c) {nq : Nat} (hq : 0 < nq) (fq : Nat → Int) : hasB c nq fq = npB c.np := by
 funext p
 unfold hasB npB
 have := head_good g hq fq (Int.ofNat p)
 simp only [Int.ofNat_eq_natCast] at this ⊢
 by_cases h : p < c.np
 · rw [decide_eq_true h, decide_eq_true (this.2 (by omega))]
 · rw [decide_eq_false h, decide_eq_false (fun x => h (by have := this.1 x; omega))]
theorem may_eq {c : Cfg} (g : CfgGood c) {nq : Nat} (hq : 0 < nq) (fq : Nat → Int) {v : Vw} (hv : v.Ok) : mayB c nq fq (vwL v) = rmayB c.np (vwL v) := by
 have e1 : rmayB c.np (vwL v) = (rmayH c.np v.command v.mode && mayL (npB c.np) (vwL v)) := rfl
 rw [mayB_eq, e1, has_np g hq]
 congr 1
 have hp : ckPre c nq = true := by
  have := g.s1
  have := g.s16
  have := g.n4
  have := g.n16
  have := g.l1
  have := g.l4
  simp [ckPre]
  omega
 obtain ⟨e, r1, _⟩ := ck_round hp
 have w : IntKind.wrap .i64 v.command = v.command := by
  have := hv.command
  exact wrap_nat _ (by omega) (by omega)
 have hh := head_good g hq fq v.command
 unfold mayH rmayH
 rw [e, w, decide_eq_true (show (c.ns : Int) * c.long ≠ 0 by omega), Bool.true_and]
 by_cases h : -1 ≤ v.command
 · rw [decide_eq_true h, Bool.true_and, Bool.true_and]
   congr 1
   by_cases h1 : v.command < c.np
   · rw [decide_eq_true h1]
     by_cases h2 : v.command < 0
     · rw [decide_eq_true h2]; rfl
     · rw [decide_eq_true (hh.2 ⟨by omega, h1⟩)]; simp
   · have := g.p2
     rw [decide_eq_false h1, decide_eq_false (fun x => by omega), decide_eq_false (fun x => h1 (hh.1 x).2)]; rfl
 · rw [decide_eq_false h]; rfl
end Go.Proofs.YtgdoojlfbebaaaaDoor
end
/- Laws of a config, plain values and a list that came in: from their runs to their calls. -/
section
namespace Go.Proofs.YtgdoojlfbebaaaaDoor
open Go.RowKit
def lwM (E : Env) (f : FuncId) (G : AMem) (c : Cfg) (r : List AV) (ty sz n : Nat) (F : Nat → List Value) (path : List Dec) (lp : List (Option LSum)) : Option VF := viewF [] (fCallF E (fC E 300) f (.agg (cfgC c) :: (r ++ [.c (.sl 4 0 0 n none)])) 10 10000000000000000000000000000000000000000 (stA (G ++ cfgL c ++ [(4, rBlk ty sz n F)]) path lp))
theorem γt_app {β : Nm} : ∀ {xs ys : List AV} {us vs : List Value}, γt β xs = some us → γt β ys = some vs → γt β (xs ++ ys) = some (us ++ vs)
 | [], ys, us, vs, h1, h2 => by cases h1; exact h2
 | x :: xs, ys, us, vs, h1, h2 => by
  simp only [γt] at h1
  split at h1
  · rename_i v us' e1 e2
    cases h1
    simp only [List.cons_append, γt, e1, γt_app e2 h2]
  · cases h1
theorem cfgm_law {E : Env} (hE : EnvOk E) {f : FuncId} {G : AMem} {w : World} (hG : ∀ p ∈ G, GlobAt w p) {c : Cfg} {cs : List Value} (hc : CfgIn w c cs) {ty sz n : Nat} {F : Nat → List Value} {v : Value} (hl : LstIn w sz n F v) {r : List AV} {us : List Value} (hr : ∀ β, γt β r = some us)
 (run : ∃ p lp q, lwM E f G c r ty sz n F p lp = some q ∧ GoodF (bo true) q) : Calls E.P f (.agg cs.toArray :: (us ++ [v])).toArray w fun e w' => e = .returned (.bool true) ∧ Below w.heap.size w w' := by
 obtain ⟨p, lp, ⟨x, b', n', ob, po⟩, hrun, hv, hn, hob, hpo⟩ := run
 obtain ⟨s', r1, r2, r3, r4⟩ := viewF_out hrun
 obtain ⟨β, q1, q2, q3, q4⟩ := rel_cfgIn hG hc
 have hn : n' ≤ lim := hn
 obtain ⟨L, t1, _, t2⟩ := rel_lst q1 q3 (id := 4) (q4 4 (by omega) (by unfold lim; omega)) (not_gid (by unfold lim; omega)) hl ty
 refine (calls_f hE r1 ⟨by rw [r3]; exact hob, by rw [r4]; exact hpo⟩ (C := loneC w) (β := ext1 β 4 L) (w := w) (vs := .agg cs.toArray :: (us ++ [v])) ?_ t1 (fun id h1 h2 => ?_)).mono ?_
 · have e1 := t2 (ext1 β 4 L) (by simp [ext1])
   have e2 : γs (ext1 β 4 L) (cfgC c) = some cs := by
    refine γs_ext (fun id l h => ?_) q2
    unfold ext1
    rw [if_neg (fun e => by rw [e, q4 4 (by omega) (by unfold lim; omega)] at h; cases h)]
    exact h
   have e3 : γt (ext1 β 4 L) [.c (.sl 4 0 0 n none)] = some [v] := by simp only [γt, γ1, e1]
   simp only [γt, γ1, e2, γt_app (hr _) e3]
 · unfold ext1
   rw [if_neg (by omega)]
   exact q4 id (by omega) (by omega)
 · rintro e w' ⟨β', u, rfl, _, _, hu, hr'⟩
   simp only at hv
   subst hv
   cases hu
   exact ⟨rfl, below_lone hr'⟩
end Go.Proofs.YtgdoojlfbebaaaaDoor
end
