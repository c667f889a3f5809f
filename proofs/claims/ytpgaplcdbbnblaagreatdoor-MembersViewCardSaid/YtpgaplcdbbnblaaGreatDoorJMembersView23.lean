/- Parts, one behind the other. Who commands, by a config that may be: plain facts. -/
import Derived.Test.YtpgaplcdbbnblaaGreatDoorJMembersView22
import Derived.Test.YtpgaplcdbbnblaaGreatDoorJMembersView20
import Derived.Test.YtpgaplcdbbnblaaGreatDoorJMembersView17
import Derived.Test.YtpgaplcdbbnblaaGreatDoorJMembersView10
set_option linter.unusedSimpArgs false
set_option linter.unusedVariables false
/- Who commands, by a config that may be: plain facts. -/
section
namespace Go.Proofs.YtpgaplcdbbnblaaGreatDoor
open Go.RowKit
theorem head_good {c : Cfg} (g : CfgGood c) {nq : Nat} (hq : 0 < nq) (fq : Nat → Int) (z : Int) : 0 ≤ headN c nq fq z ↔ 0 ≤ z ∧ z < c.np := by
 constructor
 · exact headN_in
 · intro h
   unfold headN atF
   rw [if_neg (by omega), if_pos h]
   exact (g.fp z.toNat (by omega)).1
end Go.Proofs.YtpgaplcdbbnblaaGreatDoor
end
/- MembersView: what its runs answer. -/
section
namespace Go.Proofs.YtpgaplcdbbnblaaGreatDoor
open Go.RowKit
theorem eqF_all : ∀ (ks : List (Option IntKind)) (xs : List AC), eqF ks xs xs = true
 | none :: ks, x :: xs => by simp [eqF, eqF_all ks xs]
 | some _ :: ks, x :: xs => by simp [eqF, eqF_all ks xs]
 | [], _ => by simp [eqF]
 | none :: _, [] => by simp [eqF]
 | some _ :: _, [] => by simp [eqF]
theorem pX_rnd (c : Cfg) (nq : Nat) (fq : Nat → Int) (l : List AC) : pX rndP ⟨c, nq, fq, [.agg l]⟩ = (isVw l && (decide (c.np ≤ 8) && (gvPre c nq && posL l))) := rfl
theorem pW_hrd (c : Cfg) (nq : Nat) (fq : Nat → Int) (l : List AC) (z : Int) : pW hrdC ⟨c, nq, fq, [.agg l, .c (.v (.int .i64 z))]⟩ = (isVw l && decide (c.np ≤ 8)) := rfl
theorem has_np {c : Cfg} (g : CfgGood c) {nq : Nat} (hq : 0 < nq) (fq : Nat → Int) : hasB c nq fq = npB c.np := by
 funext p
 unfold hasB npB
 have := head_good g hq fq (Int.ofNat p)
 simp only [Int.ofNat_eq_natCast] at this ⊢
 by_cases h : p < c.np
 · rw [decide_eq_true h, decide_eq_true (this.2 (by omega))]
 · rw [decide_eq_false h, decide_eq_false (fun x => h (by have := this.1 x; omega))]
theorem may_eq {c : Cfg} (g : CfgGood c) {nq : Nat} (hq : 0 < nq) (fq : Nat → Int) {v : Vw} (hv : v.Ok) : mayB c nq fq (vwL v) = rmayB c.np (vwL v) := by
 have e1 : rmayB c.np (vwL v) = (rmayH c.np v.command v.mode && mayL (npB c.np) (vwL v)) := rfl
 rw [mayB_eq, e1, has_np g hq]
 congr 1
 have hp : ckPre c nq = true := by
  have := g.s1
  have := g.s16
  have := g.n4
  have := g.n16
  have := g.l1
  have := g.l4
  simp [ckPre]
  omega
 obtain ⟨e, r1, _⟩ := ck_round hp
 have w : IntKind.wrap .i64 v.command = v.command := by
  have := hv.command
  exact wrap_nat _ (by omega) (by omega)
 have hh := head_good g hq fq v.command
 unfold mayH rmayH
 rw [e, w, decide_eq_true (show (c.ns : Int) * c.long ≠ 0 by omega), Bool.true_and]
 by_cases h : -1 ≤ v.command
 · rw [decide_eq_true h, Bool.true_and, Bool.true_and]
   congr 1
   by_cases h1 : v.command < c.np
   · rw [decide_eq_true h1]
     by_cases h2 : v.command < 0
     · rw [decide_eq_true h2]; rfl
     · rw [decide_eq_true (hh.2 ⟨by omega, h1⟩)]; simp
   · have := g.p2
     rw [decide_eq_false h1, decide_eq_false (fun x => by omega), decide_eq_false (fun x => h1 (hh.1 x).2)]; rfl
 · rw [decide_eq_false h]; rfl
set_option maxRecDepth 1000000 in
theorem mv_run1 (c : Cfg) (a b : Vw) (z : Int) (h0 : cfgErr c ≠ 0) (hb : c.nb ≤ 9223372036854775807) : ∃ p r, lwR (ENl1 Tryz.prog cfgErr ctsMv) 3 mS c [.agg (vwL a ++ vwL b), i64 z] p [] = some r ∧ GoodF (bo true) r := by
 refine mvE cfgErr c a b z _ ?_
 simp only [eqF_all]
 (repeat' (first | refine ⟨fun h => ?_, fun h => ?_⟩ | fail))
 all_goals (first | (exfalso; simp_all; done) | skip)
 all_goals (refine ⟨rfl, (by first | (unfold lim; omega) | (dsimp only; unfold lim; omega)), ?_, by simp⟩)
 all_goals (simp_all [allT, cfgK_t, netK_t, intsOk_ints, stsOk_sts, intsOk_s, stsOk_s, h0, hb, isVw_cells])
set_option maxRecDepth 1000000 in
theorem mv_run0 (c : Cfg) (a b : Vw) (z : Int) (h0 : cfgErr c = 0) (hb : c.nb ≤ 9223372036854775807) (ha : a.Ok) (hbv : b.Ok) : ∃ p r, lwR (ENl0 Tryz.prog cfgErr ctsMv) 3 mS c [.agg (vwL a ++ vwL b), i64 z] p [] = some r ∧ GoodF (bo true) r := by
 refine mvD cfgErr c a b z _ ?_
 have g := cfg_good h0
 have hq : 0 < c.nodes.toNat := by have := g.n4; omega
 have e5 : fstV c c.nodes.toNat (pairF c (2 * c.np)) = rfV c.np := by
  unfold fstV rfV
  rw [has_np g hq]
 have e6 : decide (Int.ofNat 0 ≤ headN c c.nodes.toNat (pairF c (2 * c.np)) z) = decide (Int.ofNat 0 ≤ z ∧ z < (c.np : Int)) := by
  have := head_good g hq (pairF c (2 * c.np)) z
  by_cases h : Int.ofNat 0 ≤ z ∧ z < (c.np : Int)
  · rw [decide_eq_true h]; exact decide_eq_true (this.2 h)
  · rw [decide_eq_false h]; exact decide_eq_false fun x => h (this.1 x)
 have ma := may_eq g hq (pairF c (2 * c.np)) ha
 have mb := may_eq g hq (pairF c (2 * c.np)) hbv
 have pa : posL (vwL a) = true := (posL_iff a).2 fun i hi => ⟨(ha.miss i hi).1, (ha.good i hi).1, (ha.score i hi).1⟩
 have pb : posL (vwL b) = true := (posL_iff b).2 fun i hi => ⟨(hbv.miss i hi).1, (hbv.good i hi).1, (hbv.score i hi).1⟩
 have qa : bndL (vwL a) = true := (bndL_iff a).2 fun i hi => ⟨ha.miss i hi, ha.good i hi, ha.score i hi⟩
 have qb : bndL (vwL b) = true := (bndL_iff b).2 fun i hi => ⟨hbv.miss i hi, hbv.good i hi, hbv.score i hi⟩
 have va : isVw (vwL a) = true := isVw_cells a
 have vb : isVw (vwL b) = true := isVw_cells b
 have gp : gvPre c c.nodes.toNat = true := by
  have := g.s16
  have := g.n16
  have := g.p8
  have := g.nt
  have := g.nb
  have := g.n4
  have := g.p2
  have := g.s1
  simp [gvPre]
  omega
 have n8 : decide (c.np ≤ 8) = true := decide_eq_true g.p8
 simp only [e5, e6, ma, mb, eqF_all, h0, pX_rnd, pW_hrd, qfP_eq, qhP_eq, qmP_eq, qrP_eq, va, vb, pa, pb, qa, qb, gp, n8]
 have d1 : ∀ x : Bool, (!x == x) = false := fun x => by cases x <;> rfl
 simp only [d1]
 (repeat' (first | refine ⟨fun h => ?_, fun h => ?_⟩ | fail))
 all_goals (first | (exfalso; simp at *; done) | skip)
 all_goals (refine ⟨rfl, (by first | (unfold lim; omega) | (dsimp only; unfold lim; omega)), ?_, by simp⟩)
 all_goals (have := g.s16; have := g.n16; have := g.p8; have := g.nt; have := g.nb)
 all_goals (simp [allT, cfgK_t, netK_t, intsOk_ints, stsOk_sts, intsOk_s, stsOk_s]; omega)
end Go.Proofs.YtpgaplcdbbnblaaGreatDoor
end
