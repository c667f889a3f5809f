/- Parts, one behind the other. Contracts of clocks.Ahead, and of sennitref06. -/
import Derived.Test.YtgfmjbfjodidpaaDoorJB1x2
import Derived.Test.YtgfmjbfjodidpaaDoorJB0x17
import Derived.Test.YtgfmjbfjodidpaaDoorJB1x0
set_option linter.unusedSimpArgs false
set_option linter.unusedVariables false
/- ClocksBack: what its runs answer. -/
section
namespace Go.Proofs.YtgfmjbfjodidpaaDoor
open Go.RowKit

theorem good_pre {c : Cfg} (g : CfgGood c) {nq : Nat} (h : 0 < nq) : ckPre c nq = true := by
  have := g.s1
  have := g.s16
  have := g.l1
  have := g.l4
  have := g.n4
  simp [ckPre]; omega
end Go.Proofs.YtgfmjbfjodidpaaDoor
end
/- Contracts of (Window).Pass, sennitref10.Guards, sennitref10.Over; those that layer 10's laws use. -/
section
namespace Go.Proofs.YtgfmjbfjodidpaaDoor
open Go.RowKit

def passF (b e x s : Int) : Int := if atB b e x = true then s else 0
def psR : List AV → AV
  | [.agg [.v (.int .u8 _), .v (.int .i64 _), .v (.int .i64 b), .v (.int .i64 e)], .c (.v (.int .i64 x)), .c (.v (.int .u8 s))] => u8A (passF b e x s)
  | _ => i64 0
def psQ : List AV → Bool
  | [.agg [.v (.int .u8 _), .v (.int .i64 _), .v (.int .i64 b), .v (.int .i64 e)], .c (.v (.int .i64 _)), .c (.v (.int .u8 _))] => smallB b && smallB e
  | _ => false
def ctWiPs : CtF := ctRd (pureRd [] rfl) psR psQ
set_option maxRecDepth 100000 in
theorem ct_wiPs : CtOk Tryd.prog 51 ctWiPs := by
  refine ctRd_ofE (E := ENat Tryd.prog) hENat (pureRd [] rfl) (fuel := 300) (str := 10000000000000000000000000000000000000000) ⟨_, _, Tryd.func51, rfl⟩ (fun s => by unfold psR; split <;> rfl) fun s hs => ?_
  unfold psQ at hs
  split at hs
  · rename_i r p b e x s
    refine (?_ : (∃ y q, wiPsE Tryd.prog r p b e x s y = some q ∧ GoodF (u8A (passF b e x s)) q) → _) (wiPs r p b e x s _ ?_)
    · rintro ⟨y, q, h1, h2⟩
      exact ⟨y, [], q, h1, h2⟩
    · (repeat' (first | refine ⟨fun h => ?_, fun h => ?_⟩ | fail))
      all_goals (refine ⟨?_, (by first | (unfold lim; omega) | (dsimp only; unfold lim; omega)), ?_, by simp⟩)
      · simp at h; simp [passF, h, u8A]
      · simp [allT, atQ_eq, hs, h]
      · simp at h; simp [passF, h, u8A]
      · simp [allT, atQ_eq, hs, h]
  · cases hs
theorem seen_zero (g : Int) : seenF g 0 = -1 := by unfold seenF; rw [if_neg (by omega)]
def rgdR : CfgS → AV
  | ⟨c, [.c (.v (.int .i64 o))]⟩ => .tup [i64 (gdC c o), i64 (gdW c o)]
  | _ => i64 0
def rgdQ : CfgS → Bool
  | ⟨c, [.c (.v (.int .i64 _))]⟩ => wiPre c 1
  | _ => false
def ctRwGd : CtF := ctRd cfgRd rgdR rgdQ
set_option maxRecDepth 100000 in
theorem ct_rwGd : CtOk Tryd.prog 50 ctRwGd := by
  refine ctRd_ofE (E := ENrw Tryd.prog) hENrw cfgRd (fuel := 300) (str := 10000000000000000000000000000000000000000) ⟨_, _, Tryd.func50, rfl⟩ (fun s => by unfold rgdR; split <;> rfl) fun s hs => ?_
  unfold rgdQ at hs
  split at hs
  · rename_i c o
    refine (?_ : (∃ p q, cfE (ENrw Tryd.prog) 50 c [i64 o] p [none, some (rgS c (gdC c o) (-1) o 0 100000000000000000000000000000000000000000000000000), some (rgS c (gdC c o) (gdW c o) o 1 10000000000000000000000000000000000000000000000000000)] = some q ∧ GoodF (.tup [i64 (gdC c o), i64 (gdW c o)]) q) → _) (rgF c (gdC c o) (-1) (gdC c o) (gdW c o) o _ ?_)
    · rintro ⟨p, q, h1, h2⟩
      exact ⟨p, [none, some (rgS c (gdC c o) (-1) o 0 100000000000000000000000000000000000000000000000000), some (rgS c (gdC c o) (gdW c o) o 1 10000000000000000000000000000000000000000000000000000)], q, h1, h2⟩
    · refine ⟨rfl, (by first | (unfold lim; omega) | (dsimp only; unfold lim; omega)), by simp [allT], fun q hq => ?_⟩
      simp only [List.mem_cons, List.not_mem_nil, or_false] at hq
      rcases hq with rfl | rfl
      · first
          | exact rg_sum1 c o (gdC c o) hs (by rw [seen_zero]; exact BL.refl (rgBk c (gdC c o) (-1)))
          | exact rg_sum0 c o hs (by rw [seen_zero]; exact BL.refl (rgBk c (-1) (-1)))
      · first
          | exact rg_sum0 c o hs (by rw [seen_zero]; exact BL.refl (rgBk c (-1) (-1)))
          | exact rg_sum1 c o (gdC c o) hs (by rw [seen_zero]; exact BL.refl (rgBk c (gdC c o) (-1)))
  · cases hs
def rovR : CfgS → AV
  | ⟨c, []⟩ => i64 (c.nodes + 114)
  | _ => i64 0
def rovQ : CfgS → Bool
  | ⟨c, []⟩ => wiPre c 1 && decide (1 ≤ c.np)
  | _ => false
def ctRwOv : CtF := ctRd cfgRd rovR rovQ
set_option maxRecDepth 100000 in
theorem ct_rwOv : CtOk Tryd.prog 52 ctRwOv := by
  refine ctRd_ofE (E := ENrw Tryd.prog) hENrw cfgRd (fuel := 300) (str := 10000000000000000000000000000000000000000) ⟨_, _, Tryd.func52, rfl⟩ (fun s => by unfold rovR; split <;> rfl) fun s hs => ?_
  unfold rovQ at hs
  split at hs
  · rename_i c
    simp only [Bool.and_eq_true, decide_eq_true_eq] at hs
    obtain ⟨hs, h1⟩ := hs
    have hh : headsOk c = true := by simp only [wiPre, Bool.and_eq_true] at hs; exact hs.2
    obtain ⟨n4, n16, hf⟩ := heads_ok hh
    refine (?_ : (∃ p q, cfE (ENrw Tryd.prog) 52 c [] p [none, some (rvS c (c.nodes + 114) 0 100000000000000000000000000000000000000000000000000), some (rvS c (c.nodes + 114) 1 10000000000000000000000000000000000000000000000000000)] = some q ∧ GoodF (i64 (c.nodes + 114)) q) → _) (rvF c (c.nodes + 114) (c.nodes + 114) _ ?_)
    · rintro ⟨p, q, h1, h2⟩
      exact ⟨p, [none, some (rvS c (c.nodes + 114) 0 100000000000000000000000000000000000000000000000000), some (rvS c (c.nodes + 114) 1 10000000000000000000000000000000000000000000000000000)], q, h1, h2⟩
    · have s0 := rv_sum0 c 0 hs (BL.refl (roBk c))
      have s1 := rv_sum1 c (c.nodes + 114) hs (BL.refl (roBk c))
      rw [mx_end hh (.inl rfl) ⟨by omega, by omega⟩ (by omega)] at s0
      rw [mx_end hh (.inr rfl) ⟨by omega, by omega⟩ (by omega)] at s1
      refine ⟨rfl, (by first | (unfold lim; omega) | (dsimp only; unfold lim; omega)), by simp [allT], fun q hq => ?_⟩
      simp only [List.mem_cons, List.not_mem_nil, or_false] at hq
      rcases hq with rfl | rfl
      · first | exact s1 | exact s0
      · first | exact s0 | exact s1
  · cases hs
def ctsW : List (FuncId × CtF) := [(44, ctWiOf), (49, ctWiGd), (43, ctWiOv), (47, ctWiAt), (51, ctWiPs), (45, ctRwOf), (48, ctRwAt), (50, ctRwGd), (52, ctRwOv), (34, ctNet1 pairN), (87, ctStepD), (42, ctTG mSR)]
theorem ctsW_ok : ∀ f g, (f, g) ∈ ctsW → CtOk Tryd.prog f g := by
  intro f g h
  simp only [ctsW, List.mem_cons, Prod.mk.injEq, List.not_mem_nil, or_false] at h
  rcases h with ⟨rfl, rfl⟩ | ⟨rfl, rfl⟩ | ⟨rfl, rfl⟩ | ⟨rfl, rfl⟩ | ⟨rfl, rfl⟩ | ⟨rfl, rfl⟩ | ⟨rfl, rfl⟩ | ⟨rfl, rfl⟩ | ⟨rfl, rfl⟩ | ⟨rfl, rfl⟩ | ⟨rfl, rfl⟩ | ⟨rfl, rfl⟩
  · exact ct_wiOf
  · exact ct_wiGd
  · exact ct_wiOv
  · exact ct_wiAt
  · exact ct_wiPs
  · exact ct_rwOf
  · exact ct_rwAt
  · exact ct_rwGd
  · exact ct_rwOv
  · exact ct_pair
  · exact ct_stepD
  · exact ctTG_of (E := E1 Tryd.prog) hE1 ⟨_, _, Tryd.func42, rfl⟩ (by kernel_rfl) (by unfold lim; omega) lv10_run
theorem good_heads {c : Cfg} (g : CfgGood c) : headsOk c = true := by
  have := g.n4
  have := g.n16
  simp only [headsOk, Bool.and_eq_true, decide_eq_true_eq]
  refine ⟨by omega, by omega, List.all_eq_true.2 fun i hi => ?_⟩
  simpa using g.fp i (by simpa using hi)
theorem good_wi {c : Cfg} (g : CfgGood c) {nq : Nat} (h : 0 < nq) : wiPre c nq = true := by
  simp [wiPre, good_pre g h, good_heads g]
end Go.Proofs.YtgfmjbfjodidpaaDoor
end
