/- Parts, one behind the other. Laws of a config that came in: from their runs to their calls. -/
import Derived.Test.YtpgaplcdbbnblaaGreatDoorJMembersView19
import Derived.Test.YtpgaplcdbbnblaaGreatDoorJMembersView15
import Derived.Test.YtpgaplcdbbnblaaGreatDoorJMembersView10
import Derived.Test.YtpgaplcdbbnblaaGreatDoorJMembersView17
import Derived.Test.YtpgaplcdbbnblaaGreatDoorJMembersView16
import Derived.Test.YtpgaplcdbbnblaaGreatDoorJMembersView11
set_option linter.unusedSimpArgs false
set_option linter.unusedVariables false
/- Laws of a config that came in: from their runs to their calls. -/
section
namespace Go.Proofs.YtpgaplcdbbnblaaGreatDoor
open Go.RowKit
def lwR (E : Env) (f : FuncId) (G : AMem) (c : Cfg) (r : List AV) (path : List Dec) (lp : List (Option LSum)) : Option VF := viewF [] (fCallF E (fC E 300) f (.agg (cfgC c) :: r) 10 10000000000000000000000000000000000000000 (stA (G ++ cfgL c) path lp))
theorem cfg_law {E : Env} (hE : EnvOk E) {f : FuncId} {G : AMem} {w : World} (hG : ∀ p ∈ G, GlobAt w p) {c : Cfg} {cs : List Value} (hc : CfgIn w c cs) {r : List AV} {us : List Value} (hr : ∀ β, γt β r = some us)
 (run : ∃ p lp q, lwR E f G c r p lp = some q ∧ GoodF (bo true) q) : Calls E.P f (.agg cs.toArray :: us).toArray w fun e w' => e = .returned (.bool true) ∧ Below w.heap.size w w' := by
 obtain ⟨p, lp, ⟨v, b', n, ob, po⟩, hrun, hv, hn, hob, hpo⟩ := run
 obtain ⟨s', r1, r2, r3, r4⟩ := viewF_out hrun
 obtain ⟨β, q1, q2, _, q4⟩ := rel_cfgIn hG hc
 have hn : n ≤ lim := hn
 refine (calls_f hE r1 ⟨by rw [r3]; exact hob, by rw [r4]; exact hpo⟩ (C := loneC w) (β := β) (w := w) (vs := .agg cs.toArray :: us) ?_ q1 (fun id h1 h2 => q4 id (by omega) (by omega))).mono ?_
 · simp only [γt, γ1, q2, hr β]
 · rintro e w' ⟨β', u, rfl, _, _, hu, hr'⟩
   simp only at hv
   subst hv
   cases hu
   exact ⟨rfl, below_lone hr'⟩
theorem cfgErr_zero {c : Cfg} (h : cfgErr c = 0) : rule1 c = 0 ∧ rule2 c = 0 ∧ rule3 c = 0 ∧ rule4 c = 0 ∧ rule5 c = 0 ∧ rule6 c = 0 ∧ rule7 c = 0 ∧ rule8 c = 0 ∧ rule9 c = 0 ∧ rule10 c = 0 := by
 unfold cfgErr at h
 generalize rule1 c = x1 at *
 generalize rule2 c = x2 at *
 generalize rule3 c = x3 at *
 generalize rule4 c = x4 at *
 generalize rule5 c = x5 at *
 generalize rule6 c = x6 at *
 generalize rule7 c = x7 at *
 generalize rule8 c = x8 at *
 generalize rule9 c = x9 at *
 generalize rule10 c = x10 at *
 by_cases h1 : x1 = 0 <;> by_cases h2 : x2 = 0 <;> by_cases h3 : x3 = 0 <;> by_cases h4 : x4 = 0 <;> by_cases h5 : x5 = 0 <;> by_cases h6 : x6 = 0 <;> by_cases h7 : x7 = 0 <;> by_cases h8 : x8 = 0 <;> by_cases h9 : x9 = 0 <;> simp_all
end Go.Proofs.YtpgaplcdbbnblaaGreatDoor
end
/- Laws on a net of a config that came in: their contracts. -/
section
namespace Go.Proofs.YtpgaplcdbbnblaaGreatDoor
open Go.RowKit
def ctRef4 (err : Cfg → Int) : CtF := ctCfg (fun c => i64 (err c)) fun _ => true
def ENl0 (P : Program) (err : Cfg → Int) (l : List (FuncId × CtF)) : Env := ⟨P, (15, ctNew0 err) :: (16, ctRef4 err) :: l⟩
def ENl1 (P : Program) (err : Cfg → Int) (l : List (FuncId × CtF)) : Env := ⟨P, (15, ctNew1 err) :: (16, ctRef4 err) :: l⟩
theorem hENl0 {l : List (FuncId × CtF)} (hl : ∀ f g, (f, g) ∈ l → CtOk Tryz.prog f g) : EnvOk (ENl0 Tryz.prog cfgErr l) := by
 refine envOk (fun f g h => ?_) (by kernel_rfl) (by kernel_rfl)
 rcases List.mem_cons.1 h with h | h
 · cases h; exact ct_new0
 rcases List.mem_cons.1 h with h | h
 · cases h; exact ct_ref4
 · exact hl f g h
theorem hENl1 {l : List (FuncId × CtF)} (hl : ∀ f g, (f, g) ∈ l → CtOk Tryz.prog f g) : EnvOk (ENl1 Tryz.prog cfgErr l) := by
 refine envOk (fun f g h => ?_) (by kernel_rfl) (by kernel_rfl)
 rcases List.mem_cons.1 h with h | h
 · cases h; exact ct_new1
 rcases List.mem_cons.1 h with h | h
 · cases h; exact ct_ref4
 · exact hl f g h
structure CfgGood (c : Cfg) : Prop where
 n4 : 4 ≤ c.nodes
 n16 : c.nodes ≤ 16
 p2 : 2 ≤ c.np
 p8 : c.np ≤ 8
 s1 : 1 ≤ c.ns
 s16 : c.ns ≤ 16
 l1 : c.nodes + 116 ≤ c.long
 l2 : 3 * c.nodes + 1 ≤ c.long
 l4 : c.long ≤ 4096
 nb : (c.nb : Int) = c.nodes
 nt : c.nt ≤ 8
 miss : 1 ≤ c.miss ∧ c.miss ≤ 100
 good : 1 ≤ c.good ∧ c.good ≤ 100
 fresh : 1 ≤ c.fresh ∧ c.fresh ≤ 100
 fp : ∀ p, p < c.np → 0 ≤ c.fp p ∧ c.fp p < c.nodes
 fs : ∀ i, i < c.ns → 0 ≤ c.fs i ∧ c.fs i < c.np
 has : ∀ p, p < c.np → ∃ i, i < c.ns ∧ c.fs i = p
theorem cfg_good {c : Cfg} (h : cfgErr c = 0) : CfgGood c := by
 obtain ⟨h1, h2, h3, h4, h5, h6, h7, h8, h9, h10⟩ := cfgErr_zero h
 have a1 := withinF_zero h1
 have a2 := withinF_zero h2
 have a4 := withinF_zero h4
 have a6 := withinF_zero h6
 have a8 := withinF_zero h8
 unfold rule3 at h3
 unfold rule5 all5 at h5
 unfold rule7 at h7
 unfold rule10 at h10
 have b3 : insideF c.fp c.np c.nodes = true := by
  split at h3
  · rename_i hh; simp only [Bool.and_eq_true] at hh; exact hh.1
  · cases h3
 split at h5
 · rename_i g5
   simp only [Bool.and_eq_true] at g5
   have b7 : (c.nb : Int) = c.nodes := by
    split at h7
    · assumption
    · cases h7
   have b10 : (1 ≤ c.miss ∧ c.miss ≤ 100) ∧ (1 ≤ c.good ∧ c.good ≤ 100) ∧ (1 ≤ c.fresh ∧ c.fresh ≤ 100) := by
    split at h10
    · rename_i g; exact absurd h10 g
    · rename_i g
      split at h10
      · rename_i g'; exact absurd h10 g'
      · rename_i g'
        exact ⟨withinF_zero (by omega), withinF_zero (by omega), withinF_zero h10⟩
   refine ⟨a1.1, a1.2, by omega, by omega, by omega, by omega, by omega, by omega, a6.2, b7, by omega, b10.1, b10.2.1, b10.2.2, fun p hp => ?_, fun i hi => ?_, fun p hp => ?_⟩
   · have := List.all_eq_true.1 b3 p (by simpa using hp)
     simpa using this
   · have := List.all_eq_true.1 g5.1 i (by simpa using hi)
     simpa using this
   · have := List.all_eq_true.1 g5.2 p (by simpa using hp)
     obtain ⟨i, hi, he⟩ := List.any_eq_true.1 this
     exact ⟨i, by simpa using hi, by simpa using he⟩
 · cases h5
end Go.Proofs.YtpgaplcdbbnblaaGreatDoor
end
/- MembersView as the evaluator runs it. -/
section
namespace Go.Proofs.YtpgaplcdbbnblaaGreatDoor
open Go.RowKit
def ctsMv : List (FuncId × CtF) := [(19, ctFst), (20, ctMay), (21, ctHrd), (22, ctRnd), (17, ctLess), (27, ctRd cfgRd qfR qfP), (24, ctRd cfgRd qmR qmP), (25, ctRd cfgRd qhR qhP), (26, ctRd cfgRd qrR qrP), (18, ctLess), (14, ctTG mS)]
theorem ctsMv_ok : ∀ f g, (f, g) ∈ ctsMv → CtOk Tryz.prog f g := by
 intro f g h
 simp only [ctsMv, List.mem_cons, Prod.mk.injEq, List.not_mem_nil, or_false] at h
 rcases h with ⟨rfl, rfl⟩ | ⟨rfl, rfl⟩ | ⟨rfl, rfl⟩ | ⟨rfl, rfl⟩ | ⟨rfl, rfl⟩ | ⟨rfl, rfl⟩ | ⟨rfl, rfl⟩ | ⟨rfl, rfl⟩ | ⟨rfl, rfl⟩ | ⟨rfl, rfl⟩ | ⟨rfl, rfl⟩
 · exact ct_fst
 · exact ct_may
 · exact ct_hrd
 · exact ct_rnd
 · exact ct_less
 · exact ct_qf
 · exact ct_qm
 · exact ct_qh
 · exact ct_qr
 · exact ct_rless
 · exact ctTG_of (E := E1 Tryz.prog) hE1 ⟨_, _, Tryz.func14, rfl⟩ (by kernel_rfl) (by unfold lim; omega) lv22_run
abbrev mvK : List (Option IntKind) := [none, none, none, none, none, none, none, none, some IntKind.u8, some IntKind.u8, some IntKind.u8, some IntKind.u8, some IntKind.u8, some IntKind.u8, some IntKind.u8, some IntKind.u8, some IntKind.u8, some IntKind.u8, some IntKind.u8, some IntKind.u8, some IntKind.u8, some IntKind.u8, some IntKind.u8, some IntKind.u8, some IntKind.u16, some IntKind.u16, some IntKind.u16, some IntKind.u16, some IntKind.u16, some IntKind.u16, some IntKind.u16, some IntKind.u16, none, none, none, none, none, none, none, none, some IntKind.i8, some IntKind.u8]
theorem mvE (err : Cfg → Int) (c : Cfg) (a b : Vw) (z : Int) (Q : VF → Prop) (H : let zz0 := mvK; let zt : List Bool → List Bool := fun l => true :: true :: true :: true :: true :: true :: true :: true :: l; let zu : List Bool → List Bool := fun l => zt (zt (zt (zt l))); let zq0 : List Bool := [true, true, true, true, true, true, true]; let zq1 : List Bool := true :: (decide (↑(c.np) > Int.ofNat 60) == false) :: zq0; let zq2 : List Bool := true :: (decide (↑(c.ns) > Int.ofNat 60) == false) :: zq1; let zq3 : List Bool := true :: (decide (↑(c.nb) > Int.ofNat 60) == false) :: zq2; let zq4 : List Bool := (cfgK c) :: true :: true :: true :: true :: true :: true :: true :: (cfgK c) :: (decide (c.nb ≤ 9223372036854775807)) :: (decide (err c ≠ Int.ofNat 0)) :: true :: true :: true :: true :: true :: true :: (decide (↑(c.nt) > Int.ofNat 60) == false) :: zq3; let zq5 : List Bool := zu (zu (zu (zu (zu (zt (zt (true :: true :: true :: true :: (((err c != err c) == false) :: zq4)))))))); let zq6 : List Bool := zu (zu (zu (zu (zu (zu (zu (zu (zu (zu (zu (zu (zu (zu (zu (zt (true :: true :: (((err c != Int.ofNat 0) == true) :: ((!lessL (vwL a) (vwL b) == lessL (vwL a) (vwL b)) == false) :: zq5))))))))))))))))); (((decide (↑(c.np) > Int.ofNat 60)) = true → Q (.c (.v (.bool true)), [], 28, ((decide (↑(c.np) > Int.ofNat 60) == true) :: zq0), [])) ∧ ((decide (↑(c.np) > Int.ofNat 60)) = false → (((decide (↑(c.ns) > Int.ofNat 60)) = true → Q (.c (.v (.bool true)), [], 32, ((decide (↑(c.ns) > Int.ofNat 60) == true) :: zq1), [])) ∧ ((decide (↑(c.ns) > Int.ofNat 60)) = false → (((decide (↑(c.nb) > Int.ofNat 60)) = true → Q (.c (.v (.bool true)), [], 36, ((decide (↑(c.nb) > Int.ofNat 60) == true) :: zq2), [])) ∧ ((decide (↑(c.nb) > Int.ofNat 60)) = false → (((decide (↑(c.nt) > Int.ofNat 60)) = true → Q (.c (.v (.bool true)), [], 40, ((decide (↑(c.nt) > Int.ofNat 60) == true) :: zq3), [])) ∧ ((decide (↑(c.nt) > Int.ofNat 60)) = false → (((err c != err c) = true → Q (.c (.v (.bool false)), [], 170000000000000000000000000000000000000046, (((err c != err c) == true) :: zq4), [])) ∧ ((err c != err c) = false → (((!lessL (vwL a) (vwL b) == lessL (vwL a) (vwL b)) = true → Q (.c (.v (.bool false)), [], 170000000000000000000000000000000000000046, (((!lessL (vwL a) (vwL b) == lessL (vwL a) (vwL b)) == true) :: zq5), [])) ∧ ((!lessL (vwL a) (vwL b) == lessL (vwL a) (vwL b)) = false → (((eqF zz0 (vwL a) (vwL a)) = true → Q (.c (.v (.bool true)), [], 570000000000000000000000000000000000000047, (zu (zu (zu (zu ((eqF zz0 (vwL a) (vwL a) == true) :: (zu (zu (zu (zu (zu (zu (zu (zu (zt (true :: true :: true :: true :: ((eqF zz0 (vwL a) (vwL a) == true) :: zq6)))))))))))))))), [])) ∧ ((eqF zz0 (vwL a) (vwL a)) = false → Q (.c (.v (.bool false)), [], 570000000000000000000000000000000000000047, ((eqF zz0 (vwL a) (vwL a) == false) :: zq6), [])))))))))))))))) :
 ∃ p r, lwR (ENl1 Tryz.prog err ctsMv) 3 mS c [.agg (vwL a ++ vwL b), i64 z] p [] = some r ∧ Q r :=
 two H
 (fun g1 => ⟨pD 13 1, _, by kernel_rfl, g1⟩)
 (fun g1 => two g1
  (fun g2 => ⟨pD 13 83, _, by kernel_rfl, g2⟩)
  (fun g2 => two g2
   (fun g3 => ⟨pD 13 6725, _, by kernel_rfl, g3⟩)
   (fun g3 => two g3
    (fun g4 => ⟨pD 13 544727, _, by kernel_rfl, g4⟩)
    (fun g4 => two g4
     (fun g5 => ⟨pD 25 2670491, _, by kernel_rfl, g5⟩)
     (fun g5 => two g5
      (fun g6 => ⟨pD 25 282433801295, _, by kernel_rfl, g6⟩)
      (fun g6 => two g6
       (fun g7 => ⟨pD 159 4567759392842724005419533068738834470316684225036687976821769076599095, _, by kernel_rfl, g7⟩)
       (fun g7 => ⟨pD 143 636669967197883491262127134516276007946623425982896832043183113, _, by kernel_rfl, g7⟩)))))))
theorem mvD (err : Cfg → Int) (c : Cfg) (a b : Vw) (z : Int) (Q : VF → Prop) (H : let zz6 := (Int.ofNat 0 ≤ headN c (Int.toNat (Cfg.nodes c)) (pairF c (2 * Cfg.np c)) z); let zz0 := (vwL (hrdV (decide zz6) z a)); let zz1 := mvK; let zz2 := (vwL (hrdV (decide zz6) z b)); let zz5 := (fstV c (Int.toNat (Cfg.nodes c)) (pairF c (2 * Cfg.np c))); let zz3 := (vwL zz5); let zz4 := (vwL (rfV (Cfg.np c))); let zz7 := (RndG.mk (Cfg.np c) (Cfg.miss c) (Cfg.good c)); let zz8 := (NetS.mk c (Int.toNat (Cfg.nodes c)) (pairF c (2 * Cfg.np c)) [AV.agg (vwL a), AV.c (AC.v (Value.int IntKind.i64 z))]); let zz9 := (CfgS.mk c [AV.agg (vwL a), AV.c (AC.v (Value.int IntKind.i64 z))]); let zz10 := (NetS.mk c (Int.toNat (Cfg.nodes c)) (pairF c (2 * Cfg.np c)) [AV.agg (vwL a)]); let zz11 := [AV.agg (vwL b), AV.c (AC.v (Value.int IntKind.i64 z))]; let zz12 := (NetS.mk c (Int.toNat (Cfg.nodes c)) (pairF c (2 * Cfg.np c)) zz11); let zt : List Bool → List Bool := fun l => true :: true :: true :: true :: true :: true :: true :: true :: l; let zu : List Bool → List Bool := fun l => zt (zt (zt (zt l))); let zq0 : List Bool := [cfgK c, true, true, true, true, true, true, true, cfgK c, decide (c.nb ≤ 9223372036854775807), decide (err c = Int.ofNat 0), true, true, true, true, true, true, decide (↑(c.nt) > Int.ofNat 60) == false, true, decide (↑(c.nb) > Int.ofNat 60) == false, true, decide (↑(c.ns) > Int.ofNat 60) == false, true, decide (↑(c.np) > Int.ofNat 60) == false, true, true, true, true, true, true, true]; let zq1 : List Bool := zu (zu (zu (zu (zu (zt (zt (true :: true :: true :: true :: (((Int.ofNat 0 != err c) == false) :: zq0)))))))); let zq2 : List Bool := (cfgK c) :: (qmP (CfgS.mk c [AV.agg (vwL a)])) :: (zu (zt (zt (true :: true :: ((netK c (Int.toNat (c.nodes)) (pairF c (2 * c.np))) :: (zu (zt (true :: true :: true :: true :: true :: (((!lessL (vwL a) (vwL b) == lessL (vwL a) (vwL b)) == false) :: zq1))))))))); let zq3 : List Bool := zu (zu (zt (zt (true :: true :: true :: true :: ((cfgK c) :: (qhP zz9) :: (zu (zt (zt (true :: true :: ((netK c (Int.toNat (c.nodes)) (pairF c (2 * c.np))) :: (pW hrdC zz8) :: (zu (zt (true :: true :: true :: true :: (((!mayB c (Int.toNat (c.nodes)) (pairF c (2 * c.np)) (vwL a) == rmayB (c.np) (vwL a)) == false) :: zq2)))))))))))))); let zq4 : List Bool := zu (zu (zt (zt (true :: true :: true :: true :: ((cfgK c) :: (qrP (CfgS.mk c [AV.agg (vwL a)])) :: (zu (zt (zt (true :: true :: ((netK c (Int.toNat (c.nodes)) (pairF c (2 * c.np))) :: (pX rndP zz10) :: (zu (zt (true :: true :: true :: true :: (((!eqF zz1 zz0 (vwL (hrdV (decide (Int.ofNat 0 ≤ z ∧ z < ↑(c.np))) z a))) == false) :: zq3)))))))))))))); let zq5 : List Bool := (cfgK c) :: (qmP (CfgS.mk c [AV.agg (vwL b)])) :: (zu (zt (zt (true :: true :: ((netK c (Int.toNat (c.nodes)) (pairF c (2 * c.np))) :: (zu (zt (true :: true :: true :: true :: true :: (((!eqF zz1 (vwL (rndV zz7 a)) (vwL (rndV zz7 a))) == false) :: zq4))))))))); let zq6 : List Bool := zu (zu (zt (zt (true :: true :: true :: true :: ((cfgK c) :: (qhP (CfgS.mk c zz11)) :: (zu (zt (zt (true :: true :: ((netK c (Int.toNat (c.nodes)) (pairF c (2 * c.np))) :: (pW hrdC zz12) :: (zu (zt (true :: true :: true :: true :: (((!mayB c (Int.toNat (c.nodes)) (pairF c (2 * c.np)) (vwL b) == rmayB (c.np) (vwL b)) == false) :: zq5)))))))))))))); let zq7 : List Bool := zu (zu (zt (zt (true :: true :: true :: true :: ((cfgK c) :: (qrP (CfgS.mk c [AV.agg (vwL b)])) :: (zu (zt (zt (true :: true :: ((netK c (Int.toNat (c.nodes)) (pairF c (2 * c.np))) :: (pX rndP (NetS.mk c (Int.toNat (c.nodes)) (pairF c (2 * c.np)) [AV.agg (vwL b)])) :: (zu (zt (true :: true :: true :: true :: (((!eqF zz1 zz2 (vwL (hrdV (decide (Int.ofNat 0 ≤ z ∧ z < ↑(c.np))) z b))) == false) :: zq6)))))))))))))); let zq8 : List Bool := zu (zu (zt (zt (true :: true :: true :: true :: ((cfgK c) :: (qfP (CfgS.mk c [])) :: true :: true :: true :: true :: true :: true :: (netK c (Int.toNat (c.nodes)) (pairF c (2 * c.np))) :: true :: ((!eqF zz1 (vwL (rndV zz7 b)) (vwL (rndV zz7 b))) == false) :: zq7))))); (((Int.ofNat 0 != err c) = true → Q (.c (.v (.bool false)), [], 170000000000000000000000000000000000000052, (((Int.ofNat 0 != err c) == true) :: zq0), [])) ∧ ((Int.ofNat 0 != err c) = false → (((!lessL (vwL a) (vwL b) == lessL (vwL a) (vwL b)) = true → Q (.c (.v (.bool false)), [], 170000000000000000000000000000000000000052, (((!lessL (vwL a) (vwL b) == lessL (vwL a) (vwL b)) == true) :: zq1), [])) ∧ ((!lessL (vwL a) (vwL b) == lessL (vwL a) (vwL b)) = false → (((!mayB c (Int.toNat (c.nodes)) (pairF c (2 * c.np)) (vwL a) == rmayB (c.np) (vwL a)) = true → Q (.c (.v (.bool false)), [], 560000000000000000000000000000000000000057, (((!mayB c (Int.toNat (c.nodes)) (pairF c (2 * c.np)) (vwL a) == rmayB (c.np) (vwL a)) == true) :: zq2), [])) ∧ ((!mayB c (Int.toNat (c.nodes)) (pairF c (2 * c.np)) (vwL a) == rmayB (c.np) (vwL a)) = false → (((!eqF zz1 zz0 (vwL (hrdV (decide (Int.ofNat 0 ≤ z ∧ z < ↑(c.np))) z a))) = true → Q (.c (.v (.bool false)), [], 560000000000000000000000000000000000000057, (((!eqF zz1 zz0 (vwL (hrdV (decide (Int.ofNat 0 ≤ z ∧ z < ↑(c.np))) z a))) == true) :: zq3), [])) ∧ ((!eqF zz1 zz0 (vwL (hrdV (decide (Int.ofNat 0 ≤ z ∧ z < ↑(c.np))) z a))) = false → (((!eqF zz1 (vwL (rndV zz7 a)) (vwL (rndV zz7 a))) = true → Q (.c (.v (.bool false)), [], 560000000000000000000000000000000000000057, (((!eqF zz1 (vwL (rndV zz7 a)) (vwL (rndV zz7 a))) == true) :: zq4), [])) ∧ ((!eqF zz1 (vwL (rndV zz7 a)) (vwL (rndV zz7 a))) = false → (((!mayB c (Int.toNat (c.nodes)) (pairF c (2 * c.np)) (vwL b) == rmayB (c.np) (vwL b)) = true → Q (.c (.v (.bool false)), [], 950000000000000000000000000000000000000062, (((!mayB c (Int.toNat (c.nodes)) (pairF c (2 * c.np)) (vwL b) == rmayB (c.np) (vwL b)) == true) :: zq5), [])) ∧ ((!mayB c (Int.toNat (c.nodes)) (pairF c (2 * c.np)) (vwL b) == rmayB (c.np) (vwL b)) = false → (((!eqF zz1 zz2 (vwL (hrdV (decide (Int.ofNat 0 ≤ z ∧ z < ↑(c.np))) z b))) = true → Q (.c (.v (.bool false)), [], 950000000000000000000000000000000000000062, (((!eqF zz1 zz2 (vwL (hrdV (decide (Int.ofNat 0 ≤ z ∧ z < ↑(c.np))) z b))) == true) :: zq6), [])) ∧ ((!eqF zz1 zz2 (vwL (hrdV (decide (Int.ofNat 0 ≤ z ∧ z < ↑(c.np))) z b))) = false → (((!eqF zz1 (vwL (rndV zz7 b)) (vwL (rndV zz7 b))) = true → Q (.c (.v (.bool false)), [], 950000000000000000000000000000000000000062, (((!eqF zz1 (vwL (rndV zz7 b)) (vwL (rndV zz7 b))) == true) :: zq7), [])) ∧ ((!eqF zz1 (vwL (rndV zz7 b)) (vwL (rndV zz7 b))) = false → (((eqF zz1 zz3 zz4) = true → Q (.c (.v (.bool true)), [], 1040000000000000000000000000000000000000066, ((eqF zz1 zz3 zz4 == true) :: zq8), [])) ∧ ((eqF zz1 zz3 zz4) = false → Q (.c (.v (.bool false)), [], 1040000000000000000000000000000000000000066, ((eqF zz1 zz3 zz4 == false) :: zq8), [])))))))))))))))))))) :
 ∃ p r, lwR (ENl0 Tryz.prog err ctsMv) 3 mS c [.agg (vwL a ++ vwL b), i64 z] p [] = some r ∧ Q r :=
 two H
 (fun g1 => ⟨pD 25 2670491, _, by kernel_rfl, g1⟩)
 (fun g1 => two g1
  (fun g2 => ⟨pD 25 282433801295, _, by kernel_rfl, g2⟩)
  (fun g2 => two g2
   (fun g3 => ⟨pD 52 8190460822763, _, by kernel_rfl, g3⟩)
   (fun g3 => two g3
    (fun g4 => ⟨pD 52 12157681275115236551, _, by kernel_rfl, g4⟩)
    (fun g4 => two g4
     (fun g5 => ⟨pD 52 2153718278422291938476099, _, by kernel_rfl, g5⟩)
     (fun g5 => two g5
      (fun g6 => ⟨pD 78 23690657909177869601583569, _, by kernel_rfl, g6⟩)
      (fun g6 => two g6
       (fun g7 => ⟨pD 78 30903197456536189219810140183821, _, by kernel_rfl, g7⟩)
       (fun g7 => two g7
        (fun g8 => ⟨pD 78 5474462895772058550878737664351739113, _, by kernel_rfl, g8⟩)
        (fun g8 => two g8
         (fun g9 => ⟨pD 80 60218473789974252371650297000049256743, _, by kernel_rfl, g9⟩)
         (fun g9 => ⟨pD 80 109488083594756226810344700402177022610, _, by kernel_rfl, g9⟩)))))))))
end Go.Proofs.YtpgaplcdbbnblaaGreatDoor
end
