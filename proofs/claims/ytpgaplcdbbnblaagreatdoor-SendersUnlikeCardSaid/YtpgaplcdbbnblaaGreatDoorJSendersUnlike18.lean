/- Parts, one behind the other. Laws of a config that came in: from their runs to their calls. -/
import Derived.Test.YtpgaplcdbbnblaaGreatDoorJSendersUnlike17
import Derived.Test.YtpgaplcdbbnblaaGreatDoorJSendersUnlike15
import Derived.Test.YtpgaplcdbbnblaaGreatDoorJSendersUnlike10
import Derived.Test.YtpgaplcdbbnblaaGreatDoorJSendersUnlike11
set_option linter.unusedSimpArgs false
set_option linter.unusedVariables false
/- Laws of a config that came in: from their runs to their calls. -/
section
namespace Go.Proofs.YtpgaplcdbbnblaaGreatDoor
open Go.RowKit

def lwR (E : Env) (f : FuncId) (G : AMem) (c : Cfg) (r : List AV) (path : List Dec) (lp : List (Option LSum)) : Option VF := viewF [] (fCallF E (fC E 300) f (.agg (cfgC c) :: r) 10 10000000000000000000000000000000000000000 (stA (G ++ cfgL c) path lp))
theorem cfg_law {E : Env} (hE : EnvOk E) {f : FuncId} {G : AMem} {w : World} (hG : ∀ p ∈ G, GlobAt w p) {c : Cfg} {cs : List Value} (hc : CfgIn w c cs) {r : List AV} {us : List Value} (hr : ∀ β, γt β r = some us)
    (run : ∃ p lp q, lwR E f G c r p lp = some q ∧ GoodF (bo true) q) : Calls E.P f (.agg cs.toArray :: us).toArray w fun e w' => e = .returned (.bool true) ∧ Below w.heap.size w w' := by
  obtain ⟨p, lp, ⟨v, b', n, ob, po⟩, hrun, hv, hn, hob, hpo⟩ := run
  obtain ⟨s', r1, r2, r3, r4⟩ := viewF_out hrun
  obtain ⟨β, q1, q2, _, q4⟩ := rel_cfgIn hG hc
  have hn : n ≤ lim := hn
  refine (calls_f hE r1 ⟨by rw [r3]; exact hob, by rw [r4]; exact hpo⟩ (C := loneC w) (β := β) (w := w) (vs := .agg cs.toArray :: us) ?_ q1 (fun id h1 h2 => q4 id (by omega) (by omega))).mono ?_
  · simp only [γt, γ1, q2, hr β]
  · rintro e w' ⟨β', u, rfl, _, _, hu, hr'⟩
    simp only at hv
    subst hv
    cases hu
    exact ⟨rfl, below_lone hr'⟩
theorem cfgErr_zero {c : Cfg} (h : cfgErr c = 0) : rule1 c = 0 ∧ rule2 c = 0 ∧ rule3 c = 0 ∧ rule4 c = 0 ∧ rule5 c = 0 ∧ rule6 c = 0 ∧ rule7 c = 0 ∧ rule8 c = 0 ∧ rule9 c = 0 ∧ rule10 c = 0 := by
  unfold cfgErr at h
  generalize rule1 c = x1 at *
  generalize rule2 c = x2 at *
  generalize rule3 c = x3 at *
  generalize rule4 c = x4 at *
  generalize rule5 c = x5 at *
  generalize rule6 c = x6 at *
  generalize rule7 c = x7 at *
  generalize rule8 c = x8 at *
  generalize rule9 c = x9 at *
  generalize rule10 c = x10 at *
  by_cases h1 : x1 = 0 <;> by_cases h2 : x2 = 0 <;> by_cases h3 : x3 = 0 <;> by_cases h4 : x4 = 0 <;> by_cases h5 : x5 = 0 <;> by_cases h6 : x6 = 0 <;> by_cases h7 : x7 = 0 <;> by_cases h8 : x8 = 0 <;> by_cases h9 : x9 = 0 <;> simp_all
end Go.Proofs.YtpgaplcdbbnblaaGreatDoor
end
/- Laws on a net of a config that came in: their contracts. -/
section
namespace Go.Proofs.YtpgaplcdbbnblaaGreatDoor
open Go.RowKit

def ctRef4 (err : Cfg → Int) : CtF := ctCfg (fun c => i64 (err c)) fun _ => true
def ENl0 (P : Program) (err : Cfg → Int) (l : List (FuncId × CtF)) : Env := ⟨P, (15, ctNew0 err) :: (16, ctRef4 err) :: l⟩
def ENl1 (P : Program) (err : Cfg → Int) (l : List (FuncId × CtF)) : Env := ⟨P, (15, ctNew1 err) :: (16, ctRef4 err) :: l⟩
theorem hENl0 {l : List (FuncId × CtF)} (hl : ∀ f g, (f, g) ∈ l → CtOk Tryz.prog f g) : EnvOk (ENl0 Tryz.prog cfgErr l) := by
  refine envOk (fun f g h => ?_) (by kernel_rfl) (by kernel_rfl)
  rcases List.mem_cons.1 h with h | h
  · cases h; exact ct_new0
  rcases List.mem_cons.1 h with h | h
  · cases h; exact ct_ref4
  · exact hl f g h
theorem hENl1 {l : List (FuncId × CtF)} (hl : ∀ f g, (f, g) ∈ l → CtOk Tryz.prog f g) : EnvOk (ENl1 Tryz.prog cfgErr l) := by
  refine envOk (fun f g h => ?_) (by kernel_rfl) (by kernel_rfl)
  rcases List.mem_cons.1 h with h | h
  · cases h; exact ct_new1
  rcases List.mem_cons.1 h with h | h
  · cases h; exact ct_ref4
  · exact hl f g h
/-- what holds of a config that may be -/
structure CfgGood (c : Cfg) : Prop where
  n4 : 4 ≤ c.nodes
  n16 : c.nodes ≤ 16
  p2 : 2 ≤ c.np
  p8 : c.np ≤ 8
  s1 : 1 ≤ c.ns
  s16 : c.ns ≤ 16
  l1 : c.nodes + 116 ≤ c.long
  l2 : 3 * c.nodes + 1 ≤ c.long
  l4 : c.long ≤ 4096
  nb : (c.nb : Int) = c.nodes
  nt : c.nt ≤ 8
  miss : 1 ≤ c.miss ∧ c.miss ≤ 100
  good : 1 ≤ c.good ∧ c.good ≤ 100
  fresh : 1 ≤ c.fresh ∧ c.fresh ≤ 100
  fp : ∀ p, p < c.np → 0 ≤ c.fp p ∧ c.fp p < c.nodes
  fs : ∀ i, i < c.ns → 0 ≤ c.fs i ∧ c.fs i < c.np
  has : ∀ p, p < c.np → ∃ i, i < c.ns ∧ c.fs i = p
theorem cfg_good {c : Cfg} (h : cfgErr c = 0) : CfgGood c := by
  obtain ⟨h1, h2, h3, h4, h5, h6, h7, h8, h9, h10⟩ := cfgErr_zero h
  have a1 := withinF_zero h1
  have a2 := withinF_zero h2
  have a4 := withinF_zero h4
  have a6 := withinF_zero h6
  have a8 := withinF_zero h8
  unfold rule3 at h3
  unfold rule5 all5 at h5
  unfold rule7 at h7
  unfold rule10 at h10
  have b3 : insideF c.fp c.np c.nodes = true := by
    split at h3
    · rename_i hh; simp only [Bool.and_eq_true] at hh; exact hh.1
    · cases h3
  split at h5
  · rename_i g5
    simp only [Bool.and_eq_true] at g5
    have b7 : (c.nb : Int) = c.nodes := by
      split at h7
      · assumption
      · cases h7
    have b10 : (1 ≤ c.miss ∧ c.miss ≤ 100) ∧ (1 ≤ c.good ∧ c.good ≤ 100) ∧ (1 ≤ c.fresh ∧ c.fresh ≤ 100) := by
      split at h10
      · rename_i g; exact absurd h10 g
      · rename_i g
        split at h10
        · rename_i g'; exact absurd h10 g'
        · rename_i g'
          exact ⟨withinF_zero (by omega), withinF_zero (by omega), withinF_zero h10⟩
    refine ⟨a1.1, a1.2, by omega, by omega, by omega, by omega, by omega, by omega, a6.2, b7, by omega, b10.1, b10.2.1, b10.2.2, fun p hp => ?_, fun i hi => ?_, fun p hp => ?_⟩
    · have := List.all_eq_true.1 b3 p (by simpa using hp)
      simpa using this
    · have := List.all_eq_true.1 g5.1 i (by simpa using hi)
      simpa using this
    · have := List.all_eq_true.1 g5.2 p (by simpa using hp)
      obtain ⟨i, hi, he⟩ := List.any_eq_true.1 this
      exact ⟨i, by simpa using hi, by simpa using he⟩
  · cases h5
end Go.Proofs.YtpgaplcdbbnblaaGreatDoor
end
/- SendersUnlike as the evaluator runs it . -/
section
namespace Go.Proofs.YtpgaplcdbbnblaaGreatDoor
open Go.RowKit

def ctsSu : List (FuncId × CtF) := [(35, ctNet1 pairN), (72, ctRoundN), (86, ctWiOf), (29, ctTG mSR)]
theorem ct_lv11 : CtOk Tryz.prog 29 (ctTG mSR) := hEL11.ct _ _ (List.mem_cons_self ..)
theorem ctsSu_ok : ∀ f g, (f, g) ∈ ctsSu → CtOk Tryz.prog f g := by
  intro f g h
  simp only [ctsSu, List.mem_cons, Prod.mk.injEq, List.not_mem_nil, or_false] at h
  rcases h with ⟨rfl, rfl⟩ | ⟨rfl, rfl⟩ | ⟨rfl, rfl⟩ | ⟨rfl, rfl⟩
  · exact ct_pair
  · exact ct_round
  · exact ct_wiOf
  · exact ct_lv11
abbrev suI : List Nat := [gid 2, gid 1, 10, 11, 12, 48, 49, 50, 51, 52, 53]
abbrev netYs (c : Cfg) : List ABlk := [netY 48 c, intsW c.nodes.toNat (pairF c (2 * c.np)), intsW c.np c.fp, intsW c.ns c.fs, intsW c.nb c.fb, stsW c.nt c.ft]
abbrev suB (c : Cfg) (y z : Int) (a b : Said) : List ABlk := [signB, rolesB, cfgB c, ⟨true, false, 88, 0, .lit [.v (.int .u8 y), .v (.int .u8 z)]⟩, ⟨true, false, 59, 0, .lit ((a.cells ++ b.cells).map .v)⟩] ++ netYs c
abbrev suH : List Nat := [3, 4, 5, 7, 8, 9, 10]
abbrev suV (d q : Int) (k : Nat) : List AV := [.c (.ptr 10 0 0), .c (.ptr 11 0 0), .c (.ptr 12 0 0), .c (.ptr 48 0 0), i64 d, i64 q, i64 (Int.ofNat k)]
abbrev suO (d q : Int) : List (Nat × AV) := [(4, .c (.ptr 11 0 0)), (5, .c (.ptr 12 0 0)), (7, .c (.ptr 48 0 0)), (8, i64 d), (9, i64 q)]
abbrev suS (c : Cfg) (y z : Int) (a b : Said) (d q : Int) : LSum := ⟨suH, suI, mkFr 119 (suO d q), suI.zip (suB c y z a b), 100000000000000000000000000000000000000000000000000, .exit 0⟩
def suR (P : Program) (err : Cfg → Int) (c : Cfg) (y z : Int) (a b : Said) (d q : Int) (k : Nat) (path : List Dec) : Option VC :=
  view (suH ++ []) suI (fC (ENl0 P err ctsSu) 100 (loopAt P 6 0) 1000000000000000000000000000000000000000000 10000000000000000000000000000000000000000 (stH 119 suH suI (suV d q k) (suB c y z a b) path []))
abbrev suA (y z : Int) (a b : Said) : List AV := [.agg [.v (.int .u8 y), .v (.int .u8 z)], .agg ((a.cells ++ b.cells).map .v)]
theorem suT (err : Cfg → Int) (c : Cfg) (y z : Int) (a b : Said) (d q : Int) (k : Nat) (Q : VC → Prop) (H : let zz0 := [some (ABlk.mk false false 131 0 (Cs.lit [AC.v (Value.int IntKind.i64 (Int.ofNat 1)), AC.v (Value.int IntKind.i64 (Int.negSucc 0))])), some (ABlk.mk false false 262 0 (Cs.lit [AC.v (Value.int IntKind.u8 (Int.ofNat 1)), AC.v (Value.int IntKind.u8 (Int.ofNat 1)), AC.v (Value.int IntKind.u8 (Int.ofNat 2))])), some (ABlk.mk true false 25 0 (Cs.lit [AC.v (Value.int IntKind.i64 (Cfg.nodes c)), AC.sl 0 0 0 (Cfg.np c) none, AC.sl 1 0 0 (Cfg.ns c) none, AC.v (Value.int IntKind.i64 (Cfg.long c)), AC.sl 2 0 0 (Cfg.nb c) none, AC.sl 3 0 0 (Cfg.nt c) none, AC.v (Value.int IntKind.i64 (Cfg.miss c)), AC.v (Value.int IntKind.i64 (Cfg.good c)), AC.v (Value.int IntKind.i64 (Cfg.fresh c))])), some (ABlk.mk true false 88 0 (Cs.lit [AC.v (Value.int IntKind.u8 y), AC.v (Value.int IntKind.u8 z)])), some (ABlk.mk true false 59 0 (Cs.lit [AC.v (Value.bool (Said.is a)), AC.v (Value.int IntKind.i64 (Said.at_ a)), AC.v (Value.int IntKind.u8 (Payload.kind (Said.p a))), AC.v (Value.int IntKind.u8 (Payload.st (Said.p a))), AC.v (Value.int IntKind.u32 (Payload.seq (Said.p a))), AC.v (Value.int IntKind.u32 (Payload.val (Said.p a))), AC.v (Value.bool (Said.is b)), AC.v (Value.int IntKind.i64 (Said.at_ b)), AC.v (Value.int IntKind.u8 (Payload.kind (Said.p b))), AC.v (Value.int IntKind.u8 (Payload.st (Said.p b))), AC.v (Value.int IntKind.u32 (Payload.seq (Said.p b))), AC.v (Value.int IntKind.u32 (Payload.val (Said.p b)))])), some (ABlk.mk true false 77 0 (Cs.lit [AC.v (Value.int IntKind.i64 (Cfg.nodes c)), AC.sl 50 0 0 (Cfg.np c) (some (Cfg.np c)), AC.sl 51 0 0 (Cfg.ns c) (some (Cfg.ns c)), AC.v (Value.int IntKind.i64 (Cfg.long c)), AC.sl 52 0 0 (Cfg.nb c) (some (Cfg.nb c)), AC.sl 53 0 0 (Cfg.nt c) (some (Cfg.nt c)), AC.v (Value.int IntKind.i64 (Cfg.miss c)), AC.v (Value.int IntKind.i64 (Cfg.good c)), AC.v (Value.int IntKind.i64 (Cfg.fresh c)), AC.sl 49 0 0 (Int.toNat (Cfg.nodes c)) none])), some (ABlk.mk true true 3 1 (Cs.arr (Int.toNat (Cfg.nodes c)) fun k => List.map AC.v ((fun i => [Value.int IntKind.i64 (pairF c (2 * Cfg.np c) i)]) k))), some (ABlk.mk true true 3 1 (Cs.arr (Cfg.np c) fun k => List.map AC.v ((fun i => [Value.int IntKind.i64 (Cfg.fp c i)]) k))), some (ABlk.mk true true 3 1 (Cs.arr (Cfg.ns c) fun k => List.map AC.v ((fun i => [Value.int IntKind.i64 (Cfg.fs c i)]) k))), some (ABlk.mk true true 3 1 (Cs.arr (Cfg.nb c) fun k => List.map AC.v ((fun i => [Value.int IntKind.i64 (Cfg.fb c i)]) k))), some (ABlk.mk true true 161 3 (Cs.arr (Cfg.nt c) fun k => List.map AC.v ((fun i => [Value.int IntKind.i64 (Station.node (Cfg.ft c i)), Value.int IntKind.u32 (Station.safe (Cfg.ft c i)), Value.int IntKind.i64 (Station.hold (Cfg.ft c i))]) k)))]; let zz1 := [some (lkA (List.zip suH (suV d q k)) 3), some (lkA (List.zip suH (suV d q k)) 4), some (lkA (List.zip suH (suV d q k)) 5), some (lkA (List.zip suH (suV d q k)) 7), some (lkA (List.zip suH (suV d q k)) 8), some (lkA (List.zip suH (suV d q k)) 9), some (lkA (List.zip suH (suV d q k)) 10)]; let zz2 := (pairN c (Int.toNat (Cfg.nodes c)) (pairF c (2 * Cfg.np c)) (List.headD [d] (Int.ofNat 0)) != Int.ofNat k); let zz3 := [some (lkA (List.zip suH (suV d q k)) 3), some (lkA (List.zip suH (suV d q k)) 4), some (lkA (List.zip suH (suV d q k)) 5), some (lkA (List.zip suH (suV d q k)) 7), some (lkA (List.zip suH (suV d q k)) 8), some (lkA (List.zip suH (suV d q k)) 9), some (AV.c (AC.v (Value.int IntKind.i64 (IntKind.wrap IntKind.i64 (Int.ofNat k + Int.ofNat 1)))))]; let zz4 := (NetS.mk c (Int.toNat (Cfg.nodes c)) (pairF c (2 * Cfg.np c)) [AV.c (AC.v (Value.int IntKind.u8 (Int.ofNat 1))), AV.c (AC.v (Value.int IntKind.i64 (Int.ofNat k))), AV.c (AC.v (Value.int IntKind.i64 d))]); let zz5 := (NetS.mk c (Int.toNat (Cfg.nodes c)) (pairF c (2 * Cfg.np c)) [AV.c (AC.v (Value.int IntKind.u8 (Int.ofNat 0))), AV.c (AC.v (Value.int IntKind.i64 (Int.ofNat k))), AV.c (AC.v (Value.int IntKind.i64 d))]); let zq0 : List Bool := true :: []; let zq1 : List Bool := (netK c (Int.toNat (c.nodes)) (pairF c (2 * c.np))) :: true :: ((roundN c (Int.toNat (c.nodes)) == Int.ofNat 0) == false) :: (netK c (Int.toNat (c.nodes)) (pairF c (2 * c.np))) :: true :: true :: true :: true :: true :: true :: true :: true :: true :: (decide (Int.ofNat k < ↑(c.np)) == true) :: zq0; let zq2 : List Bool := (zz2 == true) :: zq1; let zq3 : List Bool := true :: true :: true :: true :: (netK c (Int.toNat (c.nodes)) (pairF c (2 * c.np))) :: (wnQ zz4) :: true :: true :: (netK c (Int.toNat (c.nodes)) (pairF c (2 * c.np))) :: (wnQ zz5) :: (zz2 == false) :: zq1; (((decide (Int.ofNat k < ↑(c.np))) = true → ((zz2 = true → (((!false == (Int.ofNat k == q)) = true → Q (Exit.ret, zz1, zz0, 119, 1000000000000000000000000000000000000000039, (((!false == (Int.ofNat k == q)) == true) :: zq2), [])) ∧ ((!false == (Int.ofNat k == q)) = false → Q (Exit.normal, zz3, zz0, 119, 1000000000000000000000000000000000000000041, (((!false == (Int.ofNat k == q)) == false) :: zq2), [])))) ∧ (zz2 = false → (((!true == (Int.ofNat k == q)) = true → Q (Exit.ret, zz1, zz0, 119, 1300000000000000000000000000000000000000062, (((!true == (Int.ofNat k == q)) == true) :: zq3), [])) ∧ ((!true == (Int.ofNat k == q)) = false → Q (Exit.normal, zz3, zz0, 119, 1300000000000000000000000000000000000000064, (((!true == (Int.ofNat k == q)) == false) :: zq3), [])))))) ∧ ((decide (Int.ofNat k < ↑(c.np))) = false → Q (Exit.exit 0, zz1, zz0, 119, 1000000000000000000000000000000000000000005, ((decide (Int.ofNat k < ↑(c.np)) == false) :: zq0), [])))) :
    ∃ p r, suR Tryz.prog err c y z a b d q k p = some r ∧ Q r :=
  two H
  (fun g1 => two g1
    (fun g2 => two g2
      (fun g3 => ⟨pD 9 8755, _, by kernel_rfl, g3⟩)
      (fun g3 => ⟨pD 9 15316, _, by kernel_rfl, g3⟩))
    (fun g2 => two g2
      (fun g3 => ⟨pD 21 3486788782, _, by kernel_rfl, g3⟩)
      (fun g3 => ⟨pD 21 6973573183, _, by kernel_rfl, g3⟩)))
  (fun g1 => ⟨pD 1 2, _, by kernel_rfl, g1⟩)
theorem suE (err : Cfg → Int) (c : Cfg) (y z : Int) (a b : Said) (Q : VF → Prop) (H : (((decide (↑(c.np) > Int.ofNat 60)) = true → Q (.c (.v (.bool true)), [], 38, [decide (↑(c.np) > Int.ofNat 60) == true, true, true, true, true, true, true, true, true, true, true, true, true, true], [])) ∧ ((decide (↑(c.np) > Int.ofNat 60)) = false → (((decide (↑(c.ns) > Int.ofNat 60)) = true → Q (.c (.v (.bool true)), [], 42, [decide (↑(c.ns) > Int.ofNat 60) == true, true, decide (↑(c.np) > Int.ofNat 60) == false, true, true, true, true, true, true, true, true, true, true, true, true, true], [])) ∧ ((decide (↑(c.ns) > Int.ofNat 60)) = false → (((decide (↑(c.nb) > Int.ofNat 60)) = true → Q (.c (.v (.bool true)), [], 46, [decide (↑(c.nb) > Int.ofNat 60) == true, true, decide (↑(c.ns) > Int.ofNat 60) == false, true, decide (↑(c.np) > Int.ofNat 60) == false, true, true, true, true, true, true, true, true, true, true, true, true, true], [])) ∧ ((decide (↑(c.nb) > Int.ofNat 60)) = false → (((decide (↑(c.nt) > Int.ofNat 60)) = true → Q (.c (.v (.bool true)), [], 50, [decide (↑(c.nt) > Int.ofNat 60) == true, true, decide (↑(c.nb) > Int.ofNat 60) == false, true, decide (↑(c.ns) > Int.ofNat 60) == false, true, decide (↑(c.np) > Int.ofNat 60) == false, true, true, true, true, true, true, true, true, true, true, true, true, true], [])) ∧ ((decide (↑(c.nt) > Int.ofNat 60)) = false → Q (.c (.v (.bool true)), [], 52, [(err c != Int.ofNat 0) == true, cfgK c, true, true, true, true, true, true, true, decide (↑(c.nt) > Int.ofNat 60) == false, true, decide (↑(c.nb) > Int.ofNat 60) == false, true, decide (↑(c.ns) > Int.ofNat 60) == false, true, decide (↑(c.np) > Int.ofNat 60) == false, true, true, true, true, true, true, true, true, true, true, true, true, true], [])))))))))) :
    ∃ p r, lwR (ENl1 Tryz.prog err ctsSu) 6 mSR c (suA y z a b) p [] = some r ∧ Q r :=
  two H
  (fun g1 => ⟨pD 17 1, _, by kernel_rfl, g1⟩)
  (fun g1 => two g1
    (fun g2 => ⟨pD 17 83, _, by kernel_rfl, g2⟩)
    (fun g2 => two g2
      (fun g3 => ⟨pD 17 6725, _, by kernel_rfl, g3⟩)
      (fun g3 => two g3
        (fun g4 => ⟨pD 17 544727, _, by kernel_rfl, g4⟩)
        (fun g4 => ⟨pD 17 15425075, _, by kernel_rfl, g4⟩))))
theorem suD1 (err : Cfg → Int) (c : Cfg) (y z : Int) (ta : Int) (pa : Payload) (b : Said) (d q : Int) (Q : VF → Prop) (H : let zz0 := [LoopV Tryz.prog (loopAt Tryz.prog 6 0) suH suI [some (AV.c (AC.ptr 10 0 0)), some (AV.c (AC.ptr 11 0 0)), some (AV.c (AC.ptr 12 0 0)), some (AV.c (AC.ptr 48 0 0)), some (AV.c (AC.v (Value.int IntKind.i64 (Int.tmod (IntKind.wrap IntKind.i64 y) (Cfg.nodes c))))), some (AV.c (AC.v (Value.int IntKind.i64 (pairN c (Int.toNat (Cfg.nodes c)) (pairF c (2 * Cfg.np c)) (List.headD [Int.tmod (IntKind.wrap IntKind.i64 y) (Cfg.nodes c)] (Int.ofNat 0)))))), some (AV.c (AC.v (Value.int IntKind.i64 (Int.ofNat 0))))] [some (ABlk.mk false false 131 0 (Cs.lit [AC.v (Value.int IntKind.i64 (Int.ofNat 1)), AC.v (Value.int IntKind.i64 (Int.negSucc 0))])), some (ABlk.mk false false 262 0 (Cs.lit [AC.v (Value.int IntKind.u8 (Int.ofNat 1)), AC.v (Value.int IntKind.u8 (Int.ofNat 1)), AC.v (Value.int IntKind.u8 (Int.ofNat 2))])), some (ABlk.mk true false 25 0 (Cs.lit [AC.v (Value.int IntKind.i64 (Cfg.nodes c)), AC.sl 0 0 0 (Cfg.np c) none, AC.sl 1 0 0 (Cfg.ns c) none, AC.v (Value.int IntKind.i64 (Cfg.long c)), AC.sl 2 0 0 (Cfg.nb c) none, AC.sl 3 0 0 (Cfg.nt c) none, AC.v (Value.int IntKind.i64 (Cfg.miss c)), AC.v (Value.int IntKind.i64 (Cfg.good c)), AC.v (Value.int IntKind.i64 (Cfg.fresh c))])), some (ABlk.mk true false 88 0 (Cs.lit [AC.v (Value.int IntKind.u8 y), AC.v (Value.int IntKind.u8 z)])), some (ABlk.mk true false 59 0 (Cs.lit [AC.v (Value.bool false), AC.v (Value.int IntKind.i64 (Said.at_ (Said.mk false ta pa))), AC.v (Value.int IntKind.u8 (Payload.kind pa)), AC.v (Value.int IntKind.u8 (Payload.st pa)), AC.v (Value.int IntKind.u32 (Payload.seq pa)), AC.v (Value.int IntKind.u32 (Payload.val pa)), AC.v (Value.bool (Said.is b)), AC.v (Value.int IntKind.i64 (Said.at_ b)), AC.v (Value.int IntKind.u8 (Payload.kind (Said.p b))), AC.v (Value.int IntKind.u8 (Payload.st (Said.p b))), AC.v (Value.int IntKind.u32 (Payload.seq (Said.p b))), AC.v (Value.int IntKind.u32 (Payload.val (Said.p b)))])), some (ABlk.mk true false 77 0 (Cs.lit [AC.v (Value.int IntKind.i64 (Cfg.nodes c)), AC.sl 50 0 0 (Cfg.np c) (some (Cfg.np c)), AC.sl 51 0 0 (Cfg.ns c) (some (Cfg.ns c)), AC.v (Value.int IntKind.i64 (Cfg.long c)), AC.sl 52 0 0 (Cfg.nb c) (some (Cfg.nb c)), AC.sl 53 0 0 (Cfg.nt c) (some (Cfg.nt c)), AC.v (Value.int IntKind.i64 (Cfg.miss c)), AC.v (Value.int IntKind.i64 (Cfg.good c)), AC.v (Value.int IntKind.i64 (Cfg.fresh c)), AC.sl 49 0 0 (Int.toNat (Cfg.nodes c)) none])), some (ABlk.mk true true 3 1 (Cs.arr (Int.toNat (Cfg.nodes c)) fun k => List.map AC.v ((fun i => [Value.int IntKind.i64 (pairF c (2 * Cfg.np c) i)]) k))), some (ABlk.mk true true 3 1 (Cs.arr (Cfg.np c) fun k => List.map AC.v ((fun i => [Value.int IntKind.i64 (Cfg.fp c i)]) k))), some (ABlk.mk true true 3 1 (Cs.arr (Cfg.ns c) fun k => List.map AC.v ((fun i => [Value.int IntKind.i64 (Cfg.fs c i)]) k))), some (ABlk.mk true true 3 1 (Cs.arr (Cfg.nb c) fun k => List.map AC.v ((fun i => [Value.int IntKind.i64 (Cfg.fb c i)]) k))), some (ABlk.mk true true 161 3 (Cs.arr (Cfg.nt c) fun k => List.map AC.v ((fun i => [Value.int IntKind.i64 (Station.node (Cfg.ft c i)), Value.int IntKind.u32 (Station.safe (Cfg.ft c i)), Value.int IntKind.i64 (Station.hold (Cfg.ft c i))]) k)))] 119 75 (mkFr 119 (suO d q)) (List.zip suI (suB c y z (Said.mk false ta pa) b)) 100000000000000000000000000000000000000000000000000 (Exit.exit 0) none]; let zz1 := [AC.v (Value.int IntKind.u8 (wR (wiP c (Int.ofNat 0) q d))), AC.v (Value.int IntKind.i64 (wP (wiP c (Int.ofNat 0) q d))), AC.v (Value.int IntKind.i64 (wB (wiP c (Int.ofNat 0) q d))), AC.v (Value.int IntKind.i64 (wN (wiP c (Int.ofNat 0) q d))), AC.v (Value.int IntKind.u8 (wR (wiP c (Int.ofNat 1) q d))), AC.v (Value.int IntKind.i64 (wP (wiP c (Int.ofNat 1) q d))), AC.v (Value.int IntKind.i64 (wB (wiP c (Int.ofNat 1) q d))), AC.v (Value.int IntKind.i64 (wN (wiP c (Int.ofNat 1) q d)))]; let zz2 := [AC.v (Value.int IntKind.u8 (Int.ofNat 0)), AC.v (Value.int IntKind.i64 (Int.ofNat 0)), AC.v (Value.int IntKind.i64 (Int.ofNat 0)), AC.v (Value.int IntKind.i64 (Int.ofNat 0)), AC.v (Value.int IntKind.u8 (Int.ofNat 0)), AC.v (Value.int IntKind.i64 (Int.ofNat 0)), AC.v (Value.int IntKind.i64 (Int.ofNat 0)), AC.v (Value.int IntKind.i64 (Int.ofNat 0))]; let zz3 := [some IntKind.u8, some IntKind.i64, some IntKind.i64, some IntKind.i64, some IntKind.u8, some IntKind.i64, some IntKind.i64, some IntKind.i64]; let zz4 := (pairN c (Int.toNat (Cfg.nodes c)) (pairF c (2 * Cfg.np c)) (List.headD [d] (Int.ofNat 0)) != q); let zz5 := (NetS.mk c (Int.toNat (Cfg.nodes c)) (pairF c (2 * Cfg.np c)) [AV.c (AC.v (Value.int IntKind.u8 (Int.ofNat 1))), AV.c (AC.v (Value.int IntKind.i64 q)), AV.c (AC.v (Value.int IntKind.i64 d))]); let zz6 := (NetS.mk c (Int.toNat (Cfg.nodes c)) (pairF c (2 * Cfg.np c)) [AV.c (AC.v (Value.int IntKind.u8 (Int.ofNat 0))), AV.c (AC.v (Value.int IntKind.i64 q)), AV.c (AC.v (Value.int IntKind.i64 d))]); let zq0 : List Bool := true :: true :: true :: true :: true :: true :: true :: true :: true :: true :: true :: true :: true :: []; let zq1 : List Bool := true :: (decide (↑(c.np) > Int.ofNat 60) == false) :: zq0; let zq2 : List Bool := true :: (decide (↑(c.ns) > Int.ofNat 60) == false) :: zq1; let zq3 : List Bool := true :: (decide (↑(c.nb) > Int.ofNat 60) == false) :: zq2; let zq4 : List Bool := (netK c (Int.toNat (c.nodes)) (pairF c (2 * c.np))) :: true :: (decide (c.nodes ≠ Int.ofNat 0)) :: true :: true :: true :: true :: true :: (cfgK c) :: (decide (c.nb ≤ 9223372036854775807)) :: (decide (err c = Int.ofNat 0)) :: true :: true :: true :: true :: true :: true :: ((err c != Int.ofNat 0) == false) :: (cfgK c) :: true :: true :: true :: true :: true :: true :: true :: (decide (↑(c.nt) > Int.ofNat 60) == false) :: zq3; let zq5 : List Bool := (netK c (Int.toNat (c.nodes)) (pairF c (2 * c.np))) :: true :: (decide (q < Int.ofNat 0) == false) :: ((roundN c (Int.toNat (c.nodes)) == Int.ofNat 0) == false) :: (netK c (Int.toNat (c.nodes)) (pairF c (2 * c.np))) :: true :: true :: true :: true :: true :: true :: true :: true :: true :: true :: true :: true :: true :: true :: true :: true :: true :: true :: true :: true :: (decide (q < Int.ofNat 0) == false) :: zq4; let zq6 : List Bool := true :: true :: true :: true :: true :: true :: true :: true :: true :: true :: true :: true :: true :: true :: true :: true :: true :: true :: true :: true :: true :: true :: true :: true :: true :: true :: true :: true :: true :: true :: true :: true :: (netK c (Int.toNat (c.nodes)) (pairF c (2 * c.np))) :: (wnQ zz5) :: true :: true :: (netK c (Int.toNat (c.nodes)) (pairF c (2 * c.np))) :: (wnQ zz6) :: (zz4 == false) :: zq5; (((decide (↑(c.np) > Int.ofNat 60)) = true → Q (.c (.v (.bool true)), [], 38, ((decide (↑(c.np) > Int.ofNat 60) == true) :: zq0), [])) ∧ ((decide (↑(c.np) > Int.ofNat 60)) = false → (((decide (↑(c.ns) > Int.ofNat 60)) = true → Q (.c (.v (.bool true)), [], 42, ((decide (↑(c.ns) > Int.ofNat 60) == true) :: zq1), [])) ∧ ((decide (↑(c.ns) > Int.ofNat 60)) = false → (((decide (↑(c.nb) > Int.ofNat 60)) = true → Q (.c (.v (.bool true)), [], 46, ((decide (↑(c.nb) > Int.ofNat 60) == true) :: zq2), [])) ∧ ((decide (↑(c.nb) > Int.ofNat 60)) = false → (((decide (↑(c.nt) > Int.ofNat 60)) = true → Q (.c (.v (.bool true)), [], 50, ((decide (↑(c.nt) > Int.ofNat 60) == true) :: zq3), [])) ∧ ((decide (↑(c.nt) > Int.ofNat 60)) = false → (((decide (q < Int.ofNat 0)) = true → Q (.c (.v (.bool true)), [], 100000000000000000000000000000000000000000000000005, ((decide (q < Int.ofNat 0) == true) :: zq4), zz0)) ∧ ((decide (q < Int.ofNat 0)) = false → ((zz4 = true → Q (.c (.v (.bool false)), [], 100000000000000000000000000000000000000000000000093, (true :: true :: true :: true :: true :: true :: true :: true :: true :: true :: (zz4 == true) :: zq5), zz0)) ∧ (zz4 = false → (((!!eqF zz3 zz1 zz2) = true → Q (.c (.v (.bool true)), [], 100000000300000000000000000000000000000000000000134, (true :: true :: true :: true :: true :: true :: true :: ((!!eqF zz3 zz1 zz2) == true) :: true :: true :: true :: true :: true :: true :: true :: true :: true :: true :: true :: true :: true :: true :: true :: true :: true :: true :: true :: true :: true :: true :: true :: true :: true :: ((!!eqF zz3 zz1 zz2) == true) :: zq6), zz0)) ∧ ((!!eqF zz3 zz1 zz2) = false → Q (.c (.v (.bool true)), [], 100000000540000000000000000000000000000000000000137, (true :: true :: true :: true :: true :: true :: true :: true :: true :: ((!!eqF zz3 zz1 zz2) == false) :: true :: true :: true :: true :: true :: true :: true :: true :: true :: true :: true :: true :: true :: true :: true :: true :: true :: true :: true :: true :: true :: true :: true :: true :: true :: true :: true :: true :: true :: true :: true :: true :: true :: true :: true :: true :: true :: true :: true :: ((!!eqF zz3 zz1 zz2) == false) :: zq6), zz0)))))))))))))))) :
    ∃ p r, lwR (ENl0 Tryz.prog err ctsSu) 6 mSR c (suA y z ⟨false, ta, pa⟩ b) p [some (suS c y z ⟨false, ta, pa⟩ b d q)] = some r ∧ Q r :=
  two H
  (fun g1 => ⟨pD 17 1, _, by kernel_rfl, g1⟩)
  (fun g1 => two g1
    (fun g2 => ⟨pD 17 83, _, by kernel_rfl, g2⟩)
    (fun g2 => two g2
      (fun g3 => ⟨pD 17 6725, _, by kernel_rfl, g3⟩)
      (fun g3 => two g3
        (fun g4 => ⟨pD 17 544727, _, by kernel_rfl, g4⟩)
        (fun g4 => two g4
          (fun g5 => ⟨pD 25 158914145, _, by kernel_rfl, g5⟩)
          (fun g5 => two g5
            (fun g6 => ⟨pD 68 36873248738250838367, _, by kernel_rfl, g6⟩)
            (fun g6 => two g6
              (fun g7 => ⟨pD 80 92751854306246399534391641468558, _, by kernel_rfl, g7⟩)
              (fun g7 => ⟨pD 80 185503708612419452823667861312346, _, by kernel_rfl, g7⟩)))))))
theorem suD2 (err : Cfg → Int) (c : Cfg) (y z : Int) (ta tb : Int) (pa pb : Payload) (d q : Int) (Q : VF → Prop) (H : let zz0 := [LoopV Tryz.prog (loopAt Tryz.prog 6 0) suH suI [some (AV.c (AC.ptr 10 0 0)), some (AV.c (AC.ptr 11 0 0)), some (AV.c (AC.ptr 12 0 0)), some (AV.c (AC.ptr 48 0 0)), some (AV.c (AC.v (Value.int IntKind.i64 (Int.tmod (IntKind.wrap IntKind.i64 y) (Cfg.nodes c))))), some (AV.c (AC.v (Value.int IntKind.i64 (pairN c (Int.toNat (Cfg.nodes c)) (pairF c (2 * Cfg.np c)) (List.headD [Int.tmod (IntKind.wrap IntKind.i64 y) (Cfg.nodes c)] (Int.ofNat 0)))))), some (AV.c (AC.v (Value.int IntKind.i64 (Int.ofNat 0))))] [some (ABlk.mk false false 131 0 (Cs.lit [AC.v (Value.int IntKind.i64 (Int.ofNat 1)), AC.v (Value.int IntKind.i64 (Int.negSucc 0))])), some (ABlk.mk false false 262 0 (Cs.lit [AC.v (Value.int IntKind.u8 (Int.ofNat 1)), AC.v (Value.int IntKind.u8 (Int.ofNat 1)), AC.v (Value.int IntKind.u8 (Int.ofNat 2))])), some (ABlk.mk true false 25 0 (Cs.lit [AC.v (Value.int IntKind.i64 (Cfg.nodes c)), AC.sl 0 0 0 (Cfg.np c) none, AC.sl 1 0 0 (Cfg.ns c) none, AC.v (Value.int IntKind.i64 (Cfg.long c)), AC.sl 2 0 0 (Cfg.nb c) none, AC.sl 3 0 0 (Cfg.nt c) none, AC.v (Value.int IntKind.i64 (Cfg.miss c)), AC.v (Value.int IntKind.i64 (Cfg.good c)), AC.v (Value.int IntKind.i64 (Cfg.fresh c))])), some (ABlk.mk true false 88 0 (Cs.lit [AC.v (Value.int IntKind.u8 y), AC.v (Value.int IntKind.u8 z)])), some (ABlk.mk true false 59 0 (Cs.lit [AC.v (Value.bool true), AC.v (Value.int IntKind.i64 (Said.at_ (Said.mk true ta pa))), AC.v (Value.int IntKind.u8 (Payload.kind pa)), AC.v (Value.int IntKind.u8 (Payload.st pa)), AC.v (Value.int IntKind.u32 (Payload.seq pa)), AC.v (Value.int IntKind.u32 (Payload.val pa)), AC.v (Value.bool false), AC.v (Value.int IntKind.i64 (Said.at_ (Said.mk false tb pb))), AC.v (Value.int IntKind.u8 (Payload.kind pb)), AC.v (Value.int IntKind.u8 (Payload.st pb)), AC.v (Value.int IntKind.u32 (Payload.seq pb)), AC.v (Value.int IntKind.u32 (Payload.val pb))])), some (ABlk.mk true false 77 0 (Cs.lit [AC.v (Value.int IntKind.i64 (Cfg.nodes c)), AC.sl 50 0 0 (Cfg.np c) (some (Cfg.np c)), AC.sl 51 0 0 (Cfg.ns c) (some (Cfg.ns c)), AC.v (Value.int IntKind.i64 (Cfg.long c)), AC.sl 52 0 0 (Cfg.nb c) (some (Cfg.nb c)), AC.sl 53 0 0 (Cfg.nt c) (some (Cfg.nt c)), AC.v (Value.int IntKind.i64 (Cfg.miss c)), AC.v (Value.int IntKind.i64 (Cfg.good c)), AC.v (Value.int IntKind.i64 (Cfg.fresh c)), AC.sl 49 0 0 (Int.toNat (Cfg.nodes c)) none])), some (ABlk.mk true true 3 1 (Cs.arr (Int.toNat (Cfg.nodes c)) fun k => List.map AC.v ((fun i => [Value.int IntKind.i64 (pairF c (2 * Cfg.np c) i)]) k))), some (ABlk.mk true true 3 1 (Cs.arr (Cfg.np c) fun k => List.map AC.v ((fun i => [Value.int IntKind.i64 (Cfg.fp c i)]) k))), some (ABlk.mk true true 3 1 (Cs.arr (Cfg.ns c) fun k => List.map AC.v ((fun i => [Value.int IntKind.i64 (Cfg.fs c i)]) k))), some (ABlk.mk true true 3 1 (Cs.arr (Cfg.nb c) fun k => List.map AC.v ((fun i => [Value.int IntKind.i64 (Cfg.fb c i)]) k))), some (ABlk.mk true true 161 3 (Cs.arr (Cfg.nt c) fun k => List.map AC.v ((fun i => [Value.int IntKind.i64 (Station.node (Cfg.ft c i)), Value.int IntKind.u32 (Station.safe (Cfg.ft c i)), Value.int IntKind.i64 (Station.hold (Cfg.ft c i))]) k)))] 119 75 (mkFr 119 (suO d q)) (List.zip suI (suB c y z (Said.mk true ta pa) (Said.mk false tb pb))) 100000000000000000000000000000000000000000000000000 (Exit.exit 0) none]; let zz1 := [AC.v (Value.int IntKind.u8 (wR (wiP c (Int.ofNat 0) q d))), AC.v (Value.int IntKind.i64 (wP (wiP c (Int.ofNat 0) q d))), AC.v (Value.int IntKind.i64 (wB (wiP c (Int.ofNat 0) q d))), AC.v (Value.int IntKind.i64 (wN (wiP c (Int.ofNat 0) q d))), AC.v (Value.int IntKind.u8 (wR (wiP c (Int.ofNat 1) q d))), AC.v (Value.int IntKind.i64 (wP (wiP c (Int.ofNat 1) q d))), AC.v (Value.int IntKind.i64 (wB (wiP c (Int.ofNat 1) q d))), AC.v (Value.int IntKind.i64 (wN (wiP c (Int.ofNat 1) q d)))]; let zz2 := [AC.v (Value.int IntKind.u8 (Int.ofNat 0)), AC.v (Value.int IntKind.i64 (Int.ofNat 0)), AC.v (Value.int IntKind.i64 (Int.ofNat 0)), AC.v (Value.int IntKind.i64 (Int.ofNat 0)), AC.v (Value.int IntKind.u8 (Int.ofNat 0)), AC.v (Value.int IntKind.i64 (Int.ofNat 0)), AC.v (Value.int IntKind.i64 (Int.ofNat 0)), AC.v (Value.int IntKind.i64 (Int.ofNat 0))]; let zz3 := [some IntKind.u8, some IntKind.i64, some IntKind.i64, some IntKind.i64, some IntKind.u8, some IntKind.i64, some IntKind.i64, some IntKind.i64]; let zz4 := (pairN c (Int.toNat (Cfg.nodes c)) (pairF c (2 * Cfg.np c)) (List.headD [d] (Int.ofNat 0)) != q); let zz5 := (NetS.mk c (Int.toNat (Cfg.nodes c)) (pairF c (2 * Cfg.np c)) [AV.c (AC.v (Value.int IntKind.u8 (Int.ofNat 1))), AV.c (AC.v (Value.int IntKind.i64 q)), AV.c (AC.v (Value.int IntKind.i64 d))]); let zz6 := (NetS.mk c (Int.toNat (Cfg.nodes c)) (pairF c (2 * Cfg.np c)) [AV.c (AC.v (Value.int IntKind.u8 (Int.ofNat 0))), AV.c (AC.v (Value.int IntKind.i64 q)), AV.c (AC.v (Value.int IntKind.i64 d))]); let zq0 : List Bool := true :: true :: true :: true :: true :: true :: true :: true :: true :: true :: true :: true :: true :: []; let zq1 : List Bool := true :: (decide (↑(c.np) > Int.ofNat 60) == false) :: zq0; let zq2 : List Bool := true :: (decide (↑(c.ns) > Int.ofNat 60) == false) :: zq1; let zq3 : List Bool := true :: (decide (↑(c.nb) > Int.ofNat 60) == false) :: zq2; let zq4 : List Bool := (netK c (Int.toNat (c.nodes)) (pairF c (2 * c.np))) :: true :: (decide (c.nodes ≠ Int.ofNat 0)) :: true :: true :: true :: true :: true :: (cfgK c) :: (decide (c.nb ≤ 9223372036854775807)) :: (decide (err c = Int.ofNat 0)) :: true :: true :: true :: true :: true :: true :: ((err c != Int.ofNat 0) == false) :: (cfgK c) :: true :: true :: true :: true :: true :: true :: true :: (decide (↑(c.nt) > Int.ofNat 60) == false) :: zq3; let zq5 : List Bool := (netK c (Int.toNat (c.nodes)) (pairF c (2 * c.np))) :: true :: (decide (q < Int.ofNat 0) == false) :: ((roundN c (Int.toNat (c.nodes)) == Int.ofNat 0) == false) :: (netK c (Int.toNat (c.nodes)) (pairF c (2 * c.np))) :: true :: true :: true :: true :: true :: true :: true :: true :: true :: true :: true :: true :: true :: true :: true :: true :: true :: true :: true :: true :: true :: true :: true :: (decide (q < Int.ofNat 0) == false) :: zq4; let zq6 : List Bool := true :: true :: true :: true :: true :: true :: true :: true :: true :: true :: true :: true :: true :: true :: true :: true :: true :: true :: true :: true :: true :: true :: true :: true :: true :: true :: true :: true :: true :: true :: true :: true :: true :: true :: (netK c (Int.toNat (c.nodes)) (pairF c (2 * c.np))) :: (wnQ zz5) :: true :: true :: (netK c (Int.toNat (c.nodes)) (pairF c (2 * c.np))) :: (wnQ zz6) :: (zz4 == false) :: zq5; (((decide (↑(c.np) > Int.ofNat 60)) = true → Q (.c (.v (.bool true)), [], 38, ((decide (↑(c.np) > Int.ofNat 60) == true) :: zq0), [])) ∧ ((decide (↑(c.np) > Int.ofNat 60)) = false → (((decide (↑(c.ns) > Int.ofNat 60)) = true → Q (.c (.v (.bool true)), [], 42, ((decide (↑(c.ns) > Int.ofNat 60) == true) :: zq1), [])) ∧ ((decide (↑(c.ns) > Int.ofNat 60)) = false → (((decide (↑(c.nb) > Int.ofNat 60)) = true → Q (.c (.v (.bool true)), [], 46, ((decide (↑(c.nb) > Int.ofNat 60) == true) :: zq2), [])) ∧ ((decide (↑(c.nb) > Int.ofNat 60)) = false → (((decide (↑(c.nt) > Int.ofNat 60)) = true → Q (.c (.v (.bool true)), [], 50, ((decide (↑(c.nt) > Int.ofNat 60) == true) :: zq3), [])) ∧ ((decide (↑(c.nt) > Int.ofNat 60)) = false → (((decide (q < Int.ofNat 0)) = true → Q (.c (.v (.bool true)), [], 100000000000000000000000000000000000000000000000005, ((decide (q < Int.ofNat 0) == true) :: zq4), zz0)) ∧ ((decide (q < Int.ofNat 0)) = false → ((zz4 = true → Q (.c (.v (.bool false)), [], 100000000000000000000000000000000000000000000000096, (true :: true :: true :: true :: true :: true :: true :: true :: true :: true :: (zz4 == true) :: zq5), zz0)) ∧ (zz4 = false → (((!!eqF zz3 zz1 zz2) = true → Q (.c (.v (.bool true)), [], 100000000300000000000000000000000000000000000000140, (true :: true :: true :: true :: true :: true :: true :: ((!!eqF zz3 zz1 zz2) == true) :: true :: true :: true :: true :: true :: true :: true :: true :: true :: true :: true :: true :: true :: true :: true :: true :: true :: true :: true :: true :: true :: true :: true :: true :: true :: ((!!eqF zz3 zz1 zz2) == true) :: zq6), zz0)) ∧ ((!!eqF zz3 zz1 zz2) = false → Q (.c (.v (.bool true)), [], 100000000540000000000000000000000000000000000000143, (true :: true :: true :: true :: true :: true :: true :: true :: true :: ((!!eqF zz3 zz1 zz2) == false) :: true :: true :: true :: true :: true :: true :: true :: true :: true :: true :: true :: true :: true :: true :: true :: true :: true :: true :: true :: true :: true :: true :: true :: true :: true :: true :: true :: true :: true :: true :: true :: true :: true :: true :: true :: true :: true :: true :: true :: ((!!eqF zz3 zz1 zz2) == false) :: zq6), zz0)))))))))))))))) :
    ∃ p r, lwR (ENl0 Tryz.prog err ctsSu) 6 mSR c (suA y z ⟨true, ta, pa⟩ ⟨false, tb, pb⟩) p [some (suS c y z ⟨true, ta, pa⟩ ⟨false, tb, pb⟩ d q)] = some r ∧ Q r :=
  two H
  (fun g1 => ⟨pD 17 1, _, by kernel_rfl, g1⟩)
  (fun g1 => two g1
    (fun g2 => ⟨pD 17 83, _, by kernel_rfl, g2⟩)
    (fun g2 => two g2
      (fun g3 => ⟨pD 17 6725, _, by kernel_rfl, g3⟩)
      (fun g3 => two g3
        (fun g4 => ⟨pD 17 544727, _, by kernel_rfl, g4⟩)
        (fun g4 => two g4
          (fun g5 => ⟨pD 25 158914145, _, by kernel_rfl, g5⟩)
          (fun g5 => two g5
            (fun g6 => ⟨pD 68 36873248738250838367, _, by kernel_rfl, g6⟩)
            (fun g6 => two g6
              (fun g7 => ⟨pD 80 92751854306246399534391641468558, _, by kernel_rfl, g7⟩)
              (fun g7 => ⟨pD 80 185503708612419452823667861312346, _, by kernel_rfl, g7⟩)))))))
end Go.Proofs.YtpgaplcdbbnblaaGreatDoor
end
/- SendersUnlike as the evaluator runs it: both halves offer. -/
section
namespace Go.Proofs.YtpgaplcdbbnblaaGreatDoor
open Go.RowKit
theorem suD3 (err : Cfg → Int) (c : Cfg) (y z : Int) (ta tb : Int) (pa pb : Payload) (d q : Int) (Q : VF → Prop) (H : let zz0 := [LoopV Tryz.prog (loopAt Tryz.prog 6 0) suH suI [some (AV.c (AC.ptr 10 0 0)), some (AV.c (AC.ptr 11 0 0)), some (AV.c (AC.ptr 12 0 0)), some (AV.c (AC.ptr 48 0 0)), some (AV.c (AC.v (Value.int IntKind.i64 (Int.tmod (IntKind.wrap IntKind.i64 y) (Cfg.nodes c))))), some (AV.c (AC.v (Value.int IntKind.i64 (pairN c (Int.toNat (Cfg.nodes c)) (pairF c (2 * Cfg.np c)) (List.headD [Int.tmod (IntKind.wrap IntKind.i64 y) (Cfg.nodes c)] (Int.ofNat 0)))))), some (AV.c (AC.v (Value.int IntKind.i64 (Int.ofNat 0))))] [some (ABlk.mk false false 131 0 (Cs.lit [AC.v (Value.int IntKind.i64 (Int.ofNat 1)), AC.v (Value.int IntKind.i64 (Int.negSucc 0))])), some (ABlk.mk false false 262 0 (Cs.lit [AC.v (Value.int IntKind.u8 (Int.ofNat 1)), AC.v (Value.int IntKind.u8 (Int.ofNat 1)), AC.v (Value.int IntKind.u8 (Int.ofNat 2))])), some (ABlk.mk true false 25 0 (Cs.lit [AC.v (Value.int IntKind.i64 (Cfg.nodes c)), AC.sl 0 0 0 (Cfg.np c) none, AC.sl 1 0 0 (Cfg.ns c) none, AC.v (Value.int IntKind.i64 (Cfg.long c)), AC.sl 2 0 0 (Cfg.nb c) none, AC.sl 3 0 0 (Cfg.nt c) none, AC.v (Value.int IntKind.i64 (Cfg.miss c)), AC.v (Value.int IntKind.i64 (Cfg.good c)), AC.v (Value.int IntKind.i64 (Cfg.fresh c))])), some (ABlk.mk true false 88 0 (Cs.lit [AC.v (Value.int IntKind.u8 y), AC.v (Value.int IntKind.u8 z)])), some (ABlk.mk true false 59 0 (Cs.lit [AC.v (Value.bool true), AC.v (Value.int IntKind.i64 (Said.at_ (Said.mk true ta pa))), AC.v (Value.int IntKind.u8 (Payload.kind pa)), AC.v (Value.int IntKind.u8 (Payload.st pa)), AC.v (Value.int IntKind.u32 (Payload.seq pa)), AC.v (Value.int IntKind.u32 (Payload.val pa)), AC.v (Value.bool true), AC.v (Value.int IntKind.i64 (Said.at_ (Said.mk true tb pb))), AC.v (Value.int IntKind.u8 (Payload.kind pb)), AC.v (Value.int IntKind.u8 (Payload.st pb)), AC.v (Value.int IntKind.u32 (Payload.seq pb)), AC.v (Value.int IntKind.u32 (Payload.val pb))])), some (ABlk.mk true false 77 0 (Cs.lit [AC.v (Value.int IntKind.i64 (Cfg.nodes c)), AC.sl 50 0 0 (Cfg.np c) (some (Cfg.np c)), AC.sl 51 0 0 (Cfg.ns c) (some (Cfg.ns c)), AC.v (Value.int IntKind.i64 (Cfg.long c)), AC.sl 52 0 0 (Cfg.nb c) (some (Cfg.nb c)), AC.sl 53 0 0 (Cfg.nt c) (some (Cfg.nt c)), AC.v (Value.int IntKind.i64 (Cfg.miss c)), AC.v (Value.int IntKind.i64 (Cfg.good c)), AC.v (Value.int IntKind.i64 (Cfg.fresh c)), AC.sl 49 0 0 (Int.toNat (Cfg.nodes c)) none])), some (ABlk.mk true true 3 1 (Cs.arr (Int.toNat (Cfg.nodes c)) fun k => List.map AC.v ((fun i => [Value.int IntKind.i64 (pairF c (2 * Cfg.np c) i)]) k))), some (ABlk.mk true true 3 1 (Cs.arr (Cfg.np c) fun k => List.map AC.v ((fun i => [Value.int IntKind.i64 (Cfg.fp c i)]) k))), some (ABlk.mk true true 3 1 (Cs.arr (Cfg.ns c) fun k => List.map AC.v ((fun i => [Value.int IntKind.i64 (Cfg.fs c i)]) k))), some (ABlk.mk true true 3 1 (Cs.arr (Cfg.nb c) fun k => List.map AC.v ((fun i => [Value.int IntKind.i64 (Cfg.fb c i)]) k))), some (ABlk.mk true true 161 3 (Cs.arr (Cfg.nt c) fun k => List.map AC.v ((fun i => [Value.int IntKind.i64 (Station.node (Cfg.ft c i)), Value.int IntKind.u32 (Station.safe (Cfg.ft c i)), Value.int IntKind.i64 (Station.hold (Cfg.ft c i))]) k)))] 119 75 (mkFr 119 (suO d q)) (List.zip suI (suB c y z (Said.mk true ta pa) (Said.mk true tb pb))) 100000000000000000000000000000000000000000000000000 (Exit.exit 0) none]; let zq0 : List Bool := true :: true :: true :: true :: true :: true :: true :: true :: true :: true :: true :: true :: true :: []; let zq1 : List Bool := true :: (decide (↑(c.np) > Int.ofNat 60) == false) :: zq0; let zq2 : List Bool := true :: (decide (↑(c.ns) > Int.ofNat 60) == false) :: zq1; let zq3 : List Bool := true :: (decide (↑(c.nb) > Int.ofNat 60) == false) :: zq2; let zq4 : List Bool := (netK c (Int.toNat (c.nodes)) (pairF c (2 * c.np))) :: true :: (decide (c.nodes ≠ Int.ofNat 0)) :: true :: true :: true :: true :: true :: (cfgK c) :: (decide (c.nb ≤ 9223372036854775807)) :: (decide (err c = Int.ofNat 0)) :: true :: true :: true :: true :: true :: true :: ((err c != Int.ofNat 0) == false) :: (cfgK c) :: true :: true :: true :: true :: true :: true :: true :: (decide (↑(c.nt) > Int.ofNat 60) == false) :: zq3; (((decide (↑(c.np) > Int.ofNat 60)) = true → Q (.c (.v (.bool true)), [], 38, ((decide (↑(c.np) > Int.ofNat 60) == true) :: zq0), [])) ∧ ((decide (↑(c.np) > Int.ofNat 60)) = false → (((decide (↑(c.ns) > Int.ofNat 60)) = true → Q (.c (.v (.bool true)), [], 42, ((decide (↑(c.ns) > Int.ofNat 60) == true) :: zq1), [])) ∧ ((decide (↑(c.ns) > Int.ofNat 60)) = false → (((decide (↑(c.nb) > Int.ofNat 60)) = true → Q (.c (.v (.bool true)), [], 46, ((decide (↑(c.nb) > Int.ofNat 60) == true) :: zq2), [])) ∧ ((decide (↑(c.nb) > Int.ofNat 60)) = false → (((decide (↑(c.nt) > Int.ofNat 60)) = true → Q (.c (.v (.bool true)), [], 50, ((decide (↑(c.nt) > Int.ofNat 60) == true) :: zq3), [])) ∧ ((decide (↑(c.nt) > Int.ofNat 60)) = false → (((decide (q < Int.ofNat 0)) = true → Q (.c (.v (.bool true)), [], 100000000000000000000000000000000000000000000000005, ((decide (q < Int.ofNat 0) == true) :: zq4), zz0)) ∧ ((decide (q < Int.ofNat 0)) = false → Q (.c (.v (.bool true)), [], 100000000000000000000000000000000000000000000000022, ((eqF [some .u8, some .u8, some .u32, some .u32] [.v (.int .u8 (Payload.kind pa)), .v (.int .u8 (Payload.st pa)), .v (.int .u32 (Payload.seq pa)), .v (.int .u32 (Payload.val pa))] [.v (.int .u8 (Payload.kind pb)), .v (.int .u8 (Payload.st pb)), .v (.int .u32 (Payload.seq pb)), .v (.int .u32 (Payload.val pb))] == true) :: true :: true :: true :: true :: true :: true :: true :: true :: true :: true :: true :: true :: true :: true :: true :: true :: true :: true :: true :: true :: true :: true :: true :: true :: true :: true :: (decide (q < Int.ofNat 0) == false) :: zq4), zz0)))))))))))) :
    ∃ p r, lwR (ENl0 Tryz.prog err ctsSu) 6 mSR c (suA y z ⟨true, ta, pa⟩ ⟨true, tb, pb⟩) p [some (suS c y z ⟨true, ta, pa⟩ ⟨true, tb, pb⟩ d q)] = some r ∧ Q r :=
  two H
  (fun g1 => ⟨pD 17 1, _, by kernel_rfl, g1⟩)
  (fun g1 => two g1
    (fun g2 => ⟨pD 17 83, _, by kernel_rfl, g2⟩)
    (fun g2 => two g2
      (fun g3 => ⟨pD 17 6725, _, by kernel_rfl, g3⟩)
      (fun g3 => two g3
        (fun g4 => ⟨pD 17 544727, _, by kernel_rfl, g4⟩)
        (fun g4 => two g4
          (fun g5 => ⟨pD 25 158914145, _, by kernel_rfl, g5⟩)
          (fun g5 => ⟨pD 35 16677181987720877, _, by kernel_rfl, g5⟩)))))
theorem suD4 (err : Cfg → Int) (c : Cfg) (y z : Int) (ta tb : Int) (pa pb : Payload) (d q : Int) (Q : VF → Prop) (H : let zz0 := [LoopV Tryz.prog (loopAt Tryz.prog 6 0) suH suI [some (AV.c (AC.ptr 10 0 0)), some (AV.c (AC.ptr 11 0 0)), some (AV.c (AC.ptr 12 0 0)), some (AV.c (AC.ptr 48 0 0)), some (AV.c (AC.v (Value.int IntKind.i64 (Int.tmod (IntKind.wrap IntKind.i64 y) (Cfg.nodes c))))), some (AV.c (AC.v (Value.int IntKind.i64 (pairN c (Int.toNat (Cfg.nodes c)) (pairF c (2 * Cfg.np c)) (List.headD [Int.tmod (IntKind.wrap IntKind.i64 y) (Cfg.nodes c)] (Int.ofNat 0)))))), some (AV.c (AC.v (Value.int IntKind.i64 (Int.ofNat 0))))] [some (ABlk.mk false false 131 0 (Cs.lit [AC.v (Value.int IntKind.i64 (Int.ofNat 1)), AC.v (Value.int IntKind.i64 (Int.negSucc 0))])), some (ABlk.mk false false 262 0 (Cs.lit [AC.v (Value.int IntKind.u8 (Int.ofNat 1)), AC.v (Value.int IntKind.u8 (Int.ofNat 1)), AC.v (Value.int IntKind.u8 (Int.ofNat 2))])), some (ABlk.mk true false 25 0 (Cs.lit [AC.v (Value.int IntKind.i64 (Cfg.nodes c)), AC.sl 0 0 0 (Cfg.np c) none, AC.sl 1 0 0 (Cfg.ns c) none, AC.v (Value.int IntKind.i64 (Cfg.long c)), AC.sl 2 0 0 (Cfg.nb c) none, AC.sl 3 0 0 (Cfg.nt c) none, AC.v (Value.int IntKind.i64 (Cfg.miss c)), AC.v (Value.int IntKind.i64 (Cfg.good c)), AC.v (Value.int IntKind.i64 (Cfg.fresh c))])), some (ABlk.mk true false 88 0 (Cs.lit [AC.v (Value.int IntKind.u8 y), AC.v (Value.int IntKind.u8 z)])), some (ABlk.mk true false 59 0 (Cs.lit [AC.v (Value.bool true), AC.v (Value.int IntKind.i64 (Said.at_ (Said.mk true ta pa))), AC.v (Value.int IntKind.u8 (Payload.kind pa)), AC.v (Value.int IntKind.u8 (Payload.st pa)), AC.v (Value.int IntKind.u32 (Payload.seq pa)), AC.v (Value.int IntKind.u32 (Payload.val pa)), AC.v (Value.bool true), AC.v (Value.int IntKind.i64 (Said.at_ (Said.mk true tb pb))), AC.v (Value.int IntKind.u8 (Payload.kind pb)), AC.v (Value.int IntKind.u8 (Payload.st pb)), AC.v (Value.int IntKind.u32 (Payload.seq pb)), AC.v (Value.int IntKind.u32 (Payload.val pb))])), some (ABlk.mk true false 77 0 (Cs.lit [AC.v (Value.int IntKind.i64 (Cfg.nodes c)), AC.sl 50 0 0 (Cfg.np c) (some (Cfg.np c)), AC.sl 51 0 0 (Cfg.ns c) (some (Cfg.ns c)), AC.v (Value.int IntKind.i64 (Cfg.long c)), AC.sl 52 0 0 (Cfg.nb c) (some (Cfg.nb c)), AC.sl 53 0 0 (Cfg.nt c) (some (Cfg.nt c)), AC.v (Value.int IntKind.i64 (Cfg.miss c)), AC.v (Value.int IntKind.i64 (Cfg.good c)), AC.v (Value.int IntKind.i64 (Cfg.fresh c)), AC.sl 49 0 0 (Int.toNat (Cfg.nodes c)) none])), some (ABlk.mk true true 3 1 (Cs.arr (Int.toNat (Cfg.nodes c)) fun k => List.map AC.v ((fun i => [Value.int IntKind.i64 (pairF c (2 * Cfg.np c) i)]) k))), some (ABlk.mk true true 3 1 (Cs.arr (Cfg.np c) fun k => List.map AC.v ((fun i => [Value.int IntKind.i64 (Cfg.fp c i)]) k))), some (ABlk.mk true true 3 1 (Cs.arr (Cfg.ns c) fun k => List.map AC.v ((fun i => [Value.int IntKind.i64 (Cfg.fs c i)]) k))), some (ABlk.mk true true 3 1 (Cs.arr (Cfg.nb c) fun k => List.map AC.v ((fun i => [Value.int IntKind.i64 (Cfg.fb c i)]) k))), some (ABlk.mk true true 161 3 (Cs.arr (Cfg.nt c) fun k => List.map AC.v ((fun i => [Value.int IntKind.i64 (Station.node (Cfg.ft c i)), Value.int IntKind.u32 (Station.safe (Cfg.ft c i)), Value.int IntKind.i64 (Station.hold (Cfg.ft c i))]) k)))] 119 75 (mkFr 119 (suO d q)) (List.zip suI (suB c y z (Said.mk true ta pa) (Said.mk true tb pb))) 100000000000000000000000000000000000000000000000000 (Exit.exit 0) none]; let zz1 := [AC.v (Value.int IntKind.u8 (wR (wiP c (Int.ofNat 0) q d))), AC.v (Value.int IntKind.i64 (wP (wiP c (Int.ofNat 0) q d))), AC.v (Value.int IntKind.i64 (wB (wiP c (Int.ofNat 0) q d))), AC.v (Value.int IntKind.i64 (wN (wiP c (Int.ofNat 0) q d))), AC.v (Value.int IntKind.u8 (wR (wiP c (Int.ofNat 1) q d))), AC.v (Value.int IntKind.i64 (wP (wiP c (Int.ofNat 1) q d))), AC.v (Value.int IntKind.i64 (wB (wiP c (Int.ofNat 1) q d))), AC.v (Value.int IntKind.i64 (wN (wiP c (Int.ofNat 1) q d)))]; let zz2 := [AC.v (Value.int IntKind.u8 (Int.ofNat 0)), AC.v (Value.int IntKind.i64 (Int.ofNat 0)), AC.v (Value.int IntKind.i64 (Int.ofNat 0)), AC.v (Value.int IntKind.i64 (Int.ofNat 0)), AC.v (Value.int IntKind.u8 (Int.ofNat 0)), AC.v (Value.int IntKind.i64 (Int.ofNat 0)), AC.v (Value.int IntKind.i64 (Int.ofNat 0)), AC.v (Value.int IntKind.i64 (Int.ofNat 0))]; let zz3 := [AC.v (Value.int IntKind.u8 (Payload.kind pa)), AC.v (Value.int IntKind.u8 (Payload.st pa)), AC.v (Value.int IntKind.u32 (Payload.seq pa)), AC.v (Value.int IntKind.u32 (Payload.val pa))]; let zz4 := [AC.v (Value.int IntKind.u8 (Payload.kind pb)), AC.v (Value.int IntKind.u8 (Payload.st pb)), AC.v (Value.int IntKind.u32 (Payload.seq pb)), AC.v (Value.int IntKind.u32 (Payload.val pb))]; let zz5 := [some IntKind.u8, some IntKind.i64, some IntKind.i64, some IntKind.i64, some IntKind.u8, some IntKind.i64, some IntKind.i64, some IntKind.i64]; let zz6 := (pairN c (Int.toNat (Cfg.nodes c)) (pairF c (2 * Cfg.np c)) (List.headD [d] (Int.ofNat 0)) != q); let zz7 := [some IntKind.u8, some IntKind.u8, some IntKind.u32, some IntKind.u32]; let zz8 := (NetS.mk c (Int.toNat (Cfg.nodes c)) (pairF c (2 * Cfg.np c)) [AV.c (AC.v (Value.int IntKind.u8 (Int.ofNat 1))), AV.c (AC.v (Value.int IntKind.i64 q)), AV.c (AC.v (Value.int IntKind.i64 d))]); let zz9 := (NetS.mk c (Int.toNat (Cfg.nodes c)) (pairF c (2 * Cfg.np c)) [AV.c (AC.v (Value.int IntKind.u8 (Int.ofNat 0))), AV.c (AC.v (Value.int IntKind.i64 q)), AV.c (AC.v (Value.int IntKind.i64 d))]); let zq0 : List Bool := true :: true :: true :: true :: true :: true :: true :: true :: true :: true :: true :: true :: true :: []; let zq1 : List Bool := true :: (decide (↑(c.np) > Int.ofNat 60) == false) :: zq0; let zq2 : List Bool := true :: (decide (↑(c.ns) > Int.ofNat 60) == false) :: zq1; let zq3 : List Bool := true :: (decide (↑(c.nb) > Int.ofNat 60) == false) :: zq2; let zq4 : List Bool := (netK c (Int.toNat (c.nodes)) (pairF c (2 * c.np))) :: true :: (decide (c.nodes ≠ Int.ofNat 0)) :: true :: true :: true :: true :: true :: (cfgK c) :: (decide (c.nb ≤ 9223372036854775807)) :: (decide (err c = Int.ofNat 0)) :: true :: true :: true :: true :: true :: true :: ((err c != Int.ofNat 0) == false) :: (cfgK c) :: true :: true :: true :: true :: true :: true :: true :: (decide (↑(c.nt) > Int.ofNat 60) == false) :: zq3; let zq5 : List Bool := (netK c (Int.toNat (c.nodes)) (pairF c (2 * c.np))) :: true :: (decide (q < Int.ofNat 0) == false) :: ((roundN c (Int.toNat (c.nodes)) == Int.ofNat 0) == false) :: (netK c (Int.toNat (c.nodes)) (pairF c (2 * c.np))) :: true :: true :: true :: true :: true :: true :: true :: true :: true :: true :: true :: true :: true :: true :: true :: true :: true :: (eqF zz7 zz3 zz4 == false) :: true :: true :: true :: true :: true :: true :: true :: true :: true :: true :: true :: true :: true :: true :: true :: true :: true :: true :: true :: true :: true :: true :: true :: true :: true :: true :: (decide (q < Int.ofNat 0) == false) :: zq4; let zq6 : List Bool := true :: true :: true :: true :: true :: true :: true :: true :: true :: true :: true :: true :: true :: true :: true :: true :: true :: true :: true :: true :: true :: true :: true :: true :: true :: true :: true :: true :: ((!eqF zz7 zz3 zz4) == true) :: true :: true :: true :: true :: true :: true :: true :: true :: true :: true :: true :: true :: true :: true :: true :: true :: true :: true :: true :: true :: true :: true :: true :: true :: (netK c (Int.toNat (c.nodes)) (pairF c (2 * c.np))) :: (wnQ zz8) :: true :: true :: (netK c (Int.toNat (c.nodes)) (pairF c (2 * c.np))) :: (wnQ zz9) :: (zz6 == false) :: zq5; (((decide (↑(c.np) > Int.ofNat 60)) = true → Q (.c (.v (.bool true)), [], 38, ((decide (↑(c.np) > Int.ofNat 60) == true) :: zq0), [])) ∧ ((decide (↑(c.np) > Int.ofNat 60)) = false → (((decide (↑(c.ns) > Int.ofNat 60)) = true → Q (.c (.v (.bool true)), [], 42, ((decide (↑(c.ns) > Int.ofNat 60) == true) :: zq1), [])) ∧ ((decide (↑(c.ns) > Int.ofNat 60)) = false → (((decide (↑(c.nb) > Int.ofNat 60)) = true → Q (.c (.v (.bool true)), [], 46, ((decide (↑(c.nb) > Int.ofNat 60) == true) :: zq2), [])) ∧ ((decide (↑(c.nb) > Int.ofNat 60)) = false → (((decide (↑(c.nt) > Int.ofNat 60)) = true → Q (.c (.v (.bool true)), [], 50, ((decide (↑(c.nt) > Int.ofNat 60) == true) :: zq3), [])) ∧ ((decide (↑(c.nt) > Int.ofNat 60)) = false → (((decide (q < Int.ofNat 0)) = true → Q (.c (.v (.bool true)), [], 100000000000000000000000000000000000000000000000005, ((decide (q < Int.ofNat 0) == true) :: zq4), zz0)) ∧ ((decide (q < Int.ofNat 0)) = false → ((zz6 = true → Q (.c (.v (.bool false)), [], 100000000000000000000000000000000000000000000000103, (true :: true :: true :: true :: true :: true :: true :: true :: true :: true :: (zz6 == true) :: zq5), zz0)) ∧ (zz6 = false → (((!!eqF zz5 zz1 zz2) = true → Q (.c (.v (.bool true)), [], 100000000300000000000000000000000000000000000000152, (true :: true :: true :: true :: true :: true :: true :: ((!!eqF zz5 zz1 zz2) == true) :: true :: true :: true :: true :: true :: true :: true :: true :: true :: true :: true :: true :: true :: true :: true :: true :: true :: true :: true :: true :: true :: true :: true :: true :: true :: ((!!eqF zz5 zz1 zz2) == true) :: zq6), zz0)) ∧ ((!!eqF zz5 zz1 zz2) = false → Q (.c (.v (.bool true)), [], 100000000540000000000000000000000000000000000000155, (true :: true :: true :: true :: true :: true :: true :: true :: true :: ((!!eqF zz5 zz1 zz2) == false) :: true :: true :: true :: true :: true :: true :: true :: true :: true :: true :: true :: true :: true :: true :: true :: true :: true :: true :: true :: true :: true :: true :: true :: true :: true :: true :: true :: true :: true :: true :: true :: true :: true :: true :: true :: true :: true :: true :: true :: ((!!eqF zz5 zz1 zz2) == false) :: zq6), zz0)))))))))))))))) :
    ∃ p r, lwR (ENl0 Tryz.prog err ctsSu) 6 mSR c (suA y z ⟨true, ta, pa⟩ ⟨true, tb, pb⟩) p [some (suS c y z ⟨true, ta, pa⟩ ⟨true, tb, pb⟩ d q)] = some r ∧ Q r :=
  two H
  (fun g1 => ⟨pD 17 1, _, by kernel_rfl, g1⟩)
  (fun g1 => two g1
    (fun g2 => ⟨pD 17 83, _, by kernel_rfl, g2⟩)
    (fun g2 => two g2
      (fun g3 => ⟨pD 17 6725, _, by kernel_rfl, g3⟩)
      (fun g3 => two g3
        (fun g4 => ⟨pD 17 544727, _, by kernel_rfl, g4⟩)
        (fun g4 => two g4
          (fun g5 => ⟨pD 25 158914145, _, by kernel_rfl, g5⟩)
          (fun g5 => two g5
            (fun g6 => ⟨pD 68 36906603101650171505, _, by kernel_rfl, g6⟩)
            (fun g6 => two g6
              (fun g7 => ⟨pD 80 92751873689492100568774937598419, _, by kernel_rfl, g7⟩)
              (fun g7 => ⟨pD 80 185503727995665153858051157442207, _, by kernel_rfl, g7⟩)))))))
end Go.Proofs.YtpgaplcdbbnblaaGreatDoor
end
/- SendersUnlike: its loop's sum, what its runs answer. -/
section
namespace Go.Proofs.YtpgaplcdbbnblaaGreatDoor
open Go.RowKit

theorem su_pre {c : Cfg} (g : CfgGood c) {nq : Nat} (hq : 0 < nq) : wiPre c nq = true := by
  have h1 : ckPre c nq = true := by
    have := g.s1
    have := g.s16
    have := g.n4
    have := g.n16
    have := g.l1
    have := g.l4
    simp [ckPre]
    omega
  have h2 : headsOk c = true := by
    unfold headsOk
    rw [decide_eq_true g.n4, decide_eq_true g.n16, Bool.true_and, Bool.true_and, List.all_eq_true]
    intro i hi
    have := g.fp i (by simpa using hi)
    simpa using this
  unfold wiPre
  rw [h1, h2]; rfl
theorem su_rn {c : Cfg} (g : CfgGood c) {nq : Nat} (hq : 0 < nq) : (roundN c nq == Int.ofNat 0) = false := by
  have h1 : ckPre c nq = true := by
    have := g.s1
    have := g.s16
    have := g.n4
    have := g.n16
    have := g.l1
    have := g.l4
    simp [ckPre]
    omega
  obtain ⟨e, r1, _⟩ := ck_round h1
  rw [e]
  simp
  omega
theorem netYs_low {c : Cfg} {n : Nat} (hn : 54 ≤ n) : ∀ b ∈ netYs c, lowB n b := by
  intro b hb
  have hc : ∀ i, i < 54 → Nat.blt i n = true := fun i h => by rw [Nat.blt_eq]; omega
  simp only [List.mem_cons, List.not_mem_nil, or_false] at hb
  rcases hb with rfl | rfl | rfl | rfl | rfl | rfl
  · refine low_lit ?_
    simp [lowC, hc, Nat.blt_eq]
    try omega
  all_goals exact wBlk_low
theorem suB_low {N : Nat} (hN : 54 ≤ N) {c : Cfg} {y z : Int} {a b : Said} : ∀ x ∈ suB c y z a b, lowB N x := by
  intro x hx
  have hx' : x ∈ [signB, rolesB, cfgB c, ⟨true, false, 88, 0, .lit [.v (.int .u8 y), .v (.int .u8 z)]⟩, ⟨true, false, 59, 0, .lit ((a.cells ++ b.cells).map .v)⟩, netY 48 c, intsW c.nodes.toNat (pairF c (2 * c.np)), intsW c.np c.fp, intsW c.ns c.fs, intsW c.nb c.fb, stsW c.nt c.ft] := hx
  simp only [List.mem_cons, List.not_mem_nil, or_false] at hx'
  rcases hx' with rfl | rfl | rfl | rfl | rfl | h | h | h | h | h | h
  · exact low_lit rfl
  · exact low_lit rfl
  · exact cfgB_low (by omega)
  · exact low_lit rfl
  · exact low_lit (List.all_eq_true.2 fun u hu => by
      obtain ⟨v, _, rfl⟩ := List.mem_map.1 hu
      rfl)
  · exact netYs_low (c := c) hN x (by simp [h])
  · exact netYs_low (c := c) hN x (by simp [h])
  · exact netYs_low (c := c) hN x (by simp [h])
  · exact netYs_low (c := c) hN x (by simp [h])
  · exact netYs_low (c := c) hN x (by simp [h])
  · exact netYs_low (c := c) hN x (by simp [h])
set_option maxRecDepth 100000 in
theorem su_sum (c : Cfg) (y z : Int) (a b : Said) (d q : Int) (g : CfgGood c) (hd : pairN c c.nodes.toNat (pairF c (2 * c.np)) d = q) :
    LoopV Tryz.prog (loopAt Tryz.prog 6 0) suH suI ((suV d q 0).map some) ((suB c y z a b).map some) 119 75 (mkFr 119 (suO d q)) (suI.zip (suB c y z a b)) 100000000000000000000000000000000000000000000000000 (.exit 0) none := by
  have n4 := g.n4
  have n16 := g.n16
  have p8 := g.p8
  have hq : 0 < c.nodes.toNat := by omega
  have hp := su_pre g hq
  have hr := su_rn g hq
  refine loop_view (hENl0 ctsSu_ok) (fuel := 100) (str := 10000000000000000000000000000000000000000) (nh := 1000000000000000000000000000000000000000000) (S := Nat) (fun k => k ≤ c.np) (fun k => c.np - k) suH [] suI (fun k => suV d q k) (fun _ => suB c y z a b) (by decide) (by decide) (by unfold lim; omega) (s0 := 0) (Nat.zero_le _) (fun _ => ⟨rfl, rfl⟩) (by kernel_rfl) (fun k _ => ⟨rfl, suB_low (by omega)⟩) ?_
  intro k hk
  refine (?_ : (∃ p r, suR Tryz.prog cfgErr c y z a b d q k p = some r ∧ _) → _) (suT cfgErr c y z a b d q k (StepV 75 100000000000000000000000000000000000000000000000000 119 suH [] suI (fun k => k ≤ c.np) (fun k => c.np - k) (fun k => suV d q k) (fun _ => suB c y z a b) (.exit 0) (suO d q) (suI.zip (suB c y z a b)) k) ?_)
  · rintro ⟨p, r, h1, h2⟩
    exact ⟨p, [], r, h1, h2⟩
  · simp only [List.headD_cons, hd, hr]
    rcases Nat.lt_or_ge k c.np with hlt | hge
    · have w1 : IntKind.wrap IntKind.i64 (Int.ofNat k + Int.ofNat 1) = Int.ofNat (k + 1) := by rw [wrap_nat _ (by simp; omega) (by simp; omega)]; rfl
      have hw : ∀ t : Int, 0 ≤ t → wnQ ⟨c, c.nodes.toNat, pairF c (2 * c.np), [.c (.v (.int .u8 t)), .c (.v (.int .i64 (Int.ofNat k))), .c (.v (.int .i64 d))]⟩ = true := fun t ht => by rw [wnQ_eq, hp, decide_eq_true ht]; rfl
      have hw1 := hw (Int.ofNat 1) (by simp)
      have hw0 := hw (Int.ofNat 0) (by simp)
      by_cases hk2 : q = Int.ofNat k
      · have b1 : (q != Int.ofNat k) = false := by simp [hk2]
        have b2 : (Int.ofNat k == q) = true := by simp [hk2]
        simp only [b1, b2, w1, hw0, hw1]
        (repeat' (first | refine ⟨fun h => ?_, fun h => ?_⟩ | fail))
        all_goals (first | (exfalso; simp at *; done) | (exfalso; simp at *; omega) | skip)
        all_goals (refine ⟨?_, rfl, by dsimp only; omega, rfl, .inl ⟨rfl, k + 1, hlt, by show c.np - (k + 1) < c.np - k; omega, rfl, BL.refl (suB c y z a b)⟩⟩)
        all_goals first
          | (simp_all [allT, cfgK_t, netK_t, intsOk_ints, stsOk_sts, intsOk_s, stsOk_s, inb_lit]; done)
          | (simp_all [allT, cfgK_t, netK_t, intsOk_ints, stsOk_sts, intsOk_s, stsOk_s, inb_lit]; omega)
      · have b1 : (q != Int.ofNat k) = true := by simpa using hk2
        have b2 : (Int.ofNat k == q) = false := by simpa using fun e => hk2 e.symm
        simp only [b1, b2, w1]
        (repeat' (first | refine ⟨fun h => ?_, fun h => ?_⟩ | fail))
        all_goals (first | (exfalso; simp at *; done) | (exfalso; simp at *; omega) | skip)
        all_goals (refine ⟨?_, rfl, by dsimp only; omega, rfl, .inl ⟨rfl, k + 1, hlt, by show c.np - (k + 1) < c.np - k; omega, rfl, BL.refl (suB c y z a b)⟩⟩)
        all_goals first
          | (simp_all [allT, cfgK_t, netK_t, intsOk_ints, stsOk_sts, intsOk_s, stsOk_s, inb_lit]; done)
          | (simp_all [allT, cfgK_t, netK_t, intsOk_ints, stsOk_sts, intsOk_s, stsOk_s, inb_lit]; omega)
    · obtain rfl : k = c.np := by omega
      (repeat' (first | refine ⟨fun h => ?_, fun h => ?_⟩ | fail))
      all_goals (first | (exfalso; simp at *; done) | (exfalso; simp at *; omega) | skip)
      all_goals (refine ⟨by simp [allT], rfl, by dsimp only; omega, rfl, .inr ⟨by simp, rfl, fun x hx => ?_, mf_all (by kernel_rfl) (suB_low (by omega)) rfl⟩⟩)
      all_goals (simp only [suO, List.mem_cons, List.not_mem_nil, or_false] at hx)
      all_goals (rcases hx with rfl | rfl | rfl | rfl | rfl)
      · exact ⟨rfl, .tail _ (.head _)⟩
      · exact ⟨rfl, .tail _ (.tail _ (.head _))⟩
      · exact ⟨rfl, .tail _ (.tail _ (.tail _ (.head _)))⟩
      · exact ⟨rfl, .tail _ (.tail _ (.tail _ (.tail _ (.head _))))⟩
      · exact ⟨rfl, .tail _ (.tail _ (.tail _ (.tail _ (.tail _ (.head _)))))⟩
end Go.Proofs.YtpgaplcdbbnblaaGreatDoor
end
/- SendersUnlike: what its runs answer. -/
section
namespace Go.Proofs.YtpgaplcdbbnblaaGreatDoor
open Go.RowKit

set_option maxRecDepth 1000000 in
theorem su_run1 (c : Cfg) (y z : Int) (a b : Said) (h0 : cfgErr c ≠ 0) (hb : c.nb ≤ 9223372036854775807) : ∃ p r, lwR (ENl1 Tryz.prog cfgErr ctsSu) 6 mSR c (suA y z a b) p [] = some r ∧ GoodF (bo true) r := by
  refine suE cfgErr c y z a b _ ?_
  (repeat' (first | refine ⟨fun h => ?_, fun h => ?_⟩ | fail))
  all_goals (refine ⟨rfl, (by first | (unfold lim; omega) | (dsimp only; unfold lim; omega)), ?_, by simp⟩)
  all_goals (simp_all [allT, cfgK_t, netK_t, intsOk_ints, stsOk_sts, intsOk_s, stsOk_s, h0, hb])
set_option maxRecDepth 1000000 in
theorem su_run0 (c : Cfg) (y z : Int) (a b : Said) (h0 : cfgErr c = 0) (hb : c.nb ≤ 9223372036854775807) : ∃ p lp r, lwR (ENl0 Tryz.prog cfgErr ctsSu) 6 mSR c (suA y z a b) p lp = some r ∧ GoodF (bo true) r := by
  have g := cfg_good h0
  have n4 := g.n4
  have n16 := g.n16
  have p8 := g.p8
  have s16 := g.s16
  have nt := g.nt
  have nb := g.nb
  have hq : 0 < c.nodes.toNat := by omega
  have hp := su_pre g hq
  have hr := su_rn g hq
  obtain ⟨d, hd⟩ : ∃ d, Int.tmod (IntKind.wrap IntKind.i64 y) (Cfg.nodes c) = d := ⟨_, rfl⟩
  obtain ⟨q, hqq⟩ : ∃ q, pairN c c.nodes.toNat (pairF c (2 * c.np)) d = q := ⟨_, rfl⟩
  have hs := su_sum c y z a b d q g hqq
  have hw : ∀ t : Int, 0 ≤ t → wnQ ⟨c, c.nodes.toNat, pairF c (2 * c.np), [.c (.v (.int .u8 t)), .c (.v (.int .i64 q)), .c (.v (.int .i64 d))]⟩ = true := fun t ht => by rw [wnQ_eq, hp, decide_eq_true ht]; rfl
  have hw1 := hw (Int.ofNat 1) (by simp)
  have hw0 := hw (Int.ofNat 0) (by simp)
  have bq : (q != q) = false := by simp
  have hz : c.nodes ≠ 0 := by omega
  obtain ⟨ai, ta, pa⟩ := a
  obtain ⟨bi, tb, pb⟩ := b
  cases ai with
  | false =>
    refine (?_ : (∃ p r, lwR (ENl0 Tryz.prog cfgErr ctsSu) 6 mSR c (suA y z ⟨false, ta, pa⟩ ⟨bi, tb, pb⟩) p [some (suS c y z ⟨false, ta, pa⟩ ⟨bi, tb, pb⟩ d q)] = some r ∧ GoodF (bo true) r) → _) (suD1 cfgErr c y z ta pa ⟨bi, tb, pb⟩ d q _ ?_)
    · rintro ⟨p, r, h1, h2⟩
      exact ⟨p, _, r, h1, h2⟩
    simp only [List.headD_cons, hd, hqq, hr, h0, bq, hw0, hw1] at hs ⊢
    (repeat' (first | refine ⟨fun h => ?_, fun h => ?_⟩ | fail))
    all_goals (first | (exfalso; simp at *; done) | skip)
    all_goals (refine ⟨rfl, (by first | (unfold lim; omega) | (dsimp only; unfold lim; omega)), ?_, fun x hx => ?_⟩)
    all_goals first
      | (cases hx; done)
      | (rw [List.mem_singleton.1 hx]; exact hs)
      | (simp_all [allT, cfgK_t, netK_t, intsOk_ints, stsOk_sts, intsOk_s, stsOk_s, inb_lit]; done)
      | (simp_all [allT, cfgK_t, netK_t, intsOk_ints, stsOk_sts, intsOk_s, stsOk_s, inb_lit]; omega)
  | true =>
    cases bi with
    | false =>
      refine (?_ : (∃ p r, lwR (ENl0 Tryz.prog cfgErr ctsSu) 6 mSR c (suA y z ⟨true, ta, pa⟩ ⟨false, tb, pb⟩) p [some (suS c y z ⟨true, ta, pa⟩ ⟨false, tb, pb⟩ d q)] = some r ∧ GoodF (bo true) r) → _) (suD2 cfgErr c y z ta tb pa pb d q _ ?_)
      · rintro ⟨p, r, h1, h2⟩
        exact ⟨p, _, r, h1, h2⟩
      simp only [List.headD_cons, hd, hqq, hr, h0, bq, hw0, hw1] at hs ⊢
      (repeat' (first | refine ⟨fun h => ?_, fun h => ?_⟩ | fail))
      all_goals (first | (exfalso; simp at *; done) | skip)
      all_goals (refine ⟨rfl, (by first | (unfold lim; omega) | (dsimp only; unfold lim; omega)), ?_, fun x hx => ?_⟩)
      all_goals first
        | (cases hx; done)
        | (rw [List.mem_singleton.1 hx]; exact hs)
        | (simp_all [allT, cfgK_t, netK_t, intsOk_ints, stsOk_sts, intsOk_s, stsOk_s, inb_lit]; done)
        | (simp_all [allT, cfgK_t, netK_t, intsOk_ints, stsOk_sts, intsOk_s, stsOk_s, inb_lit]; omega)
    | true =>
      obtain ⟨e, he⟩ : ∃ e, eqF [some IntKind.u8, some IntKind.u8, some IntKind.u32, some IntKind.u32] [AC.v (Value.int IntKind.u8 (Payload.kind pa)), AC.v (Value.int IntKind.u8 (Payload.st pa)), AC.v (Value.int IntKind.u32 (Payload.seq pa)), AC.v (Value.int IntKind.u32 (Payload.val pa))] [AC.v (Value.int IntKind.u8 (Payload.kind pb)), AC.v (Value.int IntKind.u8 (Payload.st pb)), AC.v (Value.int IntKind.u32 (Payload.seq pb)), AC.v (Value.int IntKind.u32 (Payload.val pb))] = e := ⟨_, rfl⟩
      cases e with
      | true =>
        refine (?_ : (∃ p r, lwR (ENl0 Tryz.prog cfgErr ctsSu) 6 mSR c (suA y z ⟨true, ta, pa⟩ ⟨true, tb, pb⟩) p [some (suS c y z ⟨true, ta, pa⟩ ⟨true, tb, pb⟩ d q)] = some r ∧ GoodF (bo true) r) → _) (suD3 cfgErr c y z ta tb pa pb d q _ ?_)
        · rintro ⟨p, r, h1, h2⟩
          exact ⟨p, _, r, h1, h2⟩
        simp only [List.headD_cons, hd, hqq, hr, h0, bq, hw0, hw1, he] at hs ⊢
        (repeat' (first | refine ⟨fun h => ?_, fun h => ?_⟩ | fail))
        all_goals (first | (exfalso; simp at *; done) | skip)
        all_goals (refine ⟨rfl, (by first | (unfold lim; omega) | (dsimp only; unfold lim; omega)), ?_, fun x hx => ?_⟩)
        all_goals first
          | (cases hx; done)
          | (rw [List.mem_singleton.1 hx]; exact hs)
          | (simp_all [allT, cfgK_t, netK_t, intsOk_ints, stsOk_sts, intsOk_s, stsOk_s, inb_lit]; done)
          | (simp_all [allT, cfgK_t, netK_t, intsOk_ints, stsOk_sts, intsOk_s, stsOk_s, inb_lit]; omega)
      | false =>
        refine (?_ : (∃ p r, lwR (ENl0 Tryz.prog cfgErr ctsSu) 6 mSR c (suA y z ⟨true, ta, pa⟩ ⟨true, tb, pb⟩) p [some (suS c y z ⟨true, ta, pa⟩ ⟨true, tb, pb⟩ d q)] = some r ∧ GoodF (bo true) r) → _) (suD4 cfgErr c y z ta tb pa pb d q _ ?_)
        · rintro ⟨p, r, h1, h2⟩
          exact ⟨p, _, r, h1, h2⟩
        simp only [List.headD_cons, hd, hqq, hr, h0, bq, hw0, hw1, he] at hs ⊢
        (repeat' (first | refine ⟨fun h => ?_, fun h => ?_⟩ | fail))
        all_goals (first | (exfalso; simp at *; done) | skip)
        all_goals (refine ⟨rfl, (by first | (unfold lim; omega) | (dsimp only; unfold lim; omega)), ?_, fun x hx => ?_⟩)
        all_goals first
          | (cases hx; done)
          | (rw [List.mem_singleton.1 hx]; exact hs)
          | (simp_all [allT, cfgK_t, netK_t, intsOk_ints, stsOk_sts, intsOk_s, stsOk_s, inb_lit]; done)
          | (simp_all [allT, cfgK_t, netK_t, intsOk_ints, stsOk_sts, intsOk_s, stsOk_s, inb_lit]; omega)
end Go.Proofs.YtpgaplcdbbnblaaGreatDoor
end
