/- Parts, one behind the other. Laws of a config that came in: from their runs to their calls. -/
import Derived.Test.YtoelekmbmghicaaGreatDoorJSendersBoth19
import Derived.Test.YtoelekmbmghicaaGreatDoorJSendersBoth16
import Derived.Test.YtoelekmbmghicaaGreatDoorJSendersBoth10
import Derived.Test.YtoelekmbmghicaaGreatDoorJSendersBoth17
import Derived.Test.YtoelekmbmghicaaGreatDoorJSendersBoth11
import Derived.Test.YtoelekmbmghicaaGreatDoorJSendersBoth12
set_option linter.unusedSimpArgs false
set_option linter.unusedVariables false
/- Laws of a config that came in: from their runs to their calls. -/
section
namespace Go.Proofs.YtoelekmbmghicaaGreatDoor
open Go.RowKit
def lwR (E : Env) (f : FuncId) (G : AMem) (c : Cfg) (r : List AV) (path : List Dec) (lp : List (Option LSum)) : Option VF := viewF [] (fCallF E (fC E 300) f (.agg (cfgC c) :: r) 10 10000000000000000000000000000000000000000 (stA (G ++ cfgL c) path lp))
theorem cfg_law {E : Env} (hE : EnvOk E) {f : FuncId} {G : AMem} {w : World} (hG : ∀ p ∈ G, GlobAt w p) {c : Cfg} {cs : List Value} (hc : CfgIn w c cs) {r : List AV} {us : List Value} (hr : ∀ β, γt β r = some us)
 (run : ∃ p lp q, lwR E f G c r p lp = some q ∧ GoodF (bo true) q) : Calls E.P f (.agg cs.toArray :: us).toArray w fun e w' => e = .returned (.bool true) ∧ Below w.heap.size w w' := by
 obtain ⟨p, lp, ⟨v, b', n, ob, po⟩, hrun, hv, hn, hob, hpo⟩ := run
 obtain ⟨s', r1, r2, r3, r4⟩ := viewF_out hrun
 obtain ⟨β, q1, q2, _, q4⟩ := rel_cfgIn hG hc
 have hn : n ≤ lim := hn
 refine (calls_f hE r1 ⟨by rw [r3]; exact hob, by rw [r4]; exact hpo⟩ (C := loneC w) (β := β) (w := w) (vs := .agg cs.toArray :: us) ?_ q1 (fun id h1 h2 => q4 id (by omega) (by omega))).mono ?_
 · simp only [γt, γ1, q2, hr β]
 · rintro e w' ⟨β', u, rfl, _, _, hu, hr'⟩
   simp only at hv
   subst hv
   cases hu
   exact ⟨rfl, below_lone hr'⟩
theorem cfgErr_zero {c : Cfg} (h : cfgErr c = 0) : rule1 c = 0 ∧ rule2 c = 0 ∧ rule3 c = 0 ∧ rule4 c = 0 ∧ rule5 c = 0 ∧ rule6 c = 0 ∧ rule7 c = 0 ∧ rule8 c = 0 ∧ rule9 c = 0 ∧ rule10 c = 0 := by
 unfold cfgErr at h
 generalize rule1 c = x1 at *
 generalize rule2 c = x2 at *
 generalize rule3 c = x3 at *
 generalize rule4 c = x4 at *
 generalize rule5 c = x5 at *
 generalize rule6 c = x6 at *
 generalize rule7 c = x7 at *
 generalize rule8 c = x8 at *
 generalize rule9 c = x9 at *
 generalize rule10 c = x10 at *
 by_cases h1 : x1 = 0 <;> by_cases h2 : x2 = 0 <;> by_cases h3 : x3 = 0 <;> by_cases h4 : x4 = 0 <;> by_cases h5 : x5 = 0 <;> by_cases h6 : x6 = 0 <;> by_cases h7 : x7 = 0 <;> by_cases h8 : x8 = 0 <;> by_cases h9 : x9 = 0 <;> simp_all
end Go.Proofs.YtoelekmbmghicaaGreatDoor
end
/- Laws on a net of a config that came in: their contracts. -/
section
namespace Go.Proofs.YtoelekmbmghicaaGreatDoor
open Go.RowKit
def ctRef4 (err : Cfg → Int) : CtF := ctCfg (fun c => i64 (err c)) fun _ => true
def ENl0 (P : Program) (err : Cfg → Int) (l : List (FuncId × CtF)) : Env := ⟨P, (20, ctNew0 err) :: (19, ctRef4 err) :: l⟩
def ENl1 (P : Program) (err : Cfg → Int) (l : List (FuncId × CtF)) : Env := ⟨P, (20, ctNew1 err) :: (19, ctRef4 err) :: l⟩
theorem hENl0 {l : List (FuncId × CtF)} (hl : ∀ f g, (f, g) ∈ l → CtOk Tryz.prog f g) : EnvOk (ENl0 Tryz.prog cfgErr l) := by
 refine envOk (fun f g h => ?_) (by kernel_rfl) (by kernel_rfl)
 rcases List.mem_cons.1 h with h | h
 · cases h; exact ct_new0
 rcases List.mem_cons.1 h with h | h
 · cases h; exact ct_ref4
 · exact hl f g h
theorem hENl1 {l : List (FuncId × CtF)} (hl : ∀ f g, (f, g) ∈ l → CtOk Tryz.prog f g) : EnvOk (ENl1 Tryz.prog cfgErr l) := by
 refine envOk (fun f g h => ?_) (by kernel_rfl) (by kernel_rfl)
 rcases List.mem_cons.1 h with h | h
 · cases h; exact ct_new1
 rcases List.mem_cons.1 h with h | h
 · cases h; exact ct_ref4
 · exact hl f g h
structure CfgGood (c : Cfg) : Prop where
 n4 : 4 ≤ c.nodes
 n16 : c.nodes ≤ 16
 p2 : 2 ≤ c.np
 p8 : c.np ≤ 8
 s1 : 1 ≤ c.ns
 s16 : c.ns ≤ 16
 l1 : c.nodes + 116 ≤ c.long
 l2 : 3 * c.nodes + 1 ≤ c.long
 l4 : c.long ≤ 4096
 nb : (c.nb : Int) = c.nodes
 nt : c.nt ≤ 8
 miss : 1 ≤ c.miss ∧ c.miss ≤ 100
 good : 1 ≤ c.good ∧ c.good ≤ 100
 fresh : 1 ≤ c.fresh ∧ c.fresh ≤ 100
 fp : ∀ p, p < c.np → 0 ≤ c.fp p ∧ c.fp p < c.nodes
 fs : ∀ i, i < c.ns → 0 ≤ c.fs i ∧ c.fs i < c.np
 has : ∀ p, p < c.np → ∃ i, i < c.ns ∧ c.fs i = p
theorem cfg_good {c : Cfg} (h : cfgErr c = 0) : CfgGood c := by
 obtain ⟨h1, h2, h3, h4, h5, h6, h7, h8, h9, h10⟩ := cfgErr_zero h
 have a1 := withinF_zero h1
 have a2 := withinF_zero h2
 have a4 := withinF_zero h4
 have a6 := withinF_zero h6
 have a8 := withinF_zero h8
 unfold rule3 at h3
 unfold rule5 all5 at h5
 unfold rule7 at h7
 unfold rule10 at h10
 have b3 : insideF c.fp c.np c.nodes = true := by
  split at h3
  · rename_i hh; simp only [Bool.and_eq_true] at hh; exact hh.1
  · cases h3
 split at h5
 · rename_i g5
   simp only [Bool.and_eq_true] at g5
   have b7 : (c.nb : Int) = c.nodes := by
    split at h7
    · assumption
    · cases h7
   have b10 : (1 ≤ c.miss ∧ c.miss ≤ 100) ∧ (1 ≤ c.good ∧ c.good ≤ 100) ∧ (1 ≤ c.fresh ∧ c.fresh ≤ 100) := by
    split at h10
    · rename_i g; exact absurd h10 g
    · rename_i g
      split at h10
      · rename_i g'; exact absurd h10 g'
      · rename_i g'
        exact ⟨withinF_zero (by omega), withinF_zero (by omega), withinF_zero h10⟩
   refine ⟨a1.1, a1.2, by omega, by omega, by omega, by omega, by omega, by omega, a6.2, b7, by omega, b10.1, b10.2.1, b10.2.2, fun p hp => ?_, fun i hi => ?_, fun p hp => ?_⟩
   · have := List.all_eq_true.1 b3 p (by simpa using hp)
     simpa using this
   · have := List.all_eq_true.1 g5.1 i (by simpa using hi)
     simpa using this
   · have := List.all_eq_true.1 g5.2 p (by simpa using hp)
     obtain ⟨i, hi, he⟩ := List.any_eq_true.1 this
     exact ⟨i, by simpa using hi, by simpa using he⟩
 · cases h5
end Go.Proofs.YtoelekmbmghicaaGreatDoor
end
/- A net's pair is the document's. No Go text is in sight. -/
section
namespace Go.Proofs.YtoelekmbmghicaaGreatDoor
open Go.RowKit
theorem cfg_nod {c : Cfg} (h : cfgErr c = 0) : ∀ p q, p < 2 * c.np → q < 2 * c.np → halfF c p = halfF c q → p = q := by
 have h3 := (cfgErr_zero h).2.2.1
 unfold rule3 at h3
 split at h3
 · rename_i hh
   simp only [Bool.and_eq_true] at hh
   have hn := of_decide_eq_true hh.2.2
   have key : ∀ p q, p < q → q < 2 * c.np → halfF c p ≠ halfF c q := by
    intro p q hpq hq
    have := (List.pairwise_iff_getElem.1 hn) p q (by simp; omega) (by simp; omega) hpq
    simpa using this
   intro p q hp hq e
   rcases Nat.lt_trichotomy p q with h | h | h
   · exact absurd e (key p q h hq)
   · exact h
   · exact absurd e.symm (key q p h hp)
 · cases h3
theorem ring_at {n a : Int} (h4 : 4 ≤ n) (h16 : n ≤ 16) (h0 : 0 ≤ a) (h1 : a < n) : ringF n a 1 = (a + 1) % n := by unfold ringF; rw [if_pos ⟨h4, h16, h0, h1⟩]
theorem half_at {c : Cfg} (g : CfgGood c) {p : Nat} (hp : p < c.np) : halfF c (2 * p) = c.fp p ∧ halfF c (2 * p + 1) = (c.fp p + 1) % c.nodes := by
 have := g.fp p hp
 unfold halfF
 rw [if_pos (by omega), if_neg (by omega), show 2 * p / 2 = p by omega, show (2 * p + 1) / 2 = p by omega, ring_at g.n4 g.n16 this.1 this.2]
 exact ⟨rfl, rfl⟩
theorem pair_val {c : Cfg} (g : CfgGood c) (nd : ∀ p q, p < 2 * c.np → q < 2 * c.np → halfF c p = halfF c q → p = q) {p : Nat} (hp : p < c.np) (i : Nat) : pairF c (2 * c.np) i = (p : Int) ↔ (i : Int) = c.fp p ∨ (i : Int) = (c.fp p + 1) % c.nodes := by
 obtain ⟨e0, e1⟩ := half_at g hp
 unfold pairF
 cases hf : (List.range (2 * c.np)).find? (fun q => halfF c q == Int.ofNat i) with
 | none =>
  have hn := List.find?_eq_none.1 hf
  have n0 := hn (2 * p) (by simp; omega)
  have n1 := hn (2 * p + 1) (by simp; omega)
  rw [e0] at n0
  rw [e1] at n1
  simp at n0 n1
  constructor
  · intro h; simp at h
  · rintro (h | h)
    · exact absurd h.symm n0
    · exact absurd h.symm n1
 | some q =>
  have hq := List.find?_some hf
  have hm := List.mem_of_find?_eq_some hf
  simp at hq hm
  constructor
  · intro h
    have hqp : q / 2 = p := by simp at h; omega
    have : q = 2 * p ∨ q = 2 * p + 1 := by omega
    rcases this with rfl | rfl
    · rw [e0] at hq; exact .inl hq.symm
    · rw [e1] at hq; exact .inr hq.symm
  · rintro (h | h)
    · have : q = 2 * p := nd q (2 * p) hm (by omega) (by rw [hq, e0, h])
      subst this
      show Int.ofNat (2 * p / 2) = (p : Int)
      rw [show 2 * p / 2 = p by omega]; rfl
    · have : q = 2 * p + 1 := nd q (2 * p + 1) hm (by omega) (by rw [hq, e1, h])
      subst this
      show Int.ofNat ((2 * p + 1) / 2) = (p : Int)
      rw [show (2 * p + 1) / 2 = p by omega]; rfl
section
variable {c : Cfg} (g : CfgGood c) (nd : ∀ p q, p < 2 * c.np → q < 2 * c.np → halfF c p = halfF c q → p = q)
include g nd
end
end Go.Proofs.YtoelekmbmghicaaGreatDoor
end
/- SendersOut: what it calls. -/
section
namespace Go.Proofs.YtoelekmbmghicaaGreatDoor
open Go.RowKit
theorem ct_lv11 : CtOk Tryz.prog 6 (ctTG mSR) := ctTG_of (E := ENy Tryz.prog) hENy ⟨_, _, Tryz.func6, rfl⟩ (by kernel_rfl) (by unfold lim; omega) lv11_run
def ctsNs : List (FuncId × CtF) := [(23, ctNet1 pairN), (22, ctRoundN), (25, ctWiOf), (27, ctWiAt), (28, ctRd cfgRd asPX asPQ), (56, ctRwOf), (57, ctRwAt), (6, ctTG mSR)]
theorem ctsNs_ok : ∀ f g, (f, g) ∈ ctsNs → CtOk Tryz.prog f g := by
 intro f g h
 simp only [ctsNs, List.mem_cons, Prod.mk.injEq, List.not_mem_nil, or_false] at h
 rcases h with ⟨rfl, rfl⟩ | ⟨rfl, rfl⟩ | ⟨rfl, rfl⟩ | ⟨rfl, rfl⟩ | ⟨rfl, rfl⟩ | ⟨rfl, rfl⟩ | ⟨rfl, rfl⟩ | ⟨rfl, rfl⟩
 · exact ct_pair
 · exact ct_round
 · exact ct_wiOf
 · exact ct_wiAt
 · exact ct_asP
 · exact ct_rwOf
 · exact ct_rwAt
 · exact ct_lv11
end Go.Proofs.YtoelekmbmghicaaGreatDoor
end
/- bits.Whole as the evaluator runs it. -/
section
namespace Go.Proofs.YtoelekmbmghicaaGreatDoor
open Go.RowKit
abbrev smB (n : Nat) (f : Nat → Int) : ABlk := rBlk 49 1 n fun i => [.int .u8 (f i)]
abbrev bwV (n k : Nat) : List AV := [.c (.sl 0 0 0 n none), .c (.v (.func (.func 62) #[] #[])), i64 (Int.ofNat n), i64 (Int.ofNat k)]
def bwR (P : Program) (n : Nat) (f : Nat → Int) (k : Nat) (path : List Dec) : Option VC :=
 view ([0, 1, 7, 8] ++ []) [0] (fC (E1 P) 100 (loopAt P 107 0) 1000000000000000000000000000000000000000000 10000000000000000000000000000000000000000 (stH 19 [0, 1, 7, 8] [0] (bwV n k) [smB n f] path []))
def bwF (P : Program) (n : Nat) (f : Nat → Int) (path : List Dec) : Option VF := viewF [] (fCallF (E1 P) (fC (E1 P) 300) 35 [.c (.sl 0 0 0 n none)] 1000 10000000000000000000000000000000000000000 (stA [(0, smB n f)] path [some ⟨[0, 1, 7, 8], [0], mkFr 19 [], [], 100000000000000000000000000000000000000000000000000, .exit 0⟩]))
theorem bwT (n : Nat) (f : Nat → Int) (k : Nat) (Q : VC → Prop) (H : let zz0 := (ABlk.mk false false 49 1 (Cs.arr n fun k => List.map AC.v ((fun i => [Value.int IntKind.u8 (f i)]) k))); let zz1 := [some (lkA (List.zip [0, 1, 7, 8] (bwV n k)) 0), some (lkA (List.zip [0, 1, 7, 8] (bwV n k)) 1), some (lkA (List.zip [0, 1, 7, 8] (bwV n k)) 7), some (AV.c (AC.v (Value.int IntKind.i64 (IntKind.wrap IntKind.i64 (Int.ofNat k + Int.ofNat 1)))))]; let zz2 := [some (lkA (List.zip [0, 1, 7, 8] (bwV n k)) 0), some (lkA (List.zip [0, 1, 7, 8] (bwV n k)) 1), some (lkA (List.zip [0, 1, 7, 8] (bwV n k)) 7), some (lkA (List.zip [0, 1, 7, 8] (bwV n k)) 8)]; let zq0 : List Bool := [ABlk.inb zz0 (0 + Int.toNat (Int.ofNat k)) 1, true, decide (Int.ofNat 0 ≤ Int.ofNat k ∧ Int.ofNat k < ↑n), decide (Int.ofNat k < Int.ofNat n) == true]; let zq1 : List Bool := ((f (0 + Int.toNat (Int.ofNat k)) == Int.ofNat 1) == false) :: zq0; (((decide (Int.ofNat k < Int.ofNat n)) = true → (((f (0 + Int.toNat (Int.ofNat k)) == Int.ofNat 1) = true → Q (Exit.normal, zz1, [some zz0], 19, 1000000000000000000000000000000000000000020, (((f (0 + Int.toNat (Int.ofNat k)) == Int.ofNat 1) == true) :: zq0), [])) ∧ ((f (0 + Int.toNat (Int.ofNat k)) == Int.ofNat 1) = false → (((!f (0 + Int.toNat (Int.ofNat k)) == Int.ofNat 2) = true → Q (Exit.ret, zz2, [some zz0], 19, 1000000000000000000000000000000000000000022, (((!f (0 + Int.toNat (Int.ofNat k)) == Int.ofNat 2) == true) :: zq1), [])) ∧ ((!f (0 + Int.toNat (Int.ofNat k)) == Int.ofNat 2) = false → Q (Exit.normal, zz1, [some zz0], 19, 1000000000000000000000000000000000000000022, (((!f (0 + Int.toNat (Int.ofNat k)) == Int.ofNat 2) == false) :: zq1), [])))))) ∧ ((decide (Int.ofNat k < Int.ofNat n)) = false → Q (Exit.exit 0, zz2, [some zz0], 19, 1000000000000000000000000000000000000000001, [decide (Int.ofNat k < Int.ofNat n) == false], [])))) :
 ∃ p r, bwR Tryz.prog n f k p = some r ∧ Q r :=
 two H
 (fun g1 => two g1
  (fun g2 => ⟨pD 4 4, _, by kernel_rfl, g2⟩)
  (fun g2 => two g2
   (fun g3 => ⟨pD 4 34, _, by kernel_rfl, g3⟩)
   (fun g3 => ⟨pD 4 61, _, by kernel_rfl, g3⟩)))
 (fun g1 => ⟨pD 1 2, _, by kernel_rfl, g1⟩)
theorem bwW (n : Nat) (f : Nat → Int) (Q : VF → Prop) (H : Q (.c (.v (.bool true)), [], 100000000000000000000000000000000000000000000000005, [], [LoopV Tryz.prog (loopAt Tryz.prog 107 0) [0, 1, 7, 8] [0] [some (.c (.sl 0 0 0 n none)), some (.c (AC.v (Value.func (Fn.func 62) (Array.mk []) (Array.mk [])))), some (.c (.v (.int .i64 ↑n))), some (.c (.v (.int .i64 (Int.ofNat 0))))] [some (ABlk.mk false false 49 1 (Cs.arr n fun k => List.map AC.v ((fun i => [Value.int .u8 (f i)]) k)))] 19 1009 (mkFr 19 []) [] 100000000000000000000000000000000000000000000000000 (Exit.exit 0) none])) :
 ∃ p r, bwF Tryz.prog n f p = some r ∧ Q r :=
 ⟨pD 0 0, _, by kernel_rfl, H⟩
end Go.Proofs.YtoelekmbmghicaaGreatDoor
end
/- Contract of bits.Whole, of symbols that are bits. -/
section
namespace Go.Proofs.YtoelekmbmghicaaGreatDoor
open Go.RowKit
set_option maxRecDepth 100000 in
theorem bw_sum (n : Nat) (f : Nat → Int) (hn : n ≤ 1000) (hf : ∀ i, i < n → f i = 1 ∨ f i = 2) : LoopV Tryz.prog (loopAt Tryz.prog 107 0) [0, 1, 7, 8] [0] ((bwV n 0).map some) ([smB n f].map some) 19 1009 (mkFr 19 []) [] 100000000000000000000000000000000000000000000000000 (.exit 0) none := by
 refine loop_view hE1 (fuel := 100) (str := 10000000000000000000000000000000000000000) (n := 1009) (nh := 1000000000000000000000000000000000000000000) (n' := 100000000000000000000000000000000000000000000000000) (S := Nat) (fun k => k ≤ n) (fun k => n - k) [0, 1, 7, 8] [] [0] (bwV n) (fun _ => [smB n f]) (by decide) (by decide) (by unfold lim; omega) (s0 := 0) (Nat.zero_le _) (fun _ => ⟨rfl, rfl⟩) (by kernel_rfl) (fun k _ => ⟨rfl, fun b hb => by rw [List.mem_singleton.1 hb]; exact rBlk_low⟩) ?_
 intro k hk
 have ek : 0 + Int.toNat (Int.ofNat k) = k := by simp
 refine (?_ : (∃ p r, bwR Tryz.prog n f k p = some r ∧ _) → _) (bwT n f k (StepV 1009 100000000000000000000000000000000000000000000000000 19 [0, 1, 7, 8] [] [0] (fun k => k ≤ n) (fun k => n - k) (bwV n) (fun _ => [smB n f]) (.exit 0) [] [] k) ?_)
 · rintro ⟨p, r, h1, h2⟩
   exact ⟨p, [], r, h1, h2⟩
 · simp only [ek]
   rcases Nat.lt_or_ge k n with hlt | hge
   · have w : IntKind.wrap IntKind.i64 (Int.ofNat k + Int.ofNat 1) = Int.ofNat (k + 1) := by rw [wrap_nat _ (by simp; omega) (by simp; omega)]; rfl
     have h := hf k hlt
     simp only [w]
     (repeat' (first | refine ⟨fun h => ?_, fun h => ?_⟩ | fail))
     all_goals (first | (exfalso; simp at *; omega) | skip)
     all_goals (refine ⟨?_, rfl, by dsimp only; omega, rfl, .inl ⟨rfl, k + 1, hlt, by show n - (k + 1) < n - k; omega, rfl, BL.refl [smB n f]⟩⟩)
     all_goals first
      | (simp_all [allT, inb_arr]; done)
      | (simp_all [allT, inb_arr]; omega)
   · obtain rfl : k = n := by omega
     (repeat' (first | refine ⟨fun h => ?_, fun h => ?_⟩ | fail))
     all_goals (first | (exfalso; simp at *; done) | (exfalso; simp at *; omega) | skip)
     all_goals (refine ⟨by simp [allT], rfl, by dsimp only; omega, rfl, .inr ⟨by simp, rfl, (fun x hx => by cases hx), (fun x hx => by cases hx)⟩⟩)
def whQ (s : LstS Int) : Bool := decide (s.n ≤ 1000) && ((List.range s.n).all (fun i => s.f i == 1 || s.f i == 2) && s.rest.isEmpty)
theorem ct_whole : CtOk Tryz.prog 35 (ctRd symRd (fun _ => bo true) whQ) := by
 refine ctRd_ofE (E := E1 Tryz.prog) hE1 symRd (fuel := 300) (str := 10000000000000000000000000000000000000000) ⟨_, _, Tryz.func35, rfl⟩ (fun _ => rfl) fun s hs => ?_
 obtain ⟨n, f, rest⟩ := s
 simp only [whQ, Bool.and_eq_true, decide_eq_true_eq, List.isEmpty_iff] at hs
 obtain ⟨hn, hf, rfl⟩ := hs
 have hf : ∀ i, i < n → f i = 1 ∨ f i = 2 := fun i hi => by simpa using List.all_eq_true.1 hf i (List.mem_range.2 hi)
 refine (?_ : (∃ p q, bwF Tryz.prog n f p = some q ∧ GoodF (bo true) q) → _) (bwW n f _ ?_)
 · rintro ⟨p, q, h1, h2⟩
   exact ⟨p, _, q, h1, h2⟩
 · refine ⟨rfl, (by first | (unfold lim; omega) | (dsimp only; unfold lim; omega)), by simp [allT], fun q hq => ?_⟩
   rw [List.mem_singleton.1 hq]
   exact bw_sum n f hn hf
/-! bits.Num of eight -/
def EBw (P : Program) : Env := ⟨P, [(35, ctRd symRd (fun _ => bo true) whQ)]⟩
theorem hEBw : EnvOk (EBw Tryz.prog) := by
 refine envOk (fun f g h => ?_) (by kernel_rfl) (by kernel_rfl)
 simp only [EBw, List.mem_cons, Prod.mk.injEq, List.not_mem_nil, or_false] at h
 obtain ⟨rfl, rfl⟩ := h
 exact ct_whole
def bnF (P : Program) (f : Nat → Int) (path : List Dec) : Option VF := viewF [] (fCallF (EBw P) (fC (EBw P) 300) 65 [.c (.sl 0 0 0 8 none)] 1000 10000000000000000000000000000000000000000 (stA [(0, smB 8 f)] path []))
end Go.Proofs.YtoelekmbmghicaaGreatDoor
end
/- bits.Num of eight symbols as the evaluator runs it. -/
section
namespace Go.Proofs.YtoelekmbmghicaaGreatDoor
open Go.RowKit
theorem bnT (f : Nat → Int) (Q : VF → Prop) (H : Q (.tup [.c (.v (.int .u64 (IntKind.wrap .u64 ↑(BitVec.toNat (BitVec.ofInt (IntKind.bits .u64) (IntKind.wrap .u64 (IntKind.wrap .u64 ↑(BitVec.toNat (BitVec.ofInt (IntKind.bits .u64) (IntKind.wrap .u64 (IntKind.wrap .u64 ↑(BitVec.toNat (BitVec.ofInt (IntKind.bits .u64) (IntKind.wrap .u64 (IntKind.wrap .u64 ↑(BitVec.toNat (BitVec.ofInt (IntKind.bits .u64) (IntKind.wrap .u64 (IntKind.wrap .u64 ↑(BitVec.toNat (BitVec.ofInt (IntKind.bits .u64) (IntKind.wrap .u64 (IntKind.wrap .u64 ↑(BitVec.toNat (BitVec.ofInt (IntKind.bits .u64) (IntKind.wrap .u64 (IntKind.wrap .u64 ↑(BitVec.toNat (BitVec.ofInt (IntKind.bits .u64) (IntKind.wrap .u64 (IntKind.wrap .u64 ↑(BitVec.toNat (BitVec.ofInt (IntKind.bits .u64) (Int.ofNat 0) ||| BitVec.ofInt (IntKind.bits .u64) (IntKind.wrap .u64 (IntKind.wrap .u8 (f 0 - Int.ofNat 1))))) * Int.ofNat 2)) ||| BitVec.ofInt (IntKind.bits .u64) (IntKind.wrap .u64 (IntKind.wrap .u8 (f 1 - Int.ofNat 1))))) * Int.ofNat 2)) ||| BitVec.ofInt (IntKind.bits .u64) (IntKind.wrap .u64 (IntKind.wrap .u8 (f 2 - Int.ofNat 1))))) * Int.ofNat 2)) ||| BitVec.ofInt (IntKind.bits .u64) (IntKind.wrap .u64 (IntKind.wrap .u8 (f 3 - Int.ofNat 1))))) * Int.ofNat 2)) ||| BitVec.ofInt (IntKind.bits .u64) (IntKind.wrap .u64 (IntKind.wrap .u8 (f 4 - Int.ofNat 1))))) * Int.ofNat 2)) ||| BitVec.ofInt (IntKind.bits .u64) (IntKind.wrap .u64 (IntKind.wrap .u8 (f 5 - Int.ofNat 1))))) * Int.ofNat 2)) ||| BitVec.ofInt (IntKind.bits .u64) (IntKind.wrap .u64 (IntKind.wrap .u8 (f 6 - Int.ofNat 1))))) * Int.ofNat 2)) ||| BitVec.ofInt (IntKind.bits .u64) (IntKind.wrap .u64 (IntKind.wrap .u8 (f 7 - Int.ofNat 1)))))))), .c (.v (.bool true))], [], 1120, [true, true, true, true, true, true, true, true, true, true, true, true, true, true, true, true, true, true, true, true, true, true, true, true, true, true, true, true, true, true, true, true, true, whQ (LstS.mk 8 (fS fun k => List.map AC.v ((fun i => [Value.int .u8 (f i)]) k)) [])], [])) :
 ∃ p r, bnF Tryz.prog f p = some r ∧ Q r :=
 ⟨pD 13 0, _, by kernel_rfl, H⟩
end Go.Proofs.YtoelekmbmghicaaGreatDoor
end
/- Contract of bits.Num, of eight symbols that are bits. -/
section
namespace Go.Proofs.YtoelekmbmghicaaGreatDoor
open Go.RowKit
def numS (a x : Int) : Int := IntKind.wrap .u64 ((BitVec.toNat (BitVec.ofInt (IntKind.bits .u64) (IntKind.wrap .u64 (a * Int.ofNat 2)) ||| BitVec.ofInt (IntKind.bits .u64) (IntKind.wrap .u64 (IntKind.wrap .u8 (x - Int.ofNat 1)))) : Nat) : Int)
theorem num_all : ((List.range 128).all fun n => numS (n : Int) 1 == (n : Int) * 2 && numS (n : Int) 2 == (n : Int) * 2 + 1) = true := by kernel_rfl
theorem num_st {a x : Int} (h0 : 0 ≤ a) (h1 : a < 128) (hx : x = 1 ∨ x = 2) : numS a x = a * 2 + (x - 1) := by
 obtain ⟨n, rfl⟩ := Int.eq_ofNat_of_zero_le h0
 have h := List.all_eq_true.1 num_all n (by simp; omega)
 simp only [Bool.and_eq_true, beq_iff_eq] at h
 rcases hx with rfl | rfl
 · rw [h.1]; omega
 · rw [h.2]; omega
def numF (f : Nat → Int) : Int := (((((((f 0 - 1) * 2 + (f 1 - 1)) * 2 + (f 2 - 1)) * 2 + (f 3 - 1)) * 2 + (f 4 - 1)) * 2 + (f 5 - 1)) * 2 + (f 6 - 1)) * 2 + (f 7 - 1)
theorem num_eq (f : Nat → Int) (hf : ∀ i, i < 8 → f i = 1 ∨ f i = 2) : numS (numS (numS (numS (numS (numS (numS (numS 0 (f 0)) (f 1)) (f 2)) (f 3)) (f 4)) (f 5)) (f 6)) (f 7) = numF f := by
 have h0 := hf 0 (by omega)
 have h1 := hf 1 (by omega)
 have h2 := hf 2 (by omega)
 have h3 := hf 3 (by omega)
 have h4 := hf 4 (by omega)
 have h5 := hf 5 (by omega)
 have h6 := hf 6 (by omega)
 have h7 := hf 7 (by omega)
 rw [num_st (a := 0) (by omega) (by omega) h0, num_st (by omega) (by omega) h1, num_st (by omega) (by omega) h2, num_st (by omega) (by omega) h3, num_st (by omega) (by omega) h4, num_st (by omega) (by omega) h5, num_st (by omega) (by omega) h6, num_st (by omega) (by omega) h7]
 unfold numF
 omega
def nmQ (s : LstS Int) : Bool := decide (s.n = 8) && ((List.range 8).all (fun i => s.f i == 1 || s.f i == 2) && s.rest.isEmpty)
theorem ct_num : CtOk Tryz.prog 65 (ctRd symRd (fun s => .tup [.c (.v (.int .u64 (numF s.f))), bo true]) nmQ) := by
 refine ctRd_ofE (E := EBw Tryz.prog) hEBw symRd (fuel := 300) (str := 10000000000000000000000000000000000000000) ⟨_, _, Tryz.func65, rfl⟩ (fun _ => rfl) fun s hs => ?_
 obtain ⟨n, f, rest⟩ := s
 simp only [nmQ, Bool.and_eq_true, decide_eq_true_eq, List.isEmpty_iff] at hs
 obtain ⟨rfl, hf, rfl⟩ := hs
 have hw : whQ ⟨8, f, []⟩ = true := by
  unfold whQ
  simp only [Bool.and_eq_true, decide_eq_true_eq]
  exact ⟨by omega, hf, rfl⟩
 have hf : ∀ i, i < 8 → f i = 1 ∨ f i = 2 := fun i hi => by simpa using List.all_eq_true.1 hf i (List.mem_range.2 hi)
 refine (?_ : (∃ p q, bnF Tryz.prog f p = some q ∧ GoodF (.tup [.c (.v (.int .u64 (numF f))), bo true]) q) → _) (bnT f _ ?_)
 · rintro ⟨p, q, h1, h2⟩
   exact ⟨p, [], q, h1, h2⟩
 · refine ⟨?_, (by first | (unfold lim; omega) | (dsimp only; unfold lim; omega)), ?_, by simp⟩
   · exact congrArg (fun z => AV.tup [.c (.v (.int .u64 z)), bo true]) (num_eq f hf)
   · have hw' : whQ (LstS.mk 8 (fS fun k => List.map AC.v ((fun i => [Value.int .u8 (f i)]) k)) []) = true := hw
     simp only [allT, List.forall_mem_cons, hw']
     simp
end Go.Proofs.YtoelekmbmghicaaGreatDoor
end
/- Eight symbols of a byte, read as a number, are the byte. No Go text is in sight. -/
section
namespace Go.Proofs.YtoelekmbmghicaaGreatDoor
open Go.RowKit
theorem numF_all : ((List.range 256).all fun n => numF (fun i => symZ (n : Int) i) == (n : Int)) = true := by kernel_rfl
theorem numF_sym {x : Int} (h0 : 0 ≤ x) (h1 : x < 256) : numF (fun i => symZ x i) = x := by
 obtain ⟨n, rfl⟩ := Int.eq_ofNat_of_zero_le h0
 have h := List.all_eq_true.1 numF_all n (by simp; omega)
 simpa using h
theorem numF_symK {b : Nat → Int} {k : Nat} (h0 : 0 ≤ b k) (h1 : b k < 256) : numF (fun i => symK b (8 * k + i)) = b k := by
 have e : ∀ i, i < 8 → symK b (8 * k + i) = symZ (b k) i := fun i hi => by
  unfold symK
  rw [show (8 * k + i) / 8 = k by omega, show (8 * k + i) % 8 = i by omega]
 refine Eq.trans ?_ (numF_sym h0 h1)
 unfold numF
 simp only [e 0 (by omega), e 1 (by omega), e 2 (by omega), e 3 (by omega), e 4 (by omega), e 5 (by omega), e 6 (by omega), e 7 (by omega)]
theorem symZ_bit (x : Int) (i : Nat) : symZ x i = 1 ∨ symZ x i = 2 := by
 unfold symZ
 split
 · exact .inr rfl
 · exact .inl rfl
end Go.Proofs.YtoelekmbmghicaaGreatDoor
end
/- bits.Bytes of 112 symbols as the evaluator runs it. -/
section
namespace Go.Proofs.YtoelekmbmghicaaGreatDoor
open Go.RowKit
def EBx (P : Program) : Env := ⟨P, [(65, ctRd symRd (fun s => .tup [.c (.v (.int .u64 (numF s.f))), bo true]) nmQ)]⟩
theorem hEBx : EnvOk (EBx Tryz.prog) := by
 refine envOk (fun f g h => ?_) (by kernel_rfl) (by kernel_rfl)
 simp only [EBx, List.mem_cons, Prod.mk.injEq, List.not_mem_nil, or_false] at h
 obtain ⟨rfl, rfl⟩ := h
 exact ct_num
abbrev rwB (n : Nat) (f : Nat → Int) : ABlk := rwBlk 49 1 n fun i => [.int .u8 (f i)]
def symRw : Rd (LstS Int) := rowRd 1 49 fS (fun z => [.int .u8 z]) (fun _ => rfl) symsOk (fun h i hi => symsOk_eq h i hi)
def byF (P : Program) (ids : List Nat) (f : Nat → Int) (path : List Dec) : Option VF := viewF ids (fCallF (EBx P) (fC (EBx P) 300) 36 [.c (.sl 0 0 0 112 none)] 1000 10000000000000000000000000000000000000000 (stA [(0, rwB 112 f)] path []))
theorem byT (f : Nat → Int) (Q : VF → Prop) (H : let zt : List Bool → List Bool := fun l => true :: true :: true :: true :: true :: true :: true :: true :: l; Q (.tup [.c (.sl 980000000000000000000000000000000000001487 0 0 14 (some 14)), .c (.v (.bool true))], [some (ABlk.mk true true 5 1 (Cs.arr 14 fun i => if i < 13 then if i < 12 then if i < 11 then if i < 10 then if i < 9 then if i < 8 then if i < 7 then if i < 6 then if i < 5 then if i < 4 then if i < 3 then if i < 2 then if i < 1 then if i < 0 then [] else elt (ABlk.mk true false 5 0 (Cs.lit [.v (.int .u8 (IntKind.wrap .u8 (numF (LstS.f (LstS.mk 8 (fS fun k => List.map AC.v ((fun i => [Value.int .u8 (f i)]) k)) [])))))])) 0 0 1 (i - 0) else elt (ABlk.mk true false 5 0 (Cs.lit [.v (.int .u8 (IntKind.wrap .u8 (numF (LstS.f (LstS.mk 8 (fS fun i => List.map AC.v ((fun i => [Value.int .u8 (f i)]) (8 + i))) [])))))])) 0 0 1 (i - 1) else elt (ABlk.mk true false 5 0 (Cs.lit [.v (.int .u8 (IntKind.wrap .u8 (numF (LstS.f (LstS.mk 8 (fS fun i => List.map AC.v ((fun i => [Value.int .u8 (f i)]) (16 + i))) [])))))])) 0 0 1 (i - 2) else elt (ABlk.mk true false 5 0 (Cs.lit [.v (.int .u8 (IntKind.wrap .u8 (numF (LstS.f (LstS.mk 8 (fS fun i => List.map AC.v ((fun i => [Value.int .u8 (f i)]) (24 + i))) [])))))])) 0 0 1 (i - 3) else elt (ABlk.mk true false 5 0 (Cs.lit [.v (.int .u8 (IntKind.wrap .u8 (numF (LstS.f (LstS.mk 8 (fS fun i => List.map AC.v ((fun i => [Value.int .u8 (f i)]) (32 + i))) [])))))])) 0 0 1 (i - 4) else elt (ABlk.mk true false 5 0 (Cs.lit [.v (.int .u8 (IntKind.wrap .u8 (numF (LstS.f (LstS.mk 8 (fS fun i => List.map AC.v ((fun i => [Value.int .u8 (f i)]) (40 + i))) [])))))])) 0 0 1 (i - 5) else elt (ABlk.mk true false 5 0 (Cs.lit [.v (.int .u8 (IntKind.wrap .u8 (numF (LstS.f (LstS.mk 8 (fS fun i => List.map AC.v ((fun i => [Value.int .u8 (f i)]) (48 + i))) [])))))])) 0 0 1 (i - 6) else elt (ABlk.mk true false 5 0 (Cs.lit [.v (.int .u8 (IntKind.wrap .u8 (numF (LstS.f (LstS.mk 8 (fS fun i => List.map AC.v ((fun i => [Value.int .u8 (f i)]) (56 + i))) [])))))])) 0 0 1 (i - 7) else elt (ABlk.mk true false 5 0 (Cs.lit [.v (.int .u8 (IntKind.wrap .u8 (numF (LstS.f (LstS.mk 8 (fS fun i => List.map AC.v ((fun i => [Value.int .u8 (f i)]) (64 + i))) [])))))])) 0 0 1 (i - 8) else elt (ABlk.mk true false 5 0 (Cs.lit [.v (.int .u8 (IntKind.wrap .u8 (numF (LstS.f (LstS.mk 8 (fS fun i => List.map AC.v ((fun i => [Value.int .u8 (f i)]) (72 + i))) [])))))])) 0 0 1 (i - 9) else elt (ABlk.mk true false 5 0 (Cs.lit [.v (.int .u8 (IntKind.wrap .u8 (numF (LstS.f (LstS.mk 8 (fS fun i => List.map AC.v ((fun i => [Value.int .u8 (f i)]) (80 + i))) [])))))])) 0 0 1 (i - 10) else elt (ABlk.mk true false 5 0 (Cs.lit [.v (.int .u8 (IntKind.wrap .u8 (numF (LstS.f (LstS.mk 8 (fS fun i => List.map AC.v ((fun i => [Value.int .u8 (f i)]) (88 + i))) [])))))])) 0 0 1 (i - 11) else elt (ABlk.mk true false 5 0 (Cs.lit [.v (.int .u8 (IntKind.wrap .u8 (numF (LstS.f (LstS.mk 8 (fS fun i => List.map AC.v ((fun i => [Value.int .u8 (f i)]) (96 + i))) [])))))])) 0 0 1 (i - 12) else elt (ABlk.mk true false 5 0 (Cs.lit [.v (.int .u8 (IntKind.wrap .u8 (numF (LstS.f (LstS.mk 8 (fS fun i => List.map AC.v ((fun i => [Value.int .u8 (f i)]) (104 + i))) [])))))])) 0 0 1 (i - 13)))], 980000000000000000000000000000000000001509, (zt (zt (true :: true :: true :: true :: true :: ((nmQ (LstS.mk 8 (fS fun i => List.map AC.v ((fun i => [Value.int .u8 (f i)]) (104 + i))) [])) :: (zt (zt (true :: true :: true :: true :: true :: true :: true :: ((nmQ (LstS.mk 8 (fS fun i => List.map AC.v ((fun i => [Value.int .u8 (f i)]) (96 + i))) [])) :: (zt (zt (true :: true :: true :: true :: true :: true :: true :: ((nmQ (LstS.mk 8 (fS fun i => List.map AC.v ((fun i => [Value.int .u8 (f i)]) (88 + i))) [])) :: (zt (zt (true :: true :: true :: true :: true :: true :: true :: ((nmQ (LstS.mk 8 (fS fun i => List.map AC.v ((fun i => [Value.int .u8 (f i)]) (80 + i))) [])) :: (zt (zt (true :: true :: true :: true :: true :: true :: true :: ((nmQ (LstS.mk 8 (fS fun i => List.map AC.v ((fun i => [Value.int .u8 (f i)]) (72 + i))) [])) :: (zt (zt (true :: true :: true :: true :: true :: true :: true :: ((nmQ (LstS.mk 8 (fS fun i => List.map AC.v ((fun i => [Value.int .u8 (f i)]) (64 + i))) [])) :: (zt (zt (true :: true :: true :: true :: true :: true :: true :: ((nmQ (LstS.mk 8 (fS fun i => List.map AC.v ((fun i => [Value.int .u8 (f i)]) (56 + i))) [])) :: (zt (zt (true :: true :: true :: true :: true :: true :: true :: ((nmQ (LstS.mk 8 (fS fun i => List.map AC.v ((fun i => [Value.int .u8 (f i)]) (48 + i))) [])) :: (zt (zt (true :: true :: true :: true :: true :: true :: true :: ((nmQ (LstS.mk 8 (fS fun i => List.map AC.v ((fun i => [Value.int .u8 (f i)]) (40 + i))) [])) :: (zt (zt (true :: true :: true :: true :: true :: true :: true :: ((nmQ (LstS.mk 8 (fS fun i => List.map AC.v ((fun i => [Value.int .u8 (f i)]) (32 + i))) [])) :: (zt (zt (true :: true :: true :: true :: true :: true :: true :: ((nmQ (LstS.mk 8 (fS fun i => List.map AC.v ((fun i => [Value.int .u8 (f i)]) (24 + i))) [])) :: (zt (zt (true :: true :: true :: true :: true :: true :: true :: ((nmQ (LstS.mk 8 (fS fun i => List.map AC.v ((fun i => [Value.int .u8 (f i)]) (16 + i))) [])) :: (zt (zt (true :: true :: true :: true :: true :: true :: true :: ((nmQ (LstS.mk 8 (fS fun i => List.map AC.v ((fun i => [Value.int .u8 (f i)]) (8 + i))) [])) :: (zt (zt (true :: true :: true :: true :: true :: ((nmQ (LstS.mk 8 (fS fun k => List.map AC.v ((fun i => [Value.int .u8 (f i)]) k)) [])) :: (zt (zt (true :: []))))))))))))))))))))))))))))))))))))))))))))))))))))))))))), [])) :
 ∃ p r, byF Tryz.prog [980000000000000000000000000000000000001487] f p = some r ∧ Q r :=
 ⟨pD 45 0, _, by kernel_rfl, H⟩
end Go.Proofs.YtoelekmbmghicaaGreatDoor
end
/- Contract of bits.Bytes, of 112 symbols that are bits. -/
section
namespace Go.Proofs.YtoelekmbmghicaaGreatDoor
open Go.RowKit
def byQ (s : LstS Int) : Bool := decide (s.n = 112) && ((List.range 112).all (fun i => s.f i == 1 || s.f i == 2) && s.rest.isEmpty)
def numK (f : Nat → Int) : Nat → Int := fun k => numF fun j => f (8 * k + j)
def ctBytes : CtF := ctRdT symRw (fun _ => 14) (fun _ => some 14) (fun s => bytW 14 (numK s.f)) (fun _ => bo true) byQ
theorem numF_in {f : Nat → Int} (hf : ∀ i, i < 8 → f i = 1 ∨ f i = 2) : 0 ≤ numF f ∧ numF f < 256 := by
 have h0 := hf 0 (by omega)
 have h1 := hf 1 (by omega)
 have h2 := hf 2 (by omega)
 have h3 := hf 3 (by omega)
 have h4 := hf 4 (by omega)
 have h5 := hf 5 (by omega)
 have h6 := hf 6 (by omega)
 have h7 := hf 7 (by omega)
 unfold numF
 omega
set_option maxRecDepth 100000 in
theorem ct_bytes : CtOk Tryz.prog 36 ctBytes := by
 refine ctRdT_of (E := EBx Tryz.prog) hEBx symRw (fuel := 300) (str := 10000000000000000000000000000000000000000) 980000000000000000000000000000000000001487 ⟨_, _, Tryz.func36, rfl⟩ (fun _ => rfl) (fun _ => ⟨_, _, rfl⟩) (fun _ => wBlk_pl (fun _ => rfl)) (fun _ => rfl) fun s hs => ?_
 obtain ⟨n, f, rest⟩ := s
 simp only [byQ, Bool.and_eq_true, decide_eq_true_eq, List.isEmpty_iff] at hs
 obtain ⟨rfl, hf, rfl⟩ := hs
 have hb : ∀ i, i < 112 → f i = 1 ∨ f i = 2 := fun i hi => by simpa using List.all_eq_true.1 hf i (List.mem_range.2 hi)
 have hq : ∀ k, k < 14 → nmQ ⟨8, fun i => f (8 * k + i), []⟩ = true := fun k hk => by
  unfold nmQ
  rw [decide_eq_true rfl, Bool.true_and, List.isEmpty_nil, Bool.and_true]
  exact List.all_eq_true.2 fun i hi => by simpa using hb (8 * k + i) (by have := List.mem_range.1 hi; omega)
 have hv : ∀ k, k < 14 → IntKind.wrap .u8 (numK f k) = numK f k := fun k hk => by
  obtain ⟨a, b⟩ := numF_in (f := fun i => f (8 * k + i)) fun i hi => hb _ (by omega)
  show IntKind.wrap .u8 (numF fun i => f (8 * k + i)) = numF fun i => f (8 * k + i)
  rw [ww8]; omega
 refine (?_ : (∃ p q, byF Tryz.prog [980000000000000000000000000000000000001487] f p = some q ∧ GoodT 980000000000000000000000000000000000001487 14 (some 14) (bytW 14 (numK f)) (bo true) q) → _) (byT f _ ?_)
 · rintro ⟨p, q, h1, h2⟩
   exact ⟨p, [], q, h1, h2⟩
 · refine ⟨rfl, ⟨_, rfl, ⟨rfl, rfl, rfl, rfl, .inr (.inl ⟨_, _, _, rfl, rfl, fun i hi => ?_⟩)⟩⟩, (by first | (unfold lim; omega) | (dsimp only; unfold lim; omega)), ?_, by simp⟩
   · have : i = 0 ∨ i = 1 ∨ i = 2 ∨ i = 3 ∨ i = 4 ∨ i = 5 ∨ i = 6 ∨ i = 7 ∨ i = 8 ∨ i = 9 ∨ i = 10 ∨ i = 11 ∨ i = 12 ∨ i = 13 := by omega
     rcases this with rfl | rfl | rfl | rfl | rfl | rfl | rfl | rfl | rfl | rfl | rfl | rfl | rfl | rfl
     · exact congrArg (fun z => [AC.v (Value.int .u8 z)]) (hv 0 (by omega))
     · exact congrArg (fun z => [AC.v (Value.int .u8 z)]) (hv 1 (by omega))
     · exact congrArg (fun z => [AC.v (Value.int .u8 z)]) (hv 2 (by omega))
     · exact congrArg (fun z => [AC.v (Value.int .u8 z)]) (hv 3 (by omega))
     · exact congrArg (fun z => [AC.v (Value.int .u8 z)]) (hv 4 (by omega))
     · exact congrArg (fun z => [AC.v (Value.int .u8 z)]) (hv 5 (by omega))
     · exact congrArg (fun z => [AC.v (Value.int .u8 z)]) (hv 6 (by omega))
     · exact congrArg (fun z => [AC.v (Value.int .u8 z)]) (hv 7 (by omega))
     · exact congrArg (fun z => [AC.v (Value.int .u8 z)]) (hv 8 (by omega))
     · exact congrArg (fun z => [AC.v (Value.int .u8 z)]) (hv 9 (by omega))
     · exact congrArg (fun z => [AC.v (Value.int .u8 z)]) (hv 10 (by omega))
     · exact congrArg (fun z => [AC.v (Value.int .u8 z)]) (hv 11 (by omega))
     · exact congrArg (fun z => [AC.v (Value.int .u8 z)]) (hv 12 (by omega))
     · exact congrArg (fun z => [AC.v (Value.int .u8 z)]) (hv 13 (by omega))
   ·
    have h0 : nmQ (LstS.mk 8 (fS fun k => List.map AC.v ((fun i => [Value.int .u8 (f i)]) k)) []) = true := hq 0 (by omega)
    have h1 : nmQ (LstS.mk 8 (fS fun i => List.map AC.v ((fun i => [Value.int .u8 (f i)]) (8 + i))) []) = true := hq 1 (by omega)
    have h2 : nmQ (LstS.mk 8 (fS fun i => List.map AC.v ((fun i => [Value.int .u8 (f i)]) (16 + i))) []) = true := hq 2 (by omega)
    have h3 : nmQ (LstS.mk 8 (fS fun i => List.map AC.v ((fun i => [Value.int .u8 (f i)]) (24 + i))) []) = true := hq 3 (by omega)
    have h4 : nmQ (LstS.mk 8 (fS fun i => List.map AC.v ((fun i => [Value.int .u8 (f i)]) (32 + i))) []) = true := hq 4 (by omega)
    have h5 : nmQ (LstS.mk 8 (fS fun i => List.map AC.v ((fun i => [Value.int .u8 (f i)]) (40 + i))) []) = true := hq 5 (by omega)
    have h6 : nmQ (LstS.mk 8 (fS fun i => List.map AC.v ((fun i => [Value.int .u8 (f i)]) (48 + i))) []) = true := hq 6 (by omega)
    have h7 : nmQ (LstS.mk 8 (fS fun i => List.map AC.v ((fun i => [Value.int .u8 (f i)]) (56 + i))) []) = true := hq 7 (by omega)
    have h8 : nmQ (LstS.mk 8 (fS fun i => List.map AC.v ((fun i => [Value.int .u8 (f i)]) (64 + i))) []) = true := hq 8 (by omega)
    have h9 : nmQ (LstS.mk 8 (fS fun i => List.map AC.v ((fun i => [Value.int .u8 (f i)]) (72 + i))) []) = true := hq 9 (by omega)
    have h10 : nmQ (LstS.mk 8 (fS fun i => List.map AC.v ((fun i => [Value.int .u8 (f i)]) (80 + i))) []) = true := hq 10 (by omega)
    have h11 : nmQ (LstS.mk 8 (fS fun i => List.map AC.v ((fun i => [Value.int .u8 (f i)]) (88 + i))) []) = true := hq 11 (by omega)
    have h12 : nmQ (LstS.mk 8 (fS fun i => List.map AC.v ((fun i => [Value.int .u8 (f i)]) (96 + i))) []) = true := hq 12 (by omega)
    have h13 : nmQ (LstS.mk 8 (fS fun i => List.map AC.v ((fun i => [Value.int .u8 (f i)]) (104 + i))) []) = true := hq 13 (by omega)
    repeat (refine List.forall_mem_cons.2 ⟨by first | exact rfl | assumption, ?_⟩)
    exact fun _ h => (by cases h)
end Go.Proofs.YtoelekmbmghicaaGreatDoor
end
/- frames.Read as the evaluator runs it. -/
section
namespace Go.Proofs.YtoelekmbmghicaaGreatDoor
open Go.RowKit
def EEt (P : Program) : Env := ⟨P, [(35, ctRd symRd (fun _ => bo true) whQ), (36, ctBytes), (69, ctRd (pureRd [] rfl) mayX mayQ)]⟩
theorem hEEt : EnvOk (EEt Tryz.prog) := by
 refine envOk (fun f g h => ?_) (by kernel_rfl) (by kernel_rfl)
 simp only [EEt, List.mem_cons, Prod.mk.injEq, List.not_mem_nil, or_false] at h
 rcases h with ⟨rfl, rfl⟩ | ⟨rfl, rfl⟩ | ⟨rfl, rfl⟩
 · exact ct_whole
 · exact ct_bytes
 · exact ct_may5
def etF (P : Program) (ids : List Nat) (f : Nat → Int) (path : List Dec) (lp : List (Option LSum)) : Option VF := viewF ids (fCallF (EEt P) (fC (EEt P) 300) 15 [.c (.sl 0 0 0 114 none)] 1000 10000000000000000000000000000000000000000 (stA [(0, rwB 114 f)] path lp))
theorem etT (f b : Nat → Int) (K : EtK) (Q : VF → Prop) (H : let zz0 := (ABlk.mk true true 5 1 (Cs.arr 14 fun k => List.map AC.v ((fun i => [Value.int IntKind.u8 (numK (LstS.f (LstS.mk 112 (fS fun i => (fun i => List.map AC.v ((fun i => [Value.int IntKind.u8 (f i)]) (0 + Int.toNat (Option.getD none 0) + i))) (0 + i)) [])) i)]) k))); let zz1 := (ABlk.mk true false 56 0 (Cs.lit [AC.v (Value.int IntKind.i64 (Int.ofNat 0)), AC.v (Value.int IntKind.u8 (Int.ofNat 0)), AC.v (Value.int IntKind.u8 (Int.ofNat 0)), AC.v (Value.int IntKind.u32 (Int.ofNat 0)), AC.v (Value.int IntKind.u32 (Int.ofNat 0))])); let zt : List Bool → List Bool := fun l => true :: true :: true :: true :: true :: true :: true :: true :: l; let zu : List Bool → List Bool := fun l => zt (zt (zt (zt l))); Q (.tup [.agg [.v (.int .i64 (IntKind.wrap .i64 (Int.tmod (EtK.h K 0) (Int.ofNat 16)))), .v (.int .u8 (IntKind.wrap .u8 (Int.tdiv (EtK.h K 0) (Int.ofNat 16)))), .v (.int .u8 (EtK.h K 1)), .v (.int .u32 (IntKind.wrap .u32 ↑(BitVec.toNat (BitVec.ofInt (IntKind.bits .u32) (IntKind.wrap .u32 (IntKind.wrap .u32 ↑(BitVec.toNat (BitVec.ofInt (IntKind.bits .u32) (IntKind.wrap .u32 (IntKind.wrap .u32 ↑(BitVec.toNat (BitVec.ofInt (IntKind.bits .u32) (IntKind.wrap .u32 (IntKind.wrap .u32 ↑(BitVec.toNat (BitVec.ofInt (IntKind.bits .u32) (Int.ofNat 0) ||| BitVec.ofInt (IntKind.bits .u32) (IntKind.wrap .u32 (EtK.h K 2)))) * Int.ofNat 256)) ||| BitVec.ofInt (IntKind.bits .u32) (IntKind.wrap .u32 (EtK.h K 3)))) * Int.ofNat 256)) ||| BitVec.ofInt (IntKind.bits .u32) (IntKind.wrap .u32 (EtK.h K 4)))) * Int.ofNat 256)) ||| BitVec.ofInt (IntKind.bits .u32) (IntKind.wrap .u32 (EtK.h K 5)))))), .v (.int .u32 (IntKind.wrap .u32 ↑(BitVec.toNat (BitVec.ofInt (IntKind.bits .u32) (IntKind.wrap .u32 (IntKind.wrap .u32 ↑(BitVec.toNat (BitVec.ofInt (IntKind.bits .u32) (IntKind.wrap .u32 (IntKind.wrap .u32 ↑(BitVec.toNat (BitVec.ofInt (IntKind.bits .u32) (IntKind.wrap .u32 (IntKind.wrap .u32 ↑(BitVec.toNat (BitVec.ofInt (IntKind.bits .u32) (Int.ofNat 0) ||| BitVec.ofInt (IntKind.bits .u32) (IntKind.wrap .u32 (EtK.h K 6)))) * Int.ofNat 256)) ||| BitVec.ofInt (IntKind.bits .u32) (IntKind.wrap .u32 (EtK.h K 7)))) * Int.ofNat 256)) ||| BitVec.ofInt (IntKind.bits .u32) (IntKind.wrap .u32 (EtK.h K 8)))) * Int.ofNat 256)) ||| BitVec.ofInt (IntKind.bits .u32) (IntKind.wrap .u32 (EtK.h K 9))))))], .agg [.v (.bool (EtK.a K)), .v (.bool (EtK.b K))], .c (.v (.int .i64 (Int.ofNat 0)))], [], 1670000001000000000000000000000000000000142, (zu (true :: true :: (((!mayZ (IntKind.wrap .i64 (Int.tmod (EtK.h K 0) (Int.ofNat 16))) (IntKind.wrap .u8 (Int.tdiv (EtK.h K 0) (Int.ofNat 16)))) == false) :: (zu (zu (true :: true :: (((IntKind.wrap .u8 (IntKind.wrap .u32 ↑(BitVec.toNat (BitVec.ofInt (IntKind.bits .u32) (if IntKind.signed .u32 = true then -1 else IntKind.max .u32) ^^^ BitVec.ofInt (IntKind.bits .u32) ↑(BitVec.toNat (crOf (natF b) 10))))) != EtK.g K 13) == false) :: true :: true :: true :: true :: true :: true :: ((IntKind.wrap .u8 (Int.fdiv (IntKind.wrap .u32 ↑(BitVec.toNat (BitVec.ofInt (IntKind.bits .u32) (if IntKind.signed .u32 = true then -1 else IntKind.max .u32) ^^^ BitVec.ofInt (IntKind.bits .u32) ↑(BitVec.toNat (crOf (natF b) 10))))) (Int.ofNat 256)) != EtK.g K 12) == false) :: true :: true :: true :: true :: true :: true :: ((IntKind.wrap .u8 (Int.fdiv (IntKind.wrap .u32 ↑(BitVec.toNat (BitVec.ofInt (IntKind.bits .u32) (if IntKind.signed .u32 = true then -1 else IntKind.max .u32) ^^^ BitVec.ofInt (IntKind.bits .u32) ↑(BitVec.toNat (crOf (natF b) 10))))) (Int.ofNat 65536)) != EtK.g K 11) == false) :: true :: true :: true :: true :: true :: true :: ((IntKind.wrap .u8 (Int.fdiv (IntKind.wrap .u32 ↑(BitVec.toNat (BitVec.ofInt (IntKind.bits .u32) (if IntKind.signed .u32 = true then -1 else IntKind.max .u32) ^^^ BitVec.ofInt (IntKind.bits .u32) ↑(BitVec.toNat (crOf (natF b) 10))))) (Int.ofNat 16777216)) != EtK.g K 10) == false) :: true :: true :: true :: true :: true :: true :: ((b 9 != EtK.g K 9) == false) :: true :: true :: true :: true :: true :: true :: ((b 8 != EtK.g K 8) == false) :: true :: true :: true :: true :: true :: true :: ((b 7 != EtK.g K 7) == false) :: true :: true :: true :: true :: true :: true :: ((b 6 != EtK.g K 6) == false) :: true :: true :: true :: true :: true :: true :: ((b 5 != EtK.g K 5) == false) :: true :: true :: true :: true :: true :: true :: ((b 4 != EtK.g K 4) == false) :: true :: true :: true :: true :: true :: true :: ((b 3 != EtK.g K 3) == false) :: true :: true :: true :: true :: true :: true :: ((b 2 != EtK.g K 2) == false) :: true :: true :: true :: true :: true :: true :: ((b 1 != EtK.g K 1) == false) :: true :: true :: true :: true :: true :: true :: ((b 0 != EtK.g K 0) == false) :: (zu (zt (zt (true :: true :: true :: true :: true :: true :: ((byQ (LstS.mk 112 (fS fun i => (fun i => List.map AC.v ((fun i => [Value.int .u8 (f i)]) (0 + Int.toNat (Option.getD none 0) + i))) (0 + i)) [])) :: (zt (true :: true :: true :: true :: ((whQ (LstS.mk 114 (fS fun k => List.map AC.v ((fun i => [Value.int .u8 (f i)]) k)) [])) :: []))))))))))))))), [LoopV Tryz.prog (loopAt Tryz.prog 123 1) wfbH wfxI [some (.c (.ptr 100000000000000000000000000000000000001122 0 0)), some (.c (AC.mv 133 100000000000000000000000000000000000001122 0 0)), some (.c (.v (.int .i64 (Int.ofNat 1)))), some (.c (.v (.int .i64 (Int.ofNat 0)))), some (.c (.sl 100000000000000000000000000000000000001111 0 0 10 none)), some (.c (.v (.int .i64 (Int.ofNat 10)))), some (.c (.v (.int .i64 (Int.ofNat 0))))] [some (ABlk.mk true true 5 1 (Cs.arr 10 fun i => if i < 0 then if i < 0 then [] else List.map AC.v (Array.toList (Value.cells (Value.int .u8 0))) else elt (ABlk.mk true true 5 1 (Cs.arr 10 fun i => if i < 0 then [] else elt zz0 0 0 1 (i - 0))) 0 0 1 (i - 0))), some (ABlk.mk true false 182 0 (Cs.lit [.v (.int .u32 (Int.ofNat 4294967295))])), some zz0, some (ABlk.mk true true 5 1 (Cs.arr 10 fun i => if i < 0 then [] else elt zz0 0 0 1 (i - 0))), some zz1, some (ABlk.mk true false 58 0 (Cs.lit [.v (.bool (f 112 == Int.ofNat 2)), .v (.bool (f 113 == Int.ofNat 2))])), some zz1, some (ABlk.mk true false 58 0 (Cs.lit [.v (.bool false), .v (.bool false)]))] 29 100000000000000000000000000000000000001136 (mkFr 29 wfbO) (List.zip wfxI (wfxB K 10 b ↑(BitVec.toNat (crOf (natF b) 10)))) 100000001000000000000000000000000000000000 (Exit.exit 2) none])) :
 ∃ p r, etF Tryz.prog [] f p [none, none, none, wfbS K 10 b] = some r ∧ Q r :=
 ⟨pD 59 9420259610227019582871626238, _, by kernel_rfl, H⟩
end Go.Proofs.YtoelekmbmghicaaGreatDoor
end
/- Contract of frames.Read, of all symbols of a frame with a good tail. -/
section
namespace Go.Proofs.YtoelekmbmghicaaGreatDoor
open Go.RowKit
theorem num_or {x b : Nat} (hx : x < 16777216) (hb : b < 256) : BitVec.toNat (BitVec.ofNat 32 (x * 256) ||| BitVec.ofNat 32 b) = x * 256 + b := by
 rw [BitVec.toNat_or, BitVec.toNat_ofNat, BitVec.toNat_ofNat, Nat.mod_eq_of_lt (by omega), Nat.mod_eq_of_lt (by omega)]
 have := Nat.shiftLeft_add_eq_or_of_lt (i := 8) (b := b) (by omega) x
 rw [Nat.shiftLeft_eq] at this
 exact this.symm
def byS (x b : Int) : Int := IntKind.wrap .u32 ((BitVec.toNat (BitVec.ofInt (IntKind.bits .u32) (IntKind.wrap .u32 (x * Int.ofNat 256)) ||| BitVec.ofInt (IntKind.bits .u32) (IntKind.wrap .u32 b)) : Nat) : Int)
theorem byS_eq {x b : Int} (h0 : 0 ≤ x) (h1 : x < 16777216) (b0 : 0 ≤ b) (b1 : b < 256) : byS x b = x * 256 + b := by
 obtain ⟨n, rfl⟩ := Int.eq_ofNat_of_zero_le h0
 obtain ⟨k, rfl⟩ := Int.eq_ofNat_of_zero_le b0
 unfold byS
 rw [ww32 ((n : Int) * Int.ofNat 256), ww32 (k : Int), show (n : Int) * Int.ofNat 256 % 4294967296 = ((n * 256 : Nat) : Int) by simp; omega, show (k : Int) % 4294967296 = ((k : Nat) : Int) by omega]
 show IntKind.wrap .u32 ((BitVec.toNat (BitVec.ofInt 32 ((n * 256 : Nat) : Int) ||| BitVec.ofInt 32 (k : Int)) : Nat) : Int) = _
 rw [BitVec.ofInt_natCast, BitVec.ofInt_natCast, num_or (by omega) (by omega), ww32]
 omega
def by0 (b : Int) : Int := IntKind.wrap .u32 ((BitVec.toNat (BitVec.ofInt (IntKind.bits .u32) (Int.ofNat 0) ||| BitVec.ofInt (IntKind.bits .u32) (IntKind.wrap .u32 b)) : Nat) : Int)
theorem by0_eq {b : Int} (b0 : 0 ≤ b) (b1 : b < 256) : by0 b = b := by
 have := byS_eq (x := 0) (by omega) (by omega) b0 b1
 rw [Int.zero_mul, Int.zero_add] at this
 refine Eq.trans ?_ this
 unfold by0 byS
 rw [Int.zero_mul]
 rfl
def by4 (B : Nat → Int) (k : Nat) : Int := ((B k * 256 + B (k + 1)) * 256 + B (k + 2)) * 256 + B (k + 3)
theorem by4_eq {B : Nat → Int} {k : Nat} (h : ∀ i, k ≤ i → i < k + 4 → 0 ≤ B i ∧ B i < 256) : byS (byS (byS (by0 (B k)) (B (k + 1))) (B (k + 2))) (B (k + 3)) = by4 B k := by
 have h0 := h k (by omega) (by omega)
 have h1 := h (k + 1) (by omega) (by omega)
 have h2 := h (k + 2) (by omega) (by omega)
 have h3 := h (k + 3) (by omega) (by omega)
 have e1 := byS_eq (x := B k) (b := B (k + 1)) (by omega) (by omega) (by omega) (by omega)
 have e2 := byS_eq (x := B k * 256 + B (k + 1)) (b := B (k + 2)) (by omega) (by omega) (by omega) (by omega)
 have e3 := byS_eq (x := (B k * 256 + B (k + 1)) * 256 + B (k + 2)) (b := B (k + 3)) (by omega) (by omega) (by omega) (by omega)
 unfold by4
 rw [by0_eq (by omega) (by omega), e1, e2, e3]
theorem crOf_same {f g : Nat → Nat} : ∀ n, (∀ i, i < n → f i = g i) → crOf f n = crOf g n
 | 0, _ => rfl
 | n + 1, h => by
  show crAdd (crOf f n) (f n) = crAdd (crOf g n) (g n)
  rw [crOf_same n fun i hi => h i (by omega), h n (by omega)]
def etO (f : Nat → Int) : Int := numK f 0 % 16
def etK (f : Nat → Int) : Int := numK f 0 / 16
def etS (f : Nat → Int) : Int := numK f 1
def etN (f : Nat → Int) : Int := by4 (numK f) 2
def etV (f : Nat → Int) : Int := by4 (numK f) 6
def etG (s : LstS Int) : AV := .tup [.agg [.v (.int .i64 (etO s.f)), .v (.int .u8 (etK s.f)), .v (.int .u8 (etS s.f)), .v (.int .u32 (etN s.f)), .v (.int .u32 (etV s.f))], .agg [.v (.bool true), .v (.bool false)], i64 0]
def etQ (s : LstS Int) : Bool := decide (s.n = 114) && (fuG (syA (etO s.f) (etK s.f) (etS s.f) (etN s.f) (etV s.f)) && ((List.range 114).all (fun i => s.f i == fullF (etO s.f) (etK s.f) (etS s.f) (etN s.f) (etV s.f) i) && s.rest.isEmpty))
theorem fuG_ok {o k st q v : Int} (h : fuG (syA o k st q v) = true) : FrOkA o k st q v := by
 have hs : (mayZ o k && (decide (0 ≤ st ∧ st < 256) && (decide (0 ≤ q ∧ q < 4294967296) && decide (0 ≤ v ∧ v < 4294967296)))) = true := h
 simp only [Bool.and_eq_true, decide_eq_true_eq] at hs
 obtain ⟨hm, hst, hq, hv⟩ := hs
 have := hm
 unfold mayZ at this
 simp only [Bool.and_eq_true, decide_eq_true_eq, Bool.or_eq_true, beq_iff_eq] at this
 exact ⟨hm, this.1, this.2.1, this.2.2, hst, hq, hv⟩
theorem fullF_bit (o k st q v : Int) (i : Nat) : fullF o k st q v i = 1 ∨ fullF o k st q v i = 2 := by
 unfold fullF
 split
 · exact symZ_bit _ _
 · split
   · exact .inr rfl
   · exact .inl rfl
theorem numK_full {o k st q v : Int} (h : FrOkA o k st q v) {f : Nat → Int} (hf : ∀ i, i < 114 → f i = fullF o k st q v i) (i : Nat) (hi : i < 14) : numK f i = bytF o k st q v i := by
 obtain ⟨b0, b1⟩ := bytF_in h i
 refine Eq.trans ?_ (numF_symK (b := bytF o k st q v) (k := i) b0 b1)
 have e : ∀ j, j < 8 → f (8 * i + j) = symK (bytF o k st q v) (8 * i + j) := fun j hj => by
  rw [hf _ (by omega)]
  unfold fullF
  rw [if_pos (by omega)]
 unfold numK numF
 simp only [e 0 (by omega), e 1 (by omega), e 2 (by omega), e 3 (by omega), e 4 (by omega), e 5 (by omega), e 6 (by omega), e 7 (by omega)]
set_option maxRecDepth 100000 in
theorem ct_read : CtOk Tryz.prog 15 (ctRd symRw etG etQ) := by
 refine ctRd_ofE (E := EEt Tryz.prog) hEEt symRw (fuel := 300) (str := 10000000000000000000000000000000000000000) ⟨_, _, Tryz.func15, rfl⟩ (fun _ => rfl) fun s hs => ?_
 obtain ⟨n, f, rest⟩ := s
 simp only [etQ, Bool.and_eq_true, decide_eq_true_eq, List.isEmpty_iff] at hs
 obtain ⟨rfl, hg, hf, rfl⟩ := hs
 have hk := fuG_ok hg
 have hf : ∀ i, i < 114 → f i = fullF (etO f) (etK f) (etS f) (etN f) (etV f) i := fun i hi => by simpa using List.all_eq_true.1 hf i (List.mem_range.2 hi)
 have hb : ∀ i, i < 114 → f i = 1 ∨ f i = 2 := fun i hi => by rw [hf i hi]; exact fullF_bit ..
 have hB := numK_full hk hf
 have hr : ∀ i, i < 14 → 0 ≤ numK f i ∧ numK f i < 256 := fun i hi => by rw [hB i hi]; exact bytF_in hk i
 have hw : whQ (LstS.mk 114 (fS fun k => List.map AC.v ((fun i => [Value.int .u8 (f i)]) k)) []) = true := by
  unfold whQ
  rw [decide_eq_true (show 114 ≤ 1000 by omega), Bool.true_and, List.isEmpty_nil, Bool.and_true]
  refine List.all_eq_true.2 fun i hi => ?_
  have h := hb i (List.mem_range.1 hi)
  have e : (fS fun k => List.map AC.v ((fun i => [Value.int .u8 (f i)]) k)) i = f i := rfl
  simp only [e]
  simpa using h
 have hy : byQ (LstS.mk 112 (fS fun i => (fun i => List.map AC.v ((fun i => [Value.int .u8 (f i)]) (0 + Int.toNat (Option.getD none 0) + i))) (0 + i)) []) = true := by
  unfold byQ
  rw [decide_eq_true (show 112 = 112 from rfl), Bool.true_and, List.isEmpty_nil, Bool.and_true]
  refine List.all_eq_true.2 fun i hi => ?_
  have hi := List.mem_range.1 hi
  have h := hb i (by omega)
  have e : (fS fun i => (fun i => List.map AC.v ((fun i => [Value.int .u8 (f i)]) (0 + Int.toNat (Option.getD none 0) + i))) (0 + i)) i = f i := by
   show f (0 + 0 + (0 + i)) = f i
   congr 1; omega
  simp only [e]
  simpa using h
 obtain ⟨r0, r1⟩ := hr 0 (by omega)
 have ho : IntKind.wrap .i64 (Int.tmod (numK f 0) (Int.ofNat 16)) = etO f := by
  rw [Int.tmod_eq_emod_of_nonneg r0]
  exact wrap_nat _ (by simp; omega) (by simp; omega)
 have hkd : IntKind.wrap .u8 (Int.tdiv (numK f 0) (Int.ofNat 16)) = etK f := by
  rw [Int.tdiv_eq_ediv_of_nonneg r0, ww8]
  show numK f 0 / 16 % 256 = numK f 0 / 16
  omega
 have hsum : sumN (numK f) = sumN (bodF (etO f) (etK f) (etS f) (etN f) (etV f)) := by
  unfold sumN
  rw [crOf_same 10 fun i hi => ?_]
  show (numK f i).toNat = (bodF (etO f) (etK f) (etS f) (etN f) (etV f) i).toNat
  rw [hB i (by omega)]
  unfold bytF
  rw [if_pos hi]
 have h9 : (fS fun i => [AC.v (Value.int .u8 (f i))]) = f := rfl
 have p112 : (f 112 == Int.ofNat 2) = true := by rw [hf 112 (by omega)]; rfl
 have p113 : (f 113 == Int.ofNat 2) = false := by rw [hf 113 (by omega)]; rfl
 have s10 : (IntKind.wrap .u8 (Int.fdiv (sumN (numK f) : Int) (Int.ofNat 16777216)) != numK f 10) = false := by
  rw [hB 10 (by omega), hsum, ww8, fd_pos (by simp)]
  simp [bytF]
 have s11 : (IntKind.wrap .u8 (Int.fdiv (sumN (numK f) : Int) (Int.ofNat 65536)) != numK f 11) = false := by
  rw [hB 11 (by omega), hsum, ww8, fd_pos (by simp)]
  simp [bytF]
 have s12 : (IntKind.wrap .u8 (Int.fdiv (sumN (numK f) : Int) (Int.ofNat 256)) != numK f 12) = false := by
  rw [hB 12 (by omega), hsum, ww8, fd_pos (by simp)]
  simp [bytF]
 have s13 : (IntKind.wrap .u8 (sumN (numK f) : Int) != numK f 13) = false := by
  rw [hB 13 (by omega), hsum, ww8]
  simp [bytF]
 refine (?_ : (∃ p q, etF Tryz.prog [] f p [none, none, none, wfbS ⟨numK f, numK f, f 112 == Int.ofNat 2, f 113 == Int.ofNat 2⟩ 10 (numK f)] = some q ∧ GoodF (etG ⟨114, f, []⟩) q) → _) (etT f (numK f) ⟨numK f, numK f, f 112 == Int.ofNat 2, f 113 == Int.ofNat 2⟩ _ ?_)
 · rintro ⟨p, q, h1, h2⟩
   exact ⟨p, _, q, h1, h2⟩
 · simp only [sum_pr, ho, hkd, s10, s11, s12, s13, hw, hy, hk.may, p112, p113, bne_self_eq_false]
   refine ⟨?_, (by first | (unfold lim; omega) | (dsimp only; unfold lim; omega)), ?_, fun z hz => ?_⟩
   · have e2 := by4_eq (B := numK f) (k := 2) fun i _ hi => hr i (by omega)
     have e6 := by4_eq (B := numK f) (k := 6) fun i _ hi => hr i (by omega)
     show AV.tup [.agg [.v (.int .i64 (etO f)), .v (.int .u8 (etK f)), .v (.int .u8 (numK f 1)), .v (.int .u32 (byS (byS (byS (by0 (numK f 2)) (numK f 3)) (numK f 4)) (numK f 5))), .v (.int .u32 (byS (byS (byS (by0 (numK f 6)) (numK f 7)) (numK f 8)) (numK f 9)))], .agg [.v (.bool true), .v (.bool false)], i64 0] = _
     rw [e2, e6]
     rfl
   · repeat (refine List.forall_mem_cons.2 ⟨rfl, ?_⟩)
     exact fun _ h => (by cases h)
   · rw [List.mem_singleton.1 hz]
     refine wfb_sum ⟨numK f, numK f, true, false⟩ 10 (numK f) (by omega) (fun i hi => hr i (by omega)) ⟨⟨rfl, rfl, rfl, rfl, .inr (.inl ⟨_, _, _, rfl, rfl, fun i hi => ?_⟩)⟩, BEq.refl _, ⟨rfl, rfl, rfl, rfl, .inr (.inl ⟨_, _, _, rfl, rfl, fun i hi => ?_⟩)⟩, ⟨rfl, rfl, rfl, rfl, .inr (.inl ⟨_, _, _, rfl, rfl, fun i hi => ?_⟩)⟩, BEq.refl _, BEq.refl _, BEq.refl _, BEq.refl _, trivial⟩
     all_goals
      simp [elt, h9]
end Go.Proofs.YtoelekmbmghicaaGreatDoor
end
/- SendersBoth: what it calls. -/
section
namespace Go.Proofs.YtoelekmbmghicaaGreatDoor
open Go.RowKit
def ctsNb : List (FuncId × CtF) := (21, ctSyms0) :: (12, ctNet1 headN) :: (13, ctNet1 partnerN) :: (15, ctRd symRw etG etQ) :: ctsNs
theorem ctsNb_ok : ∀ f g, (f, g) ∈ ctsNb → CtOk Tryz.prog f g := by
 intro f g h
 rcases List.mem_cons.1 h with h | h
 · cases h; exact ct_syms0
 rcases List.mem_cons.1 h with h | h
 · cases h; exact ct_first
 rcases List.mem_cons.1 h with h | h
 · cases h; exact ct_partner
 rcases List.mem_cons.1 h with h | h
 · cases h; exact ct_read
 exact ctsNs_ok f g h
abbrev nbA (y : Int) (p : Payload) : List AV := [.c (.v (.int .u8 y)), .agg (p.cells.map .v)]
end Go.Proofs.YtoelekmbmghicaaGreatDoor
end
/- SendersBoth: its loop's rounds as the evaluator runs them. -/
section
namespace Go.Proofs.YtoelekmbmghicaaGreatDoor
open Go.RowKit
abbrev vb0 : Nat := 260000000000000000000000000000000000000091
abbrev vbG1 : Nat := 260000000000000000000000000000000000000100
abbrev vbG2 : Nat := 260000000000000000000000000000000000000101
abbrev vbS1 : Nat := 70000000000000000000000000000000000000097
abbrev vbB1 : Nat := 70000003000000000000000000000000000000135
abbrev vbL1 : Nat := 70000003000000000000000000000000000000131
abbrev vbS2 : Nat := 200000000000000000000000000000000000000097
abbrev vbB2 : Nat := 200000003000000000000000000000000000000135
abbrev vbL2 : Nat := 200000003000000000000000000000000000000131
abbrev vbX1 : Nat := 1960000000000000000000000000000000000000111
abbrev vbY2 : Nat := 1960000000000000000000000000000000000000118
abbrev vbY3 : Nat := 1960000000000000000000000000000000000000113
abbrev vbH : List Nat := [3, 5, 8, 11, 13, 15, 16, 17]
abbrev vbI : List Nat := [gid 1, gid 0, 10, 11, vbS1, vbB1, vbL1, vbS2, vbB2, vbL2]
abbrev vbV (o : Int) (a b k : Nat) : List AV := [.c (.ptr 10 0 0), .c (.ptr 11 0 0), i64 o, .c (.ptr vbS1 0 0), .c (.ptr vbS2 0 0), .c (.sl vbG1 0 0 a none), .c (.sl vbG2 0 0 b none), i64 (Int.ofNat k)]
abbrev vbW (p b : Int) : List Value := [.int .u8 (wR p), .int .i64 (wP p), .int .i64 b, .int .i64 (b + 114)]
abbrev vbSn (p q : Int) (b : Nat) (pa : Payload) : ABlk := ⟨true, false, 76, 0, .lit ((vbW p (1 + p) ++ vbW q (1 + q) ++ pa.cells ++ [Value.bool true]).map .v ++ [.fn 26 [(b, 0, 0)]])⟩
abbrev vbBx (l : Nat) : ABlk := ⟨true, false, 46, 0, .lit [.sl l 0 0 114 (some 114)]⟩
abbrev vbF (o : Int) (pa : Payload) : Nat → Int := fullF o pa.kind pa.st pa.seq pa.val
abbrev vbK (c : Cfg) (o : Int) (pa : Payload) : List ABlk := [signB, rolesB, cfgB c, oBlk 30 pa.cells, vbSn 0 1 vbB1 pa, vbBx vbL1, symW 114 (vbF o pa), vbSn 1 0 vbB2 pa, vbBx vbL2, symW 114 (vbF o pa)]
def vbR (P : Program) (err : Cfg → Int) (ids : List Nat) (c : Cfg) (o : Int) (pa : Payload) (a b k : Nat) (path : List Dec) : Option VC :=
 view vbH (ids ++ vbI) (fC (ENl0 P err ctsNb) 100 (loopAt P 4 0) 1000000000000000000000000000000000000000000 10000000000000000000000000000000000000000 (stH 228 vbH ([vbG1, vbG2] ++ vbI) (vbV o a b k) ([symW a (vbF o pa), symW b (vbF o pa)] ++ vbK c o pa) path []))
theorem vbTA (err : Cfg → Int) (c : Cfg) (o : Int) (pa : Payload) (a b k : Nat) (Q : VC → Prop) (H : let zz0 := (IntKind.wrap IntKind.i64 (Int.ofNat k + Int.ofNat 1)); let zz1 := (Cs.arr 114 fun k => List.map AC.v ((fun i => [Value.int IntKind.u8 (vbF o pa i)]) k)); let zt : List Bool → List Bool := fun l => true :: true :: true :: true :: true :: true :: true :: true :: l; let zu : List Bool → List Bool := fun l => zt (zt (zt (zt l))); Q (Exit.normal, [some (lkA (List.zip vbH (vbV o a b k)) 3), some (lkA (List.zip vbH (vbV o a b k)) 5), some (lkA (List.zip vbH (vbV o a b k)) 8), some (lkA (List.zip vbH (vbV o a b k)) 11), some (lkA (List.zip vbH (vbV o a b k)) 13), some (lkA (List.zip vbH (vbV o a b k)) 15), some (lkA (List.zip vbH (vbV o a b k)) 16), some (.c (.v (.int .i64 zz0)))], [some (ABlk.mk true true 49 1 (Cs.arr a fun k => List.map AC.v ((fun i => [Value.int .u8 (vbF o pa i)]) k))), some (ABlk.mk true true 49 1 (Cs.arr b fun k => List.map AC.v ((fun i => [Value.int .u8 (vbF o pa i)]) k))), none, none, none, some (ABlk.mk false false 126 0 (Cs.lit [.v (.int .i64 (Int.ofNat 1)), .v (.int .i64 (Int.negSucc 0))])), some (ABlk.mk false false 115 0 (Cs.lit [.v (.int .u8 (Int.ofNat 1)), .v (.int .u8 (Int.ofNat 1)), .v (.int .u8 (Int.ofNat 2))])), some (ABlk.mk true false 25 0 (Cs.lit [.v (.int .i64 (c.nodes)), AC.sl 0 0 0 (c.np) none, AC.sl 1 0 0 (c.ns) none, .v (.int .i64 (c.long)), AC.sl 2 0 0 (c.nb) none, AC.sl 3 0 0 (c.nt) none, .v (.int .i64 (c.miss)), .v (.int .i64 (c.good)), .v (.int .i64 (c.fresh))])), some (ABlk.mk true false 30 0 (Cs.lit [.v (.int .u8 (Payload.kind pa)), .v (.int .u8 (Payload.st pa)), .v (.int .u32 (Payload.seq pa)), .v (.int .u32 (Payload.val pa))])), some (ABlk.mk true false 76 0 (Cs.lit [.v (.int .u8 (Int.ofNat 1)), .v (.int .i64 (Int.ofNat 0)), .v (.int .i64 (Int.ofNat 1)), .v (.int .i64 (Int.ofNat 115)), .v (.int .u8 (Int.ofNat 1)), .v (.int .i64 (Int.ofNat 1)), .v (.int .i64 (Int.ofNat 2)), .v (.int .i64 (Int.ofNat 116)), .v (.int .u8 (Payload.kind pa)), .v (.int .u8 (Payload.st pa)), .v (.int .u32 (Payload.seq pa)), .v (.int .u32 (Payload.val pa)), .v (.bool true), AC.fn 26 [(70000003000000000000000000000000000000135, 0, 0)]])), some (ABlk.mk true false 46 0 (Cs.lit [AC.sl 70000003000000000000000000000000000000131 0 0 114 (some 114)])), some (ABlk.mk true true 49 1 zz1), some (ABlk.mk true false 76 0 (Cs.lit [.v (.int .u8 (Int.ofNat 1)), .v (.int .i64 (Int.ofNat 1)), .v (.int .i64 (Int.ofNat 2)), .v (.int .i64 (Int.ofNat 116)), .v (.int .u8 (Int.ofNat 1)), .v (.int .i64 (Int.ofNat 0)), .v (.int .i64 (Int.ofNat 1)), .v (.int .i64 (Int.ofNat 115)), .v (.int .u8 (Payload.kind pa)), .v (.int .u8 (Payload.st pa)), .v (.int .u32 (Payload.seq pa)), .v (.int .u32 (Payload.val pa)), .v (.bool true), AC.fn 26 [(200000003000000000000000000000000000000135, 0, 0)]])), some (ABlk.mk true false 46 0 (Cs.lit [AC.sl 200000003000000000000000000000000000000131 0 0 114 (some 114)])), some (ABlk.mk true true 49 1 zz1)], 228, 1960000000000000000000000000000000000000135, (((Int.ofNat k == Int.ofNat 0) == true) :: ((Int.ofNat k == Int.ofNat 2) == false) :: ((Int.ofNat k == Int.ofNat 1) == false) :: ((!atB (Int.ofNat 2) (Int.ofNat 116) zz0) == true) :: (zt (true :: true :: true :: true :: true :: true :: ((ABlk.inb (ABlk.mk false true 49 1 zz1) (0 + Int.toNat (atI (Int.ofNat 1) (Int.ofNat 115) zz0)) 1) :: true :: (decide (Int.ofNat 0 ≤ atI (Int.ofNat 1) (Int.ofNat 115) zz0 ∧ atI (Int.ofNat 1) (Int.ofNat 115) zz0 < Int.ofNat 114)) :: true :: ((!atB (Int.ofNat 1) (Int.ofNat 115) zz0) == false) :: (zu (true :: true :: true :: true :: true :: true :: true :: ((ABlk.inb (ABlk.mk false true 49 1 zz1) (0 + Int.toNat (atI (Int.ofNat 1) (Int.ofNat 115) zz0)) 1) :: true :: (decide (Int.ofNat 0 ≤ atI (Int.ofNat 1) (Int.ofNat 115) zz0 ∧ atI (Int.ofNat 1) (Int.ofNat 115) zz0 < Int.ofNat 114)) :: true :: ((!atB (Int.ofNat 1) (Int.ofNat 115) zz0) == false) :: (zt (true :: true :: true :: true :: true :: true :: (((!atB (Int.ofNat 2) (Int.ofNat 116) zz0) == true) :: (zu (true :: true :: true :: true :: true :: true :: true :: (((!atB (Int.ofNat 1) (Int.ofNat 115) (Int.ofNat k)) == true) :: (zt (true :: true :: true :: true :: true :: true :: (((!atB (Int.ofNat 2) (Int.ofNat 116) (Int.ofNat k)) == true) :: (zu (true :: true :: true :: true :: true :: true :: true :: (((!atB (Int.ofNat 2) (Int.ofNat 116) (Int.ofNat k)) == true) :: (zt (true :: true :: true :: true :: true :: true :: (((!atB (Int.ofNat 1) (Int.ofNat 115) (Int.ofNat k)) == true) :: (zu (true :: true :: true :: true :: true :: true :: true :: ((decide (Int.ofNat k < c.long) == true) :: true :: true :: []))))))))))))))))))))))))), [])) :
 ∃ p r, vbR Tryz.prog err [vbG1, vbG2, vbX1, vbY2, vbY3] c o pa a b k p = some r ∧ Q r :=
 ⟨pD 68 42404081095758767169038836672, _, by kernel_rfl, H⟩
theorem vbTB (err : Cfg → Int) (c : Cfg) (o : Int) (pa : Payload) (a b k : Nat) (Q : VC → Prop) (H : let zz0 := (IntKind.wrap IntKind.i64 (Int.ofNat k + Int.ofNat 1)); let zz1 := (Cs.arr 114 fun k => List.map AC.v ((fun i => [Value.int IntKind.u8 (vbF o pa i)]) k)); let zz2 := (0 + Int.toNat (atI (Int.ofNat 1) (Int.ofNat 115) (Int.ofNat k))); let zt : List Bool → List Bool := fun l => true :: true :: true :: true :: true :: true :: true :: true :: l; let zu : List Bool → List Bool := fun l => zt (zt (zt (zt l))); Q (Exit.normal, [some (lkA (List.zip vbH (vbV o a b k)) 3), some (lkA (List.zip vbH (vbV o a b k)) 5), some (lkA (List.zip vbH (vbV o a b k)) 8), some (lkA (List.zip vbH (vbV o a b k)) 11), some (lkA (List.zip vbH (vbV o a b k)) 13), some (.c (.sl 1960000000000000000000000000000000000000111 0 0 (a + 1) none)), some (lkA (List.zip vbH (vbV o a b k)) 16), some (.c (.v (.int .i64 zz0)))], [none, some (ABlk.mk true true 49 1 (Cs.arr b fun k => List.map AC.v ((fun i => [Value.int .u8 (vbF o pa i)]) k))), some (ABlk.mk true true 49 1 (Cs.arr (a + 1) fun i => if i < a then List.map AC.v ((fun i => [Value.int .u8 (vbF o pa i)]) i) else elt (ABlk.mk true false 49 0 (Cs.lit [.v (.int .u8 (vbF o pa zz2))])) 0 0 1 (i - a))), none, none, some (ABlk.mk false false 126 0 (Cs.lit [.v (.int .i64 (Int.ofNat 1)), .v (.int .i64 (Int.negSucc 0))])), some (ABlk.mk false false 115 0 (Cs.lit [.v (.int .u8 (Int.ofNat 1)), .v (.int .u8 (Int.ofNat 1)), .v (.int .u8 (Int.ofNat 2))])), some (ABlk.mk true false 25 0 (Cs.lit [.v (.int .i64 (c.nodes)), AC.sl 0 0 0 (c.np) none, AC.sl 1 0 0 (c.ns) none, .v (.int .i64 (c.long)), AC.sl 2 0 0 (c.nb) none, AC.sl 3 0 0 (c.nt) none, .v (.int .i64 (c.miss)), .v (.int .i64 (c.good)), .v (.int .i64 (c.fresh))])), some (ABlk.mk true false 30 0 (Cs.lit [.v (.int .u8 (Payload.kind pa)), .v (.int .u8 (Payload.st pa)), .v (.int .u32 (Payload.seq pa)), .v (.int .u32 (Payload.val pa))])), some (ABlk.mk true false 76 0 (Cs.lit [.v (.int .u8 (Int.ofNat 1)), .v (.int .i64 (Int.ofNat 0)), .v (.int .i64 (Int.ofNat 1)), .v (.int .i64 (Int.ofNat 115)), .v (.int .u8 (Int.ofNat 1)), .v (.int .i64 (Int.ofNat 1)), .v (.int .i64 (Int.ofNat 2)), .v (.int .i64 (Int.ofNat 116)), .v (.int .u8 (Payload.kind pa)), .v (.int .u8 (Payload.st pa)), .v (.int .u32 (Payload.seq pa)), .v (.int .u32 (Payload.val pa)), .v (.bool true), AC.fn 26 [(70000003000000000000000000000000000000135, 0, 0)]])), some (ABlk.mk true false 46 0 (Cs.lit [AC.sl 70000003000000000000000000000000000000131 0 0 114 (some 114)])), some (ABlk.mk true true 49 1 zz1), some (ABlk.mk true false 76 0 (Cs.lit [.v (.int .u8 (Int.ofNat 1)), .v (.int .i64 (Int.ofNat 1)), .v (.int .i64 (Int.ofNat 2)), .v (.int .i64 (Int.ofNat 116)), .v (.int .u8 (Int.ofNat 1)), .v (.int .i64 (Int.ofNat 0)), .v (.int .i64 (Int.ofNat 1)), .v (.int .i64 (Int.ofNat 115)), .v (.int .u8 (Payload.kind pa)), .v (.int .u8 (Payload.st pa)), .v (.int .u32 (Payload.seq pa)), .v (.int .u32 (Payload.val pa)), .v (.bool true), AC.fn 26 [(200000003000000000000000000000000000000135, 0, 0)]])), some (ABlk.mk true false 46 0 (Cs.lit [AC.sl 200000003000000000000000000000000000000131 0 0 114 (some 114)])), some (ABlk.mk true true 49 1 zz1)], 228, 1960000000000000000000000000000000000000144, (((Int.ofNat k == Int.ofNat 0) == false) :: ((Int.ofNat k == Int.ofNat 2) == false) :: ((vbF o pa zz2 == Int.ofNat 0) == false) :: ((Int.ofNat k == Int.ofNat 1) == true) :: true :: true :: (decide (a ≤ a)) :: (decide ((a + 1) * 1 ≤ 140737488355328)) :: ((vbF o pa zz2 != Int.ofNat 0) == true) :: ((vbF o pa zz2 != vbF o pa (0 + Int.toNat (atI (Int.ofNat 2) (Int.ofNat 116) zz0))) == false) :: ((vbF o pa zz2 != vbF o pa (0 + Int.toNat (atI (Int.ofNat 2) (Int.ofNat 116) zz0))) == false) :: (ABlk.inb (ABlk.mk false true 49 1 zz1) (0 + Int.toNat (atI (Int.ofNat 2) (Int.ofNat 116) zz0)) 1) :: true :: (decide (Int.ofNat 0 ≤ atI (Int.ofNat 2) (Int.ofNat 116) zz0 ∧ atI (Int.ofNat 2) (Int.ofNat 116) zz0 < Int.ofNat 114)) :: true :: ((!atB (Int.ofNat 2) (Int.ofNat 116) zz0) == false) :: (zt (true :: true :: true :: true :: true :: true :: ((ABlk.inb (ABlk.mk false true 49 1 zz1) (0 + Int.toNat (atI (Int.ofNat 1) (Int.ofNat 115) zz0)) 1) :: true :: (decide (Int.ofNat 0 ≤ atI (Int.ofNat 1) (Int.ofNat 115) zz0 ∧ atI (Int.ofNat 1) (Int.ofNat 115) zz0 < Int.ofNat 114)) :: true :: ((!atB (Int.ofNat 1) (Int.ofNat 115) zz0) == false) :: (zu (true :: true :: true :: true :: true :: true :: true :: ((ABlk.inb (ABlk.mk false true 49 1 zz1) (0 + Int.toNat (atI (Int.ofNat 1) (Int.ofNat 115) zz0)) 1) :: true :: (decide (Int.ofNat 0 ≤ atI (Int.ofNat 1) (Int.ofNat 115) zz0 ∧ atI (Int.ofNat 1) (Int.ofNat 115) zz0 < Int.ofNat 114)) :: true :: ((!atB (Int.ofNat 1) (Int.ofNat 115) zz0) == false) :: (zt (true :: true :: true :: true :: true :: true :: ((ABlk.inb (ABlk.mk false true 49 1 zz1) (0 + Int.toNat (atI (Int.ofNat 2) (Int.ofNat 116) zz0)) 1) :: true :: (decide (Int.ofNat 0 ≤ atI (Int.ofNat 2) (Int.ofNat 116) zz0 ∧ atI (Int.ofNat 2) (Int.ofNat 116) zz0 < Int.ofNat 114)) :: true :: ((!atB (Int.ofNat 2) (Int.ofNat 116) zz0) == false) :: (zu (true :: true :: true :: true :: true :: true :: true :: ((ABlk.inb (ABlk.mk false true 49 1 zz1) zz2 1) :: true :: (decide (Int.ofNat 0 ≤ atI (Int.ofNat 1) (Int.ofNat 115) (Int.ofNat k) ∧ atI (Int.ofNat 1) (Int.ofNat 115) (Int.ofNat k) < Int.ofNat 114)) :: true :: ((!atB (Int.ofNat 1) (Int.ofNat 115) (Int.ofNat k)) == false) :: (zt (true :: true :: true :: true :: true :: true :: (((!atB (Int.ofNat 2) (Int.ofNat 116) (Int.ofNat k)) == true) :: (zu (true :: true :: true :: true :: true :: true :: true :: (((!atB (Int.ofNat 2) (Int.ofNat 116) (Int.ofNat k)) == true) :: (zt (true :: true :: true :: true :: true :: true :: ((ABlk.inb (ABlk.mk false true 49 1 zz1) zz2 1) :: true :: (decide (Int.ofNat 0 ≤ atI (Int.ofNat 1) (Int.ofNat 115) (Int.ofNat k) ∧ atI (Int.ofNat 1) (Int.ofNat 115) (Int.ofNat k) < Int.ofNat 114)) :: true :: ((!atB (Int.ofNat 1) (Int.ofNat 115) (Int.ofNat k)) == false) :: (zu (true :: true :: true :: true :: true :: true :: true :: ((decide (Int.ofNat k < c.long) == true) :: true :: true :: []))))))))))))))))))))))))), [])) :
 ∃ p r, vbR Tryz.prog err [vbG1, vbG2, vbX1, vbY2, vbY3] c o pa a b k p = some r ∧ Q r :=
 ⟨pD 70 6868414353967302064893353748055, _, by kernel_rfl, H⟩
theorem vbTC (err : Cfg → Int) (c : Cfg) (o : Int) (pa : Payload) (a b k : Nat) (Q : VC → Prop) (H : let zz0 := (IntKind.wrap IntKind.i64 (Int.ofNat k + Int.ofNat 1)); let zz1 := (ABlk.mk false true 49 1 (Cs.arr 114 fun k => List.map AC.v ((fun i => [Value.int IntKind.u8 (vbF o pa i)]) k))); let zz2 := (0 + Int.toNat (atI (Int.ofNat 1) (Int.ofNat 115) (Int.ofNat k))); let zz3 := (0 + Int.toNat (atI (Int.ofNat 2) (Int.ofNat 116) (Int.ofNat k))); let zt : List Bool → List Bool := fun l => true :: true :: true :: true :: true :: true :: true :: true :: l; let zu : List Bool → List Bool := fun l => zt (zt (zt (zt l))); Q (Exit.normal, [some (lkA (List.zip vbH (vbV o a b k)) 3), some (lkA (List.zip vbH (vbV o a b k)) 5), some (lkA (List.zip vbH (vbV o a b k)) 8), some (lkA (List.zip vbH (vbV o a b k)) 11), some (lkA (List.zip vbH (vbV o a b k)) 13), some (.c (.sl 1960000000000000000000000000000000000000111 0 0 (a + 1) none)), some (.c (.sl 1960000000000000000000000000000000000000118 0 0 (b + 1) none)), some (.c (.v (.int .i64 zz0)))], [none, none, some (ABlk.mk true true 49 1 (Cs.arr (a + 1) fun i => if i < a then List.map AC.v ((fun i => [Value.int .u8 (vbF o pa i)]) i) else elt (ABlk.mk true false 49 0 (Cs.lit [.v (.int .u8 (vbF o pa zz2))])) 0 0 1 (i - a))), some (ABlk.mk true true 49 1 (Cs.arr (b + 1) fun i => if i < b then List.map AC.v ((fun i => [Value.int .u8 (vbF o pa i)]) i) else elt (ABlk.mk true false 49 0 (Cs.lit [.v (.int .u8 (vbF o pa zz3))])) 0 0 1 (i - b))), none, some (ABlk.mk false false 126 0 (Cs.lit [.v (.int .i64 (Int.ofNat 1)), .v (.int .i64 (Int.negSucc 0))])), some (ABlk.mk false false 115 0 (Cs.lit [.v (.int .u8 (Int.ofNat 1)), .v (.int .u8 (Int.ofNat 1)), .v (.int .u8 (Int.ofNat 2))])), some (ABlk.mk true false 25 0 (Cs.lit [.v (.int .i64 (c.nodes)), AC.sl 0 0 0 (c.np) none, AC.sl 1 0 0 (c.ns) none, .v (.int .i64 (c.long)), AC.sl 2 0 0 (c.nb) none, AC.sl 3 0 0 (c.nt) none, .v (.int .i64 (c.miss)), .v (.int .i64 (c.good)), .v (.int .i64 (c.fresh))])), some (ABlk.mk true false 30 0 (Cs.lit [.v (.int .u8 (Payload.kind pa)), .v (.int .u8 (Payload.st pa)), .v (.int .u32 (Payload.seq pa)), .v (.int .u32 (Payload.val pa))])), some (ABlk.mk true false 76 0 (Cs.lit [.v (.int .u8 (Int.ofNat 1)), .v (.int .i64 (Int.ofNat 0)), .v (.int .i64 (Int.ofNat 1)), .v (.int .i64 (Int.ofNat 115)), .v (.int .u8 (Int.ofNat 1)), .v (.int .i64 (Int.ofNat 1)), .v (.int .i64 (Int.ofNat 2)), .v (.int .i64 (Int.ofNat 116)), .v (.int .u8 (Payload.kind pa)), .v (.int .u8 (Payload.st pa)), .v (.int .u32 (Payload.seq pa)), .v (.int .u32 (Payload.val pa)), .v (.bool true), AC.fn 26 [(70000003000000000000000000000000000000135, 0, 0)]])), some (ABlk.mk true false 46 0 (Cs.lit [AC.sl 70000003000000000000000000000000000000131 0 0 114 (some 114)])), some (ABlk.mk true true 49 1 (Cs.arr 114 fun k => List.map AC.v ((fun i => [Value.int .u8 (vbF o pa i)]) k))), some (ABlk.mk true false 76 0 (Cs.lit [.v (.int .u8 (Int.ofNat 1)), .v (.int .i64 (Int.ofNat 1)), .v (.int .i64 (Int.ofNat 2)), .v (.int .i64 (Int.ofNat 116)), .v (.int .u8 (Int.ofNat 1)), .v (.int .i64 (Int.ofNat 0)), .v (.int .i64 (Int.ofNat 1)), .v (.int .i64 (Int.ofNat 115)), .v (.int .u8 (Payload.kind pa)), .v (.int .u8 (Payload.st pa)), .v (.int .u32 (Payload.seq pa)), .v (.int .u32 (Payload.val pa)), .v (.bool true), AC.fn 26 [(200000003000000000000000000000000000000135, 0, 0)]])), some (ABlk.mk true false 46 0 (Cs.lit [AC.sl 200000003000000000000000000000000000000131 0 0 114 (some 114)])), some (ABlk.mk true true 49 1 (Cs.arr 114 fun k => List.map AC.v ((fun i => [Value.int .u8 (vbF o pa i)]) k)))], 228, 1960000000000000000000000000000000000000145, (((Int.ofNat k == Int.ofNat 0) == false) :: ((vbF o pa zz3 == Int.ofNat 0) == false) :: ((vbF o pa zz3 == Int.ofNat 0) == false) :: ((Int.ofNat k == Int.ofNat 2) == true) :: ((Int.ofNat k == Int.ofNat 1) == false) :: true :: true :: (decide (b ≤ b)) :: (decide ((b + 1) * 1 ≤ 140737488355328)) :: ((vbF o pa zz3 != Int.ofNat 0) == true) :: true :: true :: (decide (a ≤ a)) :: (decide ((a + 1) * 1 ≤ 140737488355328)) :: ((vbF o pa zz2 != Int.ofNat 0) == true) :: ((vbF o pa zz2 != vbF o pa (0 + Int.toNat (atI (Int.ofNat 2) (Int.ofNat 116) zz0))) == false) :: ((vbF o pa zz2 != vbF o pa (0 + Int.toNat (atI (Int.ofNat 2) (Int.ofNat 116) zz0))) == false) :: (ABlk.inb zz1 (0 + Int.toNat (atI (Int.ofNat 2) (Int.ofNat 116) zz0)) 1) :: true :: (decide (Int.ofNat 0 ≤ atI (Int.ofNat 2) (Int.ofNat 116) zz0 ∧ atI (Int.ofNat 2) (Int.ofNat 116) zz0 < Int.ofNat 114)) :: true :: ((!atB (Int.ofNat 2) (Int.ofNat 116) zz0) == false) :: (zt (true :: true :: true :: true :: true :: true :: ((ABlk.inb zz1 (0 + Int.toNat (atI (Int.ofNat 1) (Int.ofNat 115) zz0)) 1) :: true :: (decide (Int.ofNat 0 ≤ atI (Int.ofNat 1) (Int.ofNat 115) zz0 ∧ atI (Int.ofNat 1) (Int.ofNat 115) zz0 < Int.ofNat 114)) :: true :: ((!atB (Int.ofNat 1) (Int.ofNat 115) zz0) == false) :: (zu (true :: true :: true :: true :: true :: true :: true :: ((ABlk.inb zz1 (0 + Int.toNat (atI (Int.ofNat 1) (Int.ofNat 115) zz0)) 1) :: true :: (decide (Int.ofNat 0 ≤ atI (Int.ofNat 1) (Int.ofNat 115) zz0 ∧ atI (Int.ofNat 1) (Int.ofNat 115) zz0 < Int.ofNat 114)) :: true :: ((!atB (Int.ofNat 1) (Int.ofNat 115) zz0) == false) :: (zt (true :: true :: true :: true :: true :: true :: ((ABlk.inb zz1 (0 + Int.toNat (atI (Int.ofNat 2) (Int.ofNat 116) zz0)) 1) :: true :: (decide (Int.ofNat 0 ≤ atI (Int.ofNat 2) (Int.ofNat 116) zz0 ∧ atI (Int.ofNat 2) (Int.ofNat 116) zz0 < Int.ofNat 114)) :: true :: ((!atB (Int.ofNat 2) (Int.ofNat 116) zz0) == false) :: (zu (true :: true :: true :: true :: true :: true :: true :: ((ABlk.inb zz1 zz2 1) :: true :: (decide (Int.ofNat 0 ≤ atI (Int.ofNat 1) (Int.ofNat 115) (Int.ofNat k) ∧ atI (Int.ofNat 1) (Int.ofNat 115) (Int.ofNat k) < Int.ofNat 114)) :: true :: ((!atB (Int.ofNat 1) (Int.ofNat 115) (Int.ofNat k)) == false) :: (zt (true :: true :: true :: true :: true :: true :: ((ABlk.inb zz1 zz3 1) :: true :: (decide (Int.ofNat 0 ≤ atI (Int.ofNat 2) (Int.ofNat 116) (Int.ofNat k) ∧ atI (Int.ofNat 2) (Int.ofNat 116) (Int.ofNat k) < Int.ofNat 114)) :: true :: ((!atB (Int.ofNat 2) (Int.ofNat 116) (Int.ofNat k)) == false) :: (zu (true :: true :: true :: true :: true :: true :: true :: ((ABlk.inb zz1 zz3 1) :: true :: (decide (Int.ofNat 0 ≤ atI (Int.ofNat 2) (Int.ofNat 116) (Int.ofNat k) ∧ atI (Int.ofNat 2) (Int.ofNat 116) (Int.ofNat k) < Int.ofNat 114)) :: true :: ((!atB (Int.ofNat 2) (Int.ofNat 116) (Int.ofNat k)) == false) :: (zt (true :: true :: true :: true :: true :: true :: ((ABlk.inb zz1 zz2 1) :: true :: (decide (Int.ofNat 0 ≤ atI (Int.ofNat 1) (Int.ofNat 115) (Int.ofNat k) ∧ atI (Int.ofNat 1) (Int.ofNat 115) (Int.ofNat k) < Int.ofNat 114)) :: true :: ((!atB (Int.ofNat 1) (Int.ofNat 115) (Int.ofNat k)) == false) :: (zu (true :: true :: true :: true :: true :: true :: true :: ((decide (Int.ofNat k < c.long) == true) :: true :: true :: []))))))))))))))))))))))))), [])) :
 ∃ p r, vbR Tryz.prog err [vbG1, vbG2, vbX1, vbY2, vbY3] c o pa a b k p = some r ∧ Q r :=
 ⟨pD 68 791656981469298691022675644282, _, by kernel_rfl, H⟩
theorem vbTD (err : Cfg → Int) (c : Cfg) (o : Int) (pa : Payload) (a b k : Nat) (Q : VC → Prop) (H : let zz3 := (0 + Int.toNat (atI (Int.ofNat 1) (Int.ofNat 115) (Int.ofNat k))); let zz5 := (0 + Int.toNat (atI (Int.ofNat 2) (Int.ofNat 116) (Int.ofNat k))); let zz0 := [none, none, some (ABlk.mk true true 49 1 (Cs.arr (a + 1) fun i => if i < a then List.map AC.v ((fun i => [Value.int IntKind.u8 (vbF o pa i)]) i) else elt (ABlk.mk true false 49 0 (Cs.lit [AC.v (Value.int IntKind.u8 (vbF o pa zz3))])) 0 0 1 (i - a))), some (ABlk.mk true true 49 1 (Cs.arr (b + 1) fun i => if i < b then List.map AC.v ((fun i => [Value.int IntKind.u8 (vbF o pa i)]) i) else elt (ABlk.mk true false 49 0 (Cs.lit [AC.v (Value.int IntKind.u8 (vbF o pa zz5))])) 0 0 1 (i - b))), none, some (ABlk.mk false false 126 0 (Cs.lit [AC.v (Value.int IntKind.i64 (Int.ofNat 1)), AC.v (Value.int IntKind.i64 (Int.negSucc 0))])), some (ABlk.mk false false 115 0 (Cs.lit [AC.v (Value.int IntKind.u8 (Int.ofNat 1)), AC.v (Value.int IntKind.u8 (Int.ofNat 1)), AC.v (Value.int IntKind.u8 (Int.ofNat 2))])), some (ABlk.mk true false 25 0 (Cs.lit [AC.v (Value.int IntKind.i64 (Cfg.nodes c)), AC.sl 0 0 0 (Cfg.np c) none, AC.sl 1 0 0 (Cfg.ns c) none, AC.v (Value.int IntKind.i64 (Cfg.long c)), AC.sl 2 0 0 (Cfg.nb c) none, AC.sl 3 0 0 (Cfg.nt c) none, AC.v (Value.int IntKind.i64 (Cfg.miss c)), AC.v (Value.int IntKind.i64 (Cfg.good c)), AC.v (Value.int IntKind.i64 (Cfg.fresh c))])), some (ABlk.mk true false 30 0 (Cs.lit [AC.v (Value.int IntKind.u8 (Payload.kind pa)), AC.v (Value.int IntKind.u8 (Payload.st pa)), AC.v (Value.int IntKind.u32 (Payload.seq pa)), AC.v (Value.int IntKind.u32 (Payload.val pa))])), some (ABlk.mk true false 76 0 (Cs.lit [AC.v (Value.int IntKind.u8 (Int.ofNat 1)), AC.v (Value.int IntKind.i64 (Int.ofNat 0)), AC.v (Value.int IntKind.i64 (Int.ofNat 1)), AC.v (Value.int IntKind.i64 (Int.ofNat 115)), AC.v (Value.int IntKind.u8 (Int.ofNat 1)), AC.v (Value.int IntKind.i64 (Int.ofNat 1)), AC.v (Value.int IntKind.i64 (Int.ofNat 2)), AC.v (Value.int IntKind.i64 (Int.ofNat 116)), AC.v (Value.int IntKind.u8 (Payload.kind pa)), AC.v (Value.int IntKind.u8 (Payload.st pa)), AC.v (Value.int IntKind.u32 (Payload.seq pa)), AC.v (Value.int IntKind.u32 (Payload.val pa)), AC.v (Value.bool true), AC.fn 26 [(70000003000000000000000000000000000000135, 0, 0)]])), some (ABlk.mk true false 46 0 (Cs.lit [AC.sl 70000003000000000000000000000000000000131 0 0 114 (some 114)])), some (ABlk.mk true true 49 1 (Cs.arr 114 fun k => List.map AC.v ((fun i => [Value.int IntKind.u8 (vbF o pa i)]) k))), some (ABlk.mk true false 76 0 (Cs.lit [AC.v (Value.int IntKind.u8 (Int.ofNat 1)), AC.v (Value.int IntKind.i64 (Int.ofNat 1)), AC.v (Value.int IntKind.i64 (Int.ofNat 2)), AC.v (Value.int IntKind.i64 (Int.ofNat 116)), AC.v (Value.int IntKind.u8 (Int.ofNat 1)), AC.v (Value.int IntKind.i64 (Int.ofNat 0)), AC.v (Value.int IntKind.i64 (Int.ofNat 1)), AC.v (Value.int IntKind.i64 (Int.ofNat 115)), AC.v (Value.int IntKind.u8 (Payload.kind pa)), AC.v (Value.int IntKind.u8 (Payload.st pa)), AC.v (Value.int IntKind.u32 (Payload.seq pa)), AC.v (Value.int IntKind.u32 (Payload.val pa)), AC.v (Value.bool true), AC.fn 26 [(200000003000000000000000000000000000000135, 0, 0)]])), some (ABlk.mk true false 46 0 (Cs.lit [AC.sl 200000003000000000000000000000000000000131 0 0 114 (some 114)])), some (ABlk.mk true true 49 1 (Cs.arr 114 fun k => List.map AC.v ((fun i => [Value.int IntKind.u8 (vbF o pa i)]) k)))]; let zz1 := (IntKind.wrap IntKind.i64 (Int.ofNat k + Int.ofNat 1)); let zz2 := (ABlk.mk false true 49 1 (Cs.arr 114 fun k => List.map AC.v ((fun i => [Value.int IntKind.u8 (vbF o pa i)]) k))); let zz4 := [some (lkA (List.zip vbH (vbV o a b k)) 3), some (lkA (List.zip vbH (vbV o a b k)) 5), some (lkA (List.zip vbH (vbV o a b k)) 8), some (lkA (List.zip vbH (vbV o a b k)) 11), some (lkA (List.zip vbH (vbV o a b k)) 13), some (AV.c (AC.sl 1960000000000000000000000000000000000000111 0 0 (a + 1) none)), some (AV.c (AC.sl 1960000000000000000000000000000000000000118 0 0 (b + 1) none)), some (AV.c (AC.v (Value.int IntKind.i64 zz1)))]; let zz6 := (0 + Int.toNat (atI (Int.ofNat 2) (Int.ofNat 116) zz1)); let zt : List Bool → List Bool := fun l => true :: true :: true :: true :: true :: true :: true :: true :: l; let zu : List Bool → List Bool := fun l => zt (zt (zt (zt l))); let zq0 : List Bool := zt (true :: true :: true :: true :: true :: true :: ((ABlk.inb zz2 zz6 1) :: true :: (decide (Int.ofNat 0 ≤ atI (Int.ofNat 2) (Int.ofNat 116) zz1 ∧ atI (Int.ofNat 2) (Int.ofNat 116) zz1 < Int.ofNat 114)) :: true :: ((!atB (Int.ofNat 2) (Int.ofNat 116) zz1) == false) :: (zu (true :: true :: true :: true :: true :: true :: true :: ((ABlk.inb zz2 zz3 1) :: true :: (decide (Int.ofNat 0 ≤ atI (Int.ofNat 1) (Int.ofNat 115) (Int.ofNat k) ∧ atI (Int.ofNat 1) (Int.ofNat 115) (Int.ofNat k) < Int.ofNat 114)) :: true :: ((!atB (Int.ofNat 1) (Int.ofNat 115) (Int.ofNat k)) == false) :: (zt (true :: true :: true :: true :: true :: true :: ((ABlk.inb zz2 zz5 1) :: true :: (decide (Int.ofNat 0 ≤ atI (Int.ofNat 2) (Int.ofNat 116) (Int.ofNat k) ∧ atI (Int.ofNat 2) (Int.ofNat 116) (Int.ofNat k) < Int.ofNat 114)) :: true :: ((!atB (Int.ofNat 2) (Int.ofNat 116) (Int.ofNat k)) == false) :: (zu (true :: true :: true :: true :: true :: true :: true :: ((ABlk.inb zz2 zz5 1) :: true :: (decide (Int.ofNat 0 ≤ atI (Int.ofNat 2) (Int.ofNat 116) (Int.ofNat k) ∧ atI (Int.ofNat 2) (Int.ofNat 116) (Int.ofNat k) < Int.ofNat 114)) :: true :: ((!atB (Int.ofNat 2) (Int.ofNat 116) (Int.ofNat k)) == false) :: (zt (true :: true :: true :: true :: true :: true :: ((ABlk.inb zz2 zz3 1) :: true :: (decide (Int.ofNat 0 ≤ atI (Int.ofNat 1) (Int.ofNat 115) (Int.ofNat k) ∧ atI (Int.ofNat 1) (Int.ofNat 115) (Int.ofNat k) < Int.ofNat 114)) :: true :: ((!atB (Int.ofNat 1) (Int.ofNat 115) (Int.ofNat k)) == false) :: (zu (true :: true :: true :: true :: true :: true :: true :: ((decide (Int.ofNat k < c.long) == true) :: true :: true :: []))))))))))))))))); (((!atB (Int.ofNat 1) (Int.ofNat 115) zz1) = true → Q (Exit.normal, zz4, zz0, 228, 1960000000000000000000000000000000000000139, (((Int.ofNat k == Int.ofNat 0) == false) :: ((Int.ofNat k == Int.ofNat 2) == false) :: ((Int.ofNat k == Int.ofNat 1) == false) :: true :: true :: (decide (b ≤ b)) :: (decide ((b + 1) * 1 ≤ 140737488355328)) :: ((vbF o pa zz5 != Int.ofNat 0) == true) :: true :: true :: (decide (a ≤ a)) :: (decide ((a + 1) * 1 ≤ 140737488355328)) :: ((vbF o pa zz3 != Int.ofNat 0) == true) :: ((vbF o pa zz3 != vbF o pa zz6) == false) :: ((vbF o pa zz3 != vbF o pa zz6) == false) :: (ABlk.inb zz2 zz6 1) :: true :: (decide (Int.ofNat 0 ≤ atI (Int.ofNat 2) (Int.ofNat 116) zz1 ∧ atI (Int.ofNat 2) (Int.ofNat 116) zz1 < Int.ofNat 114)) :: true :: ((!atB (Int.ofNat 2) (Int.ofNat 116) zz1) == false) :: (zt (true :: true :: true :: true :: true :: true :: (((!atB (Int.ofNat 1) (Int.ofNat 115) zz1) == true) :: (zu (true :: true :: true :: true :: true :: true :: true :: (((!atB (Int.ofNat 1) (Int.ofNat 115) zz1) == true) :: zq0))))))), [])) ∧ ((!atB (Int.ofNat 1) (Int.ofNat 115) zz1) = false → Q (Exit.normal, zz4, zz0, 228, 1960000000000000000000000000000000000000139, (((Int.ofNat k == Int.ofNat 0) == false) :: ((Int.ofNat k == Int.ofNat 2) == false) :: ((Int.ofNat k == Int.ofNat 1) == false) :: true :: true :: (decide (b ≤ b)) :: (decide ((b + 1) * 1 ≤ 140737488355328)) :: ((vbF o pa zz5 != Int.ofNat 0) == true) :: true :: true :: (decide (a ≤ a)) :: (decide ((a + 1) * 1 ≤ 140737488355328)) :: ((vbF o pa zz3 != Int.ofNat 0) == true) :: ((vbF o pa zz3 != vbF o pa zz6) == false) :: ((vbF o pa zz3 != vbF o pa zz6) == false) :: (ABlk.inb zz2 zz6 1) :: true :: (decide (Int.ofNat 0 ≤ atI (Int.ofNat 2) (Int.ofNat 116) zz1 ∧ atI (Int.ofNat 2) (Int.ofNat 116) zz1 < Int.ofNat 114)) :: true :: ((!atB (Int.ofNat 2) (Int.ofNat 116) zz1) == false) :: (zt (true :: true :: true :: true :: true :: true :: ((ABlk.inb zz2 (0 + Int.toNat (atI (Int.ofNat 1) (Int.ofNat 115) zz1)) 1) :: true :: (decide (Int.ofNat 0 ≤ atI (Int.ofNat 1) (Int.ofNat 115) zz1 ∧ atI (Int.ofNat 1) (Int.ofNat 115) zz1 < Int.ofNat 114)) :: true :: ((!atB (Int.ofNat 1) (Int.ofNat 115) zz1) == false) :: (zu (true :: true :: true :: true :: true :: true :: true :: ((ABlk.inb zz2 (0 + Int.toNat (atI (Int.ofNat 1) (Int.ofNat 115) zz1)) 1) :: true :: (decide (Int.ofNat 0 ≤ atI (Int.ofNat 1) (Int.ofNat 115) zz1 ∧ atI (Int.ofNat 1) (Int.ofNat 115) zz1 < Int.ofNat 114)) :: true :: ((!atB (Int.ofNat 1) (Int.ofNat 115) zz1) == false) :: zq0))))))), [])))) :
 ∃ p r, vbR Tryz.prog err [vbG1, vbG2, vbX1, vbY2, vbY3] c o pa a b k p = some r ∧ Q r :=
 two H
 (fun g1 => ⟨pD 66 84795239542182912928895197465, _, by kernel_rfl, g1⟩)
 (fun g1 => ⟨pD 66 84795239542232952099591682159, _, by kernel_rfl, g1⟩)
theorem vbTE (err : Cfg → Int) (c : Cfg) (o : Int) (pa : Payload) (a b k : Nat) (Q : VC → Prop) (H : let zz0 := (Cs.arr 114 fun k => List.map AC.v ((fun i => [Value.int IntKind.u8 (vbF o pa i)]) k)); let zz1 := (IntKind.wrap IntKind.i64 (Int.ofNat k + Int.ofNat 1)); let zz2 := (0 + Int.toNat (atI (Int.ofNat 2) (Int.ofNat 116) (Int.ofNat k))); let zt : List Bool → List Bool := fun l => true :: true :: true :: true :: true :: true :: true :: true :: l; let zu : List Bool → List Bool := fun l => zt (zt (zt (zt l))); Q (Exit.normal, [some (lkA (List.zip vbH (vbV o a b k)) 3), some (lkA (List.zip vbH (vbV o a b k)) 5), some (lkA (List.zip vbH (vbV o a b k)) 8), some (lkA (List.zip vbH (vbV o a b k)) 11), some (lkA (List.zip vbH (vbV o a b k)) 13), some (lkA (List.zip vbH (vbV o a b k)) 15), some (.c (.sl 1960000000000000000000000000000000000000113 0 0 (b + 1) none)), some (.c (.v (.int .i64 zz1)))], [some (ABlk.mk true true 49 1 (Cs.arr a fun k => List.map AC.v ((fun i => [Value.int .u8 (vbF o pa i)]) k))), none, none, none, some (ABlk.mk true true 49 1 (Cs.arr (b + 1) fun i => if i < b then List.map AC.v ((fun i => [Value.int .u8 (vbF o pa i)]) i) else elt (ABlk.mk true false 49 0 (Cs.lit [.v (.int .u8 (vbF o pa zz2))])) 0 0 1 (i - b))), some (ABlk.mk false false 126 0 (Cs.lit [.v (.int .i64 (Int.ofNat 1)), .v (.int .i64 (Int.negSucc 0))])), some (ABlk.mk false false 115 0 (Cs.lit [.v (.int .u8 (Int.ofNat 1)), .v (.int .u8 (Int.ofNat 1)), .v (.int .u8 (Int.ofNat 2))])), some (ABlk.mk true false 25 0 (Cs.lit [.v (.int .i64 (c.nodes)), AC.sl 0 0 0 (c.np) none, AC.sl 1 0 0 (c.ns) none, .v (.int .i64 (c.long)), AC.sl 2 0 0 (c.nb) none, AC.sl 3 0 0 (c.nt) none, .v (.int .i64 (c.miss)), .v (.int .i64 (c.good)), .v (.int .i64 (c.fresh))])), some (ABlk.mk true false 30 0 (Cs.lit [.v (.int .u8 (Payload.kind pa)), .v (.int .u8 (Payload.st pa)), .v (.int .u32 (Payload.seq pa)), .v (.int .u32 (Payload.val pa))])), some (ABlk.mk true false 76 0 (Cs.lit [.v (.int .u8 (Int.ofNat 1)), .v (.int .i64 (Int.ofNat 0)), .v (.int .i64 (Int.ofNat 1)), .v (.int .i64 (Int.ofNat 115)), .v (.int .u8 (Int.ofNat 1)), .v (.int .i64 (Int.ofNat 1)), .v (.int .i64 (Int.ofNat 2)), .v (.int .i64 (Int.ofNat 116)), .v (.int .u8 (Payload.kind pa)), .v (.int .u8 (Payload.st pa)), .v (.int .u32 (Payload.seq pa)), .v (.int .u32 (Payload.val pa)), .v (.bool true), AC.fn 26 [(70000003000000000000000000000000000000135, 0, 0)]])), some (ABlk.mk true false 46 0 (Cs.lit [AC.sl 70000003000000000000000000000000000000131 0 0 114 (some 114)])), some (ABlk.mk true true 49 1 zz0), some (ABlk.mk true false 76 0 (Cs.lit [.v (.int .u8 (Int.ofNat 1)), .v (.int .i64 (Int.ofNat 1)), .v (.int .i64 (Int.ofNat 2)), .v (.int .i64 (Int.ofNat 116)), .v (.int .u8 (Int.ofNat 1)), .v (.int .i64 (Int.ofNat 0)), .v (.int .i64 (Int.ofNat 1)), .v (.int .i64 (Int.ofNat 115)), .v (.int .u8 (Payload.kind pa)), .v (.int .u8 (Payload.st pa)), .v (.int .u32 (Payload.seq pa)), .v (.int .u32 (Payload.val pa)), .v (.bool true), AC.fn 26 [(200000003000000000000000000000000000000135, 0, 0)]])), some (ABlk.mk true false 46 0 (Cs.lit [AC.sl 200000003000000000000000000000000000000131 0 0 114 (some 114)])), some (ABlk.mk true true 49 1 zz0)], 228, 1960000000000000000000000000000000000000134, (((Int.ofNat k == Int.ofNat 0) == false) :: ((Int.ofNat k == Int.ofNat 2) == false) :: ((Int.ofNat k == Int.ofNat 1) == false) :: true :: true :: (decide (b ≤ b)) :: (decide ((b + 1) * 1 ≤ 140737488355328)) :: ((vbF o pa zz2 != Int.ofNat 0) == true) :: ((!atB (Int.ofNat 2) (Int.ofNat 116) zz1) == true) :: (zt (true :: true :: true :: true :: true :: true :: (((!atB (Int.ofNat 1) (Int.ofNat 115) zz1) == true) :: (zu (true :: true :: true :: true :: true :: true :: true :: (((!atB (Int.ofNat 1) (Int.ofNat 115) zz1) == true) :: (zt (true :: true :: true :: true :: true :: true :: (((!atB (Int.ofNat 2) (Int.ofNat 116) zz1) == true) :: (zu (true :: true :: true :: true :: true :: true :: true :: (((!atB (Int.ofNat 1) (Int.ofNat 115) (Int.ofNat k)) == true) :: (zt (true :: true :: true :: true :: true :: true :: ((ABlk.inb (ABlk.mk false true 49 1 zz0) zz2 1) :: true :: (decide (Int.ofNat 0 ≤ atI (Int.ofNat 2) (Int.ofNat 116) (Int.ofNat k) ∧ atI (Int.ofNat 2) (Int.ofNat 116) (Int.ofNat k) < Int.ofNat 114)) :: true :: ((!atB (Int.ofNat 2) (Int.ofNat 116) (Int.ofNat k)) == false) :: (zu (true :: true :: true :: true :: true :: true :: true :: ((ABlk.inb (ABlk.mk false true 49 1 zz0) zz2 1) :: true :: (decide (Int.ofNat 0 ≤ atI (Int.ofNat 2) (Int.ofNat 116) (Int.ofNat k) ∧ atI (Int.ofNat 2) (Int.ofNat 116) (Int.ofNat k) < Int.ofNat 114)) :: true :: ((!atB (Int.ofNat 2) (Int.ofNat 116) (Int.ofNat k)) == false) :: (zt (true :: true :: true :: true :: true :: true :: (((!atB (Int.ofNat 1) (Int.ofNat 115) (Int.ofNat k)) == true) :: (zu (true :: true :: true :: true :: true :: true :: true :: ((decide (Int.ofNat k < c.long) == true) :: true :: true :: []))))))))))))))))))))))))), [])) :
 ∃ p r, vbR Tryz.prog err [vbG1, vbG2, vbX1, vbY2, vbY3] c o pa a b k p = some r ∧ Q r :=
 ⟨pD 66 84795239480343920644278304234, _, by kernel_rfl, H⟩
theorem vbTF (err : Cfg → Int) (c : Cfg) (o : Int) (pa : Payload) (a b k : Nat) (Q : VC → Prop) (H : let zz0 := (IntKind.wrap IntKind.i64 (Int.ofNat k + Int.ofNat 1)); let zt : List Bool → List Bool := fun l => true :: true :: true :: true :: true :: true :: true :: true :: l; let zu : List Bool → List Bool := fun l => zt (zt (zt (zt l))); Q (Exit.normal, [some (lkA (List.zip vbH (vbV o a b k)) 3), some (lkA (List.zip vbH (vbV o a b k)) 5), some (lkA (List.zip vbH (vbV o a b k)) 8), some (lkA (List.zip vbH (vbV o a b k)) 11), some (lkA (List.zip vbH (vbV o a b k)) 13), some (lkA (List.zip vbH (vbV o a b k)) 15), some (lkA (List.zip vbH (vbV o a b k)) 16), some (.c (.v (.int .i64 zz0)))], [some (ABlk.mk true true 49 1 (Cs.arr a fun k => List.map AC.v ((fun i => [Value.int .u8 (vbF o pa i)]) k))), some (ABlk.mk true true 49 1 (Cs.arr b fun k => List.map AC.v ((fun i => [Value.int .u8 (vbF o pa i)]) k))), none, none, none, some (ABlk.mk false false 126 0 (Cs.lit [.v (.int .i64 (Int.ofNat 1)), .v (.int .i64 (Int.negSucc 0))])), some (ABlk.mk false false 115 0 (Cs.lit [.v (.int .u8 (Int.ofNat 1)), .v (.int .u8 (Int.ofNat 1)), .v (.int .u8 (Int.ofNat 2))])), some (ABlk.mk true false 25 0 (Cs.lit [.v (.int .i64 (c.nodes)), AC.sl 0 0 0 (c.np) none, AC.sl 1 0 0 (c.ns) none, .v (.int .i64 (c.long)), AC.sl 2 0 0 (c.nb) none, AC.sl 3 0 0 (c.nt) none, .v (.int .i64 (c.miss)), .v (.int .i64 (c.good)), .v (.int .i64 (c.fresh))])), some (ABlk.mk true false 30 0 (Cs.lit [.v (.int .u8 (Payload.kind pa)), .v (.int .u8 (Payload.st pa)), .v (.int .u32 (Payload.seq pa)), .v (.int .u32 (Payload.val pa))])), some (ABlk.mk true false 76 0 (Cs.lit [.v (.int .u8 (Int.ofNat 1)), .v (.int .i64 (Int.ofNat 0)), .v (.int .i64 (Int.ofNat 1)), .v (.int .i64 (Int.ofNat 115)), .v (.int .u8 (Int.ofNat 1)), .v (.int .i64 (Int.ofNat 1)), .v (.int .i64 (Int.ofNat 2)), .v (.int .i64 (Int.ofNat 116)), .v (.int .u8 (Payload.kind pa)), .v (.int .u8 (Payload.st pa)), .v (.int .u32 (Payload.seq pa)), .v (.int .u32 (Payload.val pa)), .v (.bool true), AC.fn 26 [(70000003000000000000000000000000000000135, 0, 0)]])), some (ABlk.mk true false 46 0 (Cs.lit [AC.sl 70000003000000000000000000000000000000131 0 0 114 (some 114)])), some (ABlk.mk true true 49 1 (Cs.arr 114 fun k => List.map AC.v ((fun i => [Value.int .u8 (vbF o pa i)]) k))), some (ABlk.mk true false 76 0 (Cs.lit [.v (.int .u8 (Int.ofNat 1)), .v (.int .i64 (Int.ofNat 1)), .v (.int .i64 (Int.ofNat 2)), .v (.int .i64 (Int.ofNat 116)), .v (.int .u8 (Int.ofNat 1)), .v (.int .i64 (Int.ofNat 0)), .v (.int .i64 (Int.ofNat 1)), .v (.int .i64 (Int.ofNat 115)), .v (.int .u8 (Payload.kind pa)), .v (.int .u8 (Payload.st pa)), .v (.int .u32 (Payload.seq pa)), .v (.int .u32 (Payload.val pa)), .v (.bool true), AC.fn 26 [(200000003000000000000000000000000000000135, 0, 0)]])), some (ABlk.mk true false 46 0 (Cs.lit [AC.sl 200000003000000000000000000000000000000131 0 0 114 (some 114)])), some (ABlk.mk true true 49 1 (Cs.arr 114 fun k => List.map AC.v ((fun i => [Value.int .u8 (vbF o pa i)]) k)))], 228, 1960000000000000000000000000000000000000129, (((Int.ofNat k == Int.ofNat 0) == false) :: ((Int.ofNat k == Int.ofNat 2) == false) :: ((Int.ofNat k == Int.ofNat 1) == false) :: ((!atB (Int.ofNat 2) (Int.ofNat 116) zz0) == true) :: (zt (true :: true :: true :: true :: true :: true :: (((!atB (Int.ofNat 1) (Int.ofNat 115) zz0) == true) :: (zu (true :: true :: true :: true :: true :: true :: true :: (((!atB (Int.ofNat 1) (Int.ofNat 115) zz0) == true) :: (zt (true :: true :: true :: true :: true :: true :: (((!atB (Int.ofNat 2) (Int.ofNat 116) zz0) == true) :: (zu (true :: true :: true :: true :: true :: true :: true :: (((!atB (Int.ofNat 1) (Int.ofNat 115) (Int.ofNat k)) == true) :: (zt (true :: true :: true :: true :: true :: true :: (((!atB (Int.ofNat 2) (Int.ofNat 116) (Int.ofNat k)) == true) :: (zu (true :: true :: true :: true :: true :: true :: true :: (((!atB (Int.ofNat 2) (Int.ofNat 116) (Int.ofNat k)) == true) :: (zt (true :: true :: true :: true :: true :: true :: (((!atB (Int.ofNat 1) (Int.ofNat 115) (Int.ofNat k)) == true) :: (zu (true :: true :: true :: true :: true :: true :: true :: ((decide (Int.ofNat k < c.long) == true) :: true :: true :: []))))))))))))))))))))))))), [])) :
 ∃ p r, vbR Tryz.prog err [vbG1, vbG2, vbX1, vbY2, vbY3] c o pa a b k p = some r ∧ Q r :=
 ⟨pD 66 84795239370924931512636785179, _, by kernel_rfl, H⟩
theorem vbTX (err : Cfg → Int) (c : Cfg) (o : Int) (pa : Payload) (a b k : Nat) (Q : VC → Prop) (H : Q (Exit.exit 0, [some (lkA (List.zip vbH (vbV o a b k)) 3), some (lkA (List.zip vbH (vbV o a b k)) 5), some (lkA (List.zip vbH (vbV o a b k)) 8), some (lkA (List.zip vbH (vbV o a b k)) 11), some (lkA (List.zip vbH (vbV o a b k)) 13), some (lkA (List.zip vbH (vbV o a b k)) 15), some (lkA (List.zip vbH (vbV o a b k)) 16), some (lkA (List.zip vbH (vbV o a b k)) 17)], [some (ABlk.mk true true 49 1 (Cs.arr a fun k => List.map AC.v ((fun i => [Value.int .u8 (vbF o pa i)]) k))), some (ABlk.mk true true 49 1 (Cs.arr b fun k => List.map AC.v ((fun i => [Value.int .u8 (vbF o pa i)]) k))), none, none, none, some (ABlk.mk false false 126 0 (Cs.lit [.v (.int .i64 (Int.ofNat 1)), .v (.int .i64 (Int.negSucc 0))])), some (ABlk.mk false false 115 0 (Cs.lit [.v (.int .u8 (Int.ofNat 1)), .v (.int .u8 (Int.ofNat 1)), .v (.int .u8 (Int.ofNat 2))])), some (ABlk.mk true false 25 0 (Cs.lit [.v (.int .i64 (c.nodes)), AC.sl 0 0 0 (c.np) none, AC.sl 1 0 0 (c.ns) none, .v (.int .i64 (c.long)), AC.sl 2 0 0 (c.nb) none, AC.sl 3 0 0 (c.nt) none, .v (.int .i64 (c.miss)), .v (.int .i64 (c.good)), .v (.int .i64 (c.fresh))])), some (ABlk.mk true false 30 0 (Cs.lit [.v (.int .u8 (Payload.kind pa)), .v (.int .u8 (Payload.st pa)), .v (.int .u32 (Payload.seq pa)), .v (.int .u32 (Payload.val pa))])), some (ABlk.mk true false 76 0 (Cs.lit [.v (.int .u8 (Int.ofNat 1)), .v (.int .i64 (Int.ofNat 0)), .v (.int .i64 (Int.ofNat 1)), .v (.int .i64 (Int.ofNat 115)), .v (.int .u8 (Int.ofNat 1)), .v (.int .i64 (Int.ofNat 1)), .v (.int .i64 (Int.ofNat 2)), .v (.int .i64 (Int.ofNat 116)), .v (.int .u8 (Payload.kind pa)), .v (.int .u8 (Payload.st pa)), .v (.int .u32 (Payload.seq pa)), .v (.int .u32 (Payload.val pa)), .v (.bool true), AC.fn 26 [(70000003000000000000000000000000000000135, 0, 0)]])), some (ABlk.mk true false 46 0 (Cs.lit [AC.sl 70000003000000000000000000000000000000131 0 0 114 (some 114)])), some (ABlk.mk true true 49 1 (Cs.arr 114 fun k => List.map AC.v ((fun i => [Value.int .u8 (vbF o pa i)]) k))), some (ABlk.mk true false 76 0 (Cs.lit [.v (.int .u8 (Int.ofNat 1)), .v (.int .i64 (Int.ofNat 1)), .v (.int .i64 (Int.ofNat 2)), .v (.int .i64 (Int.ofNat 116)), .v (.int .u8 (Int.ofNat 1)), .v (.int .i64 (Int.ofNat 0)), .v (.int .i64 (Int.ofNat 1)), .v (.int .i64 (Int.ofNat 115)), .v (.int .u8 (Payload.kind pa)), .v (.int .u8 (Payload.st pa)), .v (.int .u32 (Payload.seq pa)), .v (.int .u32 (Payload.val pa)), .v (.bool true), AC.fn 26 [(200000003000000000000000000000000000000135, 0, 0)]])), some (ABlk.mk true false 46 0 (Cs.lit [AC.sl 200000003000000000000000000000000000000131 0 0 114 (some 114)])), some (ABlk.mk true true 49 1 (Cs.arr 114 fun k => List.map AC.v ((fun i => [Value.int .u8 (vbF o pa i)]) k)))], 228, 1000000000000000000000000000000000000000004, [decide (Int.ofNat k < c.long) == false, true, true], [])) :
 ∃ p r, vbR Tryz.prog err [vbG1, vbG2, vbX1, vbY2, vbY3] c o pa a b k p = some r ∧ Q r :=
 ⟨pD 1 2, _, by kernel_rfl, H⟩
end Go.Proofs.YtoelekmbmghicaaGreatDoor
end
/- SendersBoth: its loop's sum: both lists are the frame's symbols. -/
section
namespace Go.Proofs.YtoelekmbmghicaaGreatDoor
open Go.RowKit
def vbA (k : Nat) : Nat := min (k - 1) 114
def vbB (k : Nat) : Nat := min (k - 2) 114
theorem vbK_low (c : Cfg) (o : Int) (pa : Payload) : ∀ b ∈ vbK c o pa, lowB vb0 b := by
 intro b hb
 simp only [List.mem_cons, List.not_mem_nil, or_false] at hb
 rcases hb with rfl | rfl | rfl | rfl | rfl | rfl | rfl | rfl | rfl | rfl
 · exact low_lit rfl
 · exact low_lit rfl
 · exact cfgB_low (by decide)
 · exact low_lit rfl
 · exact low_lit rfl
 · exact low_lit rfl
 · exact wBlk_low
 · exact low_lit rfl
 · exact low_lit rfl
 · exact wBlk_low
theorem sym_snoc {m : Nat} {f : Nat → Int} {z : Int} {y : ABlk} (hy : y = ABlk.mk true true 49 1 (Cs.arr (m + 1) fun i => if i < m then List.map AC.v ((fun i => [Value.int IntKind.u8 (f i)]) i) else elt (ABlk.mk true false 49 0 (Cs.lit [AC.v (Value.int IntKind.u8 z)])) 0 0 1 (i - m))) (h2 : z = f m) : BEq y (symW (m + 1) f) := by
 subst hy
 refine ⟨rfl, rfl, rfl, rfl, .inr (.inl ⟨_, _, _, rfl, rfl, fun i hi => ?_⟩)⟩
 dsimp only
 by_cases h : i < m
 · rw [if_pos h]
 · obtain rfl : i = m := by omega
   rw [if_neg h, h2]; simp [elt]
theorem vb_ne (o : Int) (pa : Payload) (i : Nat) : (vbF o pa i != Int.ofNat 0) = true ∧ (vbF o pa i == Int.ofNat 0) = false := by
 have h : vbF o pa i = 1 ∨ vbF o pa i = 2 := fullF_bit ..
 rcases h with h | h <;> rw [h] <;> exact ⟨rfl, rfl⟩
theorem vb_n0 (o : Int) (pa : Payload) (i : Nat) : ¬ vbF o pa i = 0 := by simpa using (vb_ne o pa i).1
theorem vb_at {b k : Nat} (e : Int) (he : e = b + 114) : atB b e k = (decide (b ≤ k) && decide (k < b + 114)) := by
 subst he
 unfold atB
 congr 1 <;> (rw [decide_eq_decide]; omega)
theorem vb_ix {b k : Nat} (e : Int) (he : e = b + 114) (h1 : b ≤ k) (h2 : k < b + 114) : atI b e k = Int.ofNat (k - b) := by
 have h := vb_at (b := b) (k := k) e he
 rw [decide_eq_true h1, decide_eq_true h2, Bool.and_true] at h
 have : atI b e k = (k : Int) - b := by unfold atI; rw [if_pos h]
 rw [this]
 simp
 omega
theorem vb_e0 (n : Nat) : 0 + Int.toNat (Int.ofNat n) = n := by simp
def vbId (g : Nat) : Nat ⊕ Nat := .inl g
abbrev vbO (o : Int) : List (Nat × AV) := [(5, .c (.ptr 11 0 0)), (8, i64 o), (11, .c (.ptr vbS1 0 0)), (15, .c (.sl vbG1 0 0 114 none)), (16, .c (.sl vbG2 0 0 114 none))]
abbrev vbM (c : Cfg) (o : Int) (pa : Payload) : AMem := [vbG1, vbG2].zip [symW 114 (vbF o pa), symW 114 (vbF o pa)] ++ vbI.zip (vbK c o pa)
abbrev vbS (c : Cfg) (o : Int) (pa : Payload) : LSum := ⟨vbH, vbI, mkFr 228 (vbO o), vbM c o pa, 100000000000000000000000000000000000000000000000000, .exit 0⟩
abbrev vbQ (c : Cfg) (o : Int) (pa : Payload) (k : Nat) (r : VC) : Prop := StepM vb0 1000000000000000000000000000000000000000000 100000000000000000000000000000000000000000000000000 228 vbH ([vbG1, vbG2, vbX1, vbY2, vbY3] ++ vbI) [vbG1, vbG2] vbI (fun k => k ≤ c.long.toNat) (fun k => c.long.toNat - k) (fun k => vbV o (vbA k) (vbB k) k) (fun k => [symW (vbA k) (vbF o pa), symW (vbB k) (vbF o pa)]) (fun _ => vbK c o pa) (.exit 0) (vbO o) (vbM c o pa) k r
set_option maxRecDepth 100000 in
theorem vb_rA (c : Cfg) (o : Int) (pa : Payload) (l1 : 116 ≤ c.long) (l2 : c.long ≤ 100000) {k : Nat} (hlt : k < c.long.toNat) (hc : k = 0) : ∃ p lp r, view vbH ([vbG1, vbG2, vbX1, vbY2, vbY3] ++ vbI) (fC (ENl0 Tryz.prog cfgErr ctsNb) 100 (loopAt Tryz.prog 4 0) 1000000000000000000000000000000000000000000 10000000000000000000000000000000000000000 ⟨mkFr 228 (vbH.zip (vbV o (vbA k) (vbB k) k)), [vbG1, vbG2].zip [symW (vbA k) (vbF o pa), symW (vbB k) (vbF o pa)] ++ vbI.zip (vbK c o pa), 0, 0, false, p, [], [], [], none, lp⟩) = some r ∧ vbQ c o pa k r := by
 have hw : IntKind.wrap IntKind.i64 (Int.ofNat k + Int.ofNat 1) = Int.ofNat (k + 1) := fr_w1 (by omega)
 have d : decide (Int.ofNat k < c.long) = true := decide_eq_true (by simp; omega)
 have a0 : atB (Int.ofNat 1) (Int.ofNat 115) (Int.ofNat k) = false := (vb_at (b := 1) (k := k) (Int.ofNat 115) rfl).trans (by simp; omega)
 have a1 : atB (Int.ofNat 2) (Int.ofNat 116) (Int.ofNat k) = false := (vb_at (b := 2) (k := k) (Int.ofNat 116) rfl).trans (by simp; omega)
 have a2 : atB (Int.ofNat 2) (Int.ofNat 116) (Int.ofNat (k + 1)) = false := (vb_at (b := 2) (k := (k + 1)) (Int.ofNat 116) rfl).trans (by simp; omega)
 have a3 : atB (Int.ofNat 1) (Int.ofNat 115) (Int.ofNat (k + 1)) = true := (vb_at (b := 1) (k := (k + 1)) (Int.ofNat 115) rfl).trans (by simp; omega)
 have i3 : atI (Int.ofNat 1) (Int.ofNat 115) (Int.ofNat (k + 1)) = Int.ofNat (k) := (vb_ix (b := 1) (k := (k + 1)) (Int.ofNat 115) rfl (by omega) (by omega)).trans (congrArg Int.ofNat (by omega))
 have n0 : (Int.ofNat k == Int.ofNat 0) = true := by simp; omega
 have n1 : (Int.ofNat k == Int.ofNat 1) = false := by simp; omega
 have n2 : (Int.ofNat k == Int.ofNat 2) = false := by simp; omega
 have ea : vbA (k + 1) = vbA k := by unfold vbA; omega
 have eb : vbB (k + 1) = vbB k := by unfold vbB; omega
 have qa : vbA k ≤ 114 := by unfold vbA; omega
 have qb : vbB k ≤ 114 := by unfold vbB; omega
 refine (?_ : (∃ p r, vbR Tryz.prog cfgErr [vbG1, vbG2, vbX1, vbY2, vbY3] c o pa (vbA k) (vbB k) k p = some r ∧ _) → _) (vbTA cfgErr c o pa (vbA k) (vbB k) k (vbQ c o pa k) ?_)
 · rintro ⟨p, r, h1, h2⟩
   exact ⟨p, [], r, h1, h2⟩
 · simp only [hw, d, a0, a1, a2, a3, i3, vb_e0, n0, n1, n2]
   refine ⟨?_, (fun q hq => by cases hq), by dsimp only; omega, rfl, .inl ⟨rfl, k + 1, hlt, by show c.long.toNat - (k + 1) < c.long.toNat - k; omega, fun g => cond (Nat.beq g vbG1) (.inl vbG1) (.inl vbG2), ?_⟩⟩
   · simp only [allT, List.forall_mem_cons]
     simp [inb_arr, vb_n0, atQ_eq, smallB]
     try omega
   · dsimp only
     rw [ea, eb]
     refine mt_gen (A := [(vbG1, _), (vbG2, _), (vbX1, none), (vbY2, none), (vbY3, none)]) (kb := (vbK c o pa).map some) rfl (by kernel_rfl) ?_ ?_ (by kernel_rfl) (vbK_low c o pa) (BL.refl (vbK c o pa))
     · exact fr_cons (.head _) (fun h => (by cases h)) (GW_low rfl) (fr_cons (.tail _ (.head _)) (fun h => (by cases h)) (GW_low rfl) (fr_cons (.tail _ (.tail _ (.head _))) (fun h => (by cases h)) (GW_low rfl) (fr_cons (.tail _ (.tail _ (.tail _ (.head _)))) (fun h => (by cases h)) (GW_low rfl) (fr_cons (.tail _ (.tail _ (.tail _ (.tail _ (.head _))))) (fun h => (by cases h)) (GW_low rfl) (fr_cons (.tail _ (.tail _ (.tail _ (.tail _ (.tail _ (.head _)))))) (fun h => (by cases h)) (GW_sl (by decide) (by decide) (by decide) rfl) (fr_cons (.tail _ (.tail _ (.tail _ (.tail _ (.tail _ (.tail _ (.head _))))))) (fun h => (by cases h)) (GW_sl (by decide) (by decide) (by decide) rfl) (fr_cons (.tail _ (.tail _ (.tail _ (.tail _ (.tail _ (.tail _ (.tail _ (.head _)))))))) (fun h => (by cases h)) (GW_low rfl) fr_nil)))))))
     · exact me_cons (mv_new rfl rfl rfl (.head _) (BEq.refl _) wBlk_low) (me_cons (mv_new rfl rfl rfl (.tail _ (.head _)) (BEq.refl _) wBlk_low) me_nil)
set_option maxRecDepth 100000 in
theorem vb_rB (c : Cfg) (o : Int) (pa : Payload) (l1 : 116 ≤ c.long) (l2 : c.long ≤ 100000) {k : Nat} (hlt : k < c.long.toNat) (hc : k = 1) : ∃ p lp r, view vbH ([vbG1, vbG2, vbX1, vbY2, vbY3] ++ vbI) (fC (ENl0 Tryz.prog cfgErr ctsNb) 100 (loopAt Tryz.prog 4 0) 1000000000000000000000000000000000000000000 10000000000000000000000000000000000000000 ⟨mkFr 228 (vbH.zip (vbV o (vbA k) (vbB k) k)), [vbG1, vbG2].zip [symW (vbA k) (vbF o pa), symW (vbB k) (vbF o pa)] ++ vbI.zip (vbK c o pa), 0, 0, false, p, [], [], [], none, lp⟩) = some r ∧ vbQ c o pa k r := by
 have hw : IntKind.wrap IntKind.i64 (Int.ofNat k + Int.ofNat 1) = Int.ofNat (k + 1) := fr_w1 (by omega)
 have d : decide (Int.ofNat k < c.long) = true := decide_eq_true (by simp; omega)
 have a0 : atB (Int.ofNat 1) (Int.ofNat 115) (Int.ofNat k) = true := (vb_at (b := 1) (k := k) (Int.ofNat 115) rfl).trans (by simp; omega)
 have a1 : atB (Int.ofNat 2) (Int.ofNat 116) (Int.ofNat k) = false := (vb_at (b := 2) (k := k) (Int.ofNat 116) rfl).trans (by simp; omega)
 have a2 : atB (Int.ofNat 2) (Int.ofNat 116) (Int.ofNat (k + 1)) = true := (vb_at (b := 2) (k := (k + 1)) (Int.ofNat 116) rfl).trans (by simp; omega)
 have a3 : atB (Int.ofNat 1) (Int.ofNat 115) (Int.ofNat (k + 1)) = true := (vb_at (b := 1) (k := (k + 1)) (Int.ofNat 115) rfl).trans (by simp; omega)
 have i0 : atI (Int.ofNat 1) (Int.ofNat 115) (Int.ofNat k) = Int.ofNat (k - 1) := (vb_ix (b := 1) (k := k) (Int.ofNat 115) rfl (by omega) (by omega)).trans (congrArg Int.ofNat (by omega))
 have i2 : atI (Int.ofNat 2) (Int.ofNat 116) (Int.ofNat (k + 1)) = Int.ofNat (k - 1) := (vb_ix (b := 2) (k := (k + 1)) (Int.ofNat 116) rfl (by omega) (by omega)).trans (congrArg Int.ofNat (by omega))
 have i3 : atI (Int.ofNat 1) (Int.ofNat 115) (Int.ofNat (k + 1)) = Int.ofNat (k) := (vb_ix (b := 1) (k := (k + 1)) (Int.ofNat 115) rfl (by omega) (by omega)).trans (congrArg Int.ofNat (by omega))
 have n0 : (Int.ofNat k == Int.ofNat 0) = false := by simp; omega
 have n1 : (Int.ofNat k == Int.ofNat 1) = true := by simp; omega
 have n2 : (Int.ofNat k == Int.ofNat 2) = false := by simp; omega
 have ea : vbA (k + 1) = vbA k + 1 := by unfold vbA; omega
 have eb : vbB (k + 1) = vbB k := by unfold vbB; omega
 have hx : vbF o pa (k - 1) = vbF o pa (vbA k) := congrArg _ (by unfold vbA; omega)
 have qa : vbA k ≤ 114 := by unfold vbA; omega
 have qb : vbB k ≤ 114 := by unfold vbB; omega
 refine (?_ : (∃ p r, vbR Tryz.prog cfgErr [vbG1, vbG2, vbX1, vbY2, vbY3] c o pa (vbA k) (vbB k) k p = some r ∧ _) → _) (vbTB cfgErr c o pa (vbA k) (vbB k) k (vbQ c o pa k) ?_)
 · rintro ⟨p, r, h1, h2⟩
   exact ⟨p, [], r, h1, h2⟩
 · simp only [hw, d, a0, a1, a2, a3, i0, i2, i3, vb_e0, n0, n1, n2]
   refine ⟨?_, (fun q hq => by cases hq), by dsimp only; omega, rfl, .inl ⟨rfl, k + 1, hlt, by show c.long.toNat - (k + 1) < c.long.toNat - k; omega, fun g => cond (Nat.beq g vbG1) (.inl vbX1) (.inl vbG2), ?_⟩⟩
   · simp only [allT, List.forall_mem_cons]
     simp [inb_arr, vb_n0, atQ_eq, smallB]
     try omega
   · dsimp only
     rw [ea, eb]
     refine mt_gen (A := [(vbG1, none), (vbG2, _), (vbX1, _), (vbY2, none), (vbY3, none)]) (kb := (vbK c o pa).map some) rfl (by kernel_rfl) ?_ ?_ (by kernel_rfl) (vbK_low c o pa) (BL.refl (vbK c o pa))
     · exact fr_cons (.head _) (fun h => (by cases h)) (GW_low rfl) (fr_cons (.tail _ (.head _)) (fun h => (by cases h)) (GW_low rfl) (fr_cons (.tail _ (.tail _ (.head _))) (fun h => (by cases h)) (GW_low rfl) (fr_cons (.tail _ (.tail _ (.tail _ (.head _)))) (fun h => (by cases h)) (GW_low rfl) (fr_cons (.tail _ (.tail _ (.tail _ (.tail _ (.head _))))) (fun h => (by cases h)) (GW_low rfl) (fr_cons (.tail _ (.tail _ (.tail _ (.tail _ (.tail _ (.head _)))))) (fun h => (by cases h)) (GW_sl (by decide) (by decide) (by decide) rfl) (fr_cons (.tail _ (.tail _ (.tail _ (.tail _ (.tail _ (.tail _ (.head _))))))) (fun h => (by cases h)) (GW_sl (by decide) (by decide) (by decide) rfl) (fr_cons (.tail _ (.tail _ (.tail _ (.tail _ (.tail _ (.tail _ (.tail _ (.head _)))))))) (fun h => (by cases h)) (GW_low rfl) fr_nil)))))))
     · exact me_cons (mv_new rfl rfl rfl (.tail _ (.tail _ (.head _))) (sym_snoc rfl hx) wBlk_low) (me_cons (mv_new rfl rfl rfl (.tail _ (.head _)) (BEq.refl _) wBlk_low) me_nil)
set_option maxRecDepth 100000 in
theorem vb_rC (c : Cfg) (o : Int) (pa : Payload) (l1 : 116 ≤ c.long) (l2 : c.long ≤ 100000) {k : Nat} (hlt : k < c.long.toNat) (hc : k = 2) : ∃ p lp r, view vbH ([vbG1, vbG2, vbX1, vbY2, vbY3] ++ vbI) (fC (ENl0 Tryz.prog cfgErr ctsNb) 100 (loopAt Tryz.prog 4 0) 1000000000000000000000000000000000000000000 10000000000000000000000000000000000000000 ⟨mkFr 228 (vbH.zip (vbV o (vbA k) (vbB k) k)), [vbG1, vbG2].zip [symW (vbA k) (vbF o pa), symW (vbB k) (vbF o pa)] ++ vbI.zip (vbK c o pa), 0, 0, false, p, [], [], [], none, lp⟩) = some r ∧ vbQ c o pa k r := by
 have hw : IntKind.wrap IntKind.i64 (Int.ofNat k + Int.ofNat 1) = Int.ofNat (k + 1) := fr_w1 (by omega)
 have d : decide (Int.ofNat k < c.long) = true := decide_eq_true (by simp; omega)
 have a0 : atB (Int.ofNat 1) (Int.ofNat 115) (Int.ofNat k) = true := (vb_at (b := 1) (k := k) (Int.ofNat 115) rfl).trans (by simp; omega)
 have a1 : atB (Int.ofNat 2) (Int.ofNat 116) (Int.ofNat k) = true := (vb_at (b := 2) (k := k) (Int.ofNat 116) rfl).trans (by simp; omega)
 have a2 : atB (Int.ofNat 2) (Int.ofNat 116) (Int.ofNat (k + 1)) = true := (vb_at (b := 2) (k := (k + 1)) (Int.ofNat 116) rfl).trans (by simp; omega)
 have a3 : atB (Int.ofNat 1) (Int.ofNat 115) (Int.ofNat (k + 1)) = true := (vb_at (b := 1) (k := (k + 1)) (Int.ofNat 115) rfl).trans (by simp; omega)
 have i0 : atI (Int.ofNat 1) (Int.ofNat 115) (Int.ofNat k) = Int.ofNat (k - 1) := (vb_ix (b := 1) (k := k) (Int.ofNat 115) rfl (by omega) (by omega)).trans (congrArg Int.ofNat (by omega))
 have i1 : atI (Int.ofNat 2) (Int.ofNat 116) (Int.ofNat k) = Int.ofNat (k - 2) := (vb_ix (b := 2) (k := k) (Int.ofNat 116) rfl (by omega) (by omega)).trans (congrArg Int.ofNat (by omega))
 have i2 : atI (Int.ofNat 2) (Int.ofNat 116) (Int.ofNat (k + 1)) = Int.ofNat (k - 1) := (vb_ix (b := 2) (k := (k + 1)) (Int.ofNat 116) rfl (by omega) (by omega)).trans (congrArg Int.ofNat (by omega))
 have i3 : atI (Int.ofNat 1) (Int.ofNat 115) (Int.ofNat (k + 1)) = Int.ofNat (k) := (vb_ix (b := 1) (k := (k + 1)) (Int.ofNat 115) rfl (by omega) (by omega)).trans (congrArg Int.ofNat (by omega))
 have n0 : (Int.ofNat k == Int.ofNat 0) = false := by simp; omega
 have n1 : (Int.ofNat k == Int.ofNat 1) = false := by simp; omega
 have n2 : (Int.ofNat k == Int.ofNat 2) = true := by simp; omega
 have ea : vbA (k + 1) = vbA k + 1 := by unfold vbA; omega
 have eb : vbB (k + 1) = vbB k + 1 := by unfold vbB; omega
 have hx : vbF o pa (k - 1) = vbF o pa (vbA k) := congrArg _ (by unfold vbA; omega)
 have hy : vbF o pa (k - 2) = vbF o pa (vbB k) := congrArg _ (by unfold vbB; omega)
 have qa : vbA k ≤ 114 := by unfold vbA; omega
 have qb : vbB k ≤ 114 := by unfold vbB; omega
 refine (?_ : (∃ p r, vbR Tryz.prog cfgErr [vbG1, vbG2, vbX1, vbY2, vbY3] c o pa (vbA k) (vbB k) k p = some r ∧ _) → _) (vbTC cfgErr c o pa (vbA k) (vbB k) k (vbQ c o pa k) ?_)
 · rintro ⟨p, r, h1, h2⟩
   exact ⟨p, [], r, h1, h2⟩
 · simp only [hw, d, a0, a1, a2, a3, i0, i1, i2, i3, vb_e0, n0, n1, n2]
   refine ⟨?_, (fun q hq => by cases hq), by dsimp only; omega, rfl, .inl ⟨rfl, k + 1, hlt, by show c.long.toNat - (k + 1) < c.long.toNat - k; omega, fun g => cond (Nat.beq g vbG1) (.inl vbX1) (.inl vbY2), ?_⟩⟩
   · simp only [allT, List.forall_mem_cons]
     simp [inb_arr, vb_n0, atQ_eq, smallB]
     try omega
   · dsimp only
     rw [ea, eb]
     refine mt_gen (A := [(vbG1, none), (vbG2, none), (vbX1, _), (vbY2, _), (vbY3, none)]) (kb := (vbK c o pa).map some) rfl (by kernel_rfl) ?_ ?_ (by kernel_rfl) (vbK_low c o pa) (BL.refl (vbK c o pa))
     · exact fr_cons (.head _) (fun h => (by cases h)) (GW_low rfl) (fr_cons (.tail _ (.head _)) (fun h => (by cases h)) (GW_low rfl) (fr_cons (.tail _ (.tail _ (.head _))) (fun h => (by cases h)) (GW_low rfl) (fr_cons (.tail _ (.tail _ (.tail _ (.head _)))) (fun h => (by cases h)) (GW_low rfl) (fr_cons (.tail _ (.tail _ (.tail _ (.tail _ (.head _))))) (fun h => (by cases h)) (GW_low rfl) (fr_cons (.tail _ (.tail _ (.tail _ (.tail _ (.tail _ (.head _)))))) (fun h => (by cases h)) (GW_sl (by decide) (by decide) (by decide) rfl) (fr_cons (.tail _ (.tail _ (.tail _ (.tail _ (.tail _ (.tail _ (.head _))))))) (fun h => (by cases h)) (GW_sl (by decide) (by decide) (by decide) rfl) (fr_cons (.tail _ (.tail _ (.tail _ (.tail _ (.tail _ (.tail _ (.tail _ (.head _)))))))) (fun h => (by cases h)) (GW_low rfl) fr_nil)))))))
     · exact me_cons (mv_new rfl rfl rfl (.tail _ (.tail _ (.head _))) (sym_snoc rfl hx) wBlk_low) (me_cons (mv_new rfl rfl rfl (.tail _ (.tail _ (.tail _ (.head _)))) (sym_snoc rfl hy) wBlk_low) me_nil)
set_option maxRecDepth 100000 in
theorem vb_rD (c : Cfg) (o : Int) (pa : Payload) (l1 : 116 ≤ c.long) (l2 : c.long ≤ 100000) {k : Nat} (hlt : k < c.long.toNat) (hc : 3 ≤ k ∧ k ≤ 114) : ∃ p lp r, view vbH ([vbG1, vbG2, vbX1, vbY2, vbY3] ++ vbI) (fC (ENl0 Tryz.prog cfgErr ctsNb) 100 (loopAt Tryz.prog 4 0) 1000000000000000000000000000000000000000000 10000000000000000000000000000000000000000 ⟨mkFr 228 (vbH.zip (vbV o (vbA k) (vbB k) k)), [vbG1, vbG2].zip [symW (vbA k) (vbF o pa), symW (vbB k) (vbF o pa)] ++ vbI.zip (vbK c o pa), 0, 0, false, p, [], [], [], none, lp⟩) = some r ∧ vbQ c o pa k r := by
 have hw : IntKind.wrap IntKind.i64 (Int.ofNat k + Int.ofNat 1) = Int.ofNat (k + 1) := fr_w1 (by omega)
 have d : decide (Int.ofNat k < c.long) = true := decide_eq_true (by simp; omega)
 have a0 : atB (Int.ofNat 1) (Int.ofNat 115) (Int.ofNat k) = true := (vb_at (b := 1) (k := k) (Int.ofNat 115) rfl).trans (by simp; omega)
 have a1 : atB (Int.ofNat 2) (Int.ofNat 116) (Int.ofNat k) = true := (vb_at (b := 2) (k := k) (Int.ofNat 116) rfl).trans (by simp; omega)
 have a2 : atB (Int.ofNat 2) (Int.ofNat 116) (Int.ofNat (k + 1)) = true := (vb_at (b := 2) (k := (k + 1)) (Int.ofNat 116) rfl).trans (by simp; omega)
 have i0 : atI (Int.ofNat 1) (Int.ofNat 115) (Int.ofNat k) = Int.ofNat (k - 1) := (vb_ix (b := 1) (k := k) (Int.ofNat 115) rfl (by omega) (by omega)).trans (congrArg Int.ofNat (by omega))
 have i1 : atI (Int.ofNat 2) (Int.ofNat 116) (Int.ofNat k) = Int.ofNat (k - 2) := (vb_ix (b := 2) (k := k) (Int.ofNat 116) rfl (by omega) (by omega)).trans (congrArg Int.ofNat (by omega))
 have i2 : atI (Int.ofNat 2) (Int.ofNat 116) (Int.ofNat (k + 1)) = Int.ofNat (k - 1) := (vb_ix (b := 2) (k := (k + 1)) (Int.ofNat 116) rfl (by omega) (by omega)).trans (congrArg Int.ofNat (by omega))
 have n0 : (Int.ofNat k == Int.ofNat 0) = false := by simp; omega
 have n1 : (Int.ofNat k == Int.ofNat 1) = false := by simp; omega
 have n2 : (Int.ofNat k == Int.ofNat 2) = false := by simp; omega
 have ea : vbA (k + 1) = vbA k + 1 := by unfold vbA; omega
 have eb : vbB (k + 1) = vbB k + 1 := by unfold vbB; omega
 have hx : vbF o pa (k - 1) = vbF o pa (vbA k) := congrArg _ (by unfold vbA; omega)
 have hy : vbF o pa (k - 2) = vbF o pa (vbB k) := congrArg _ (by unfold vbB; omega)
 have qa : vbA k ≤ 114 := by unfold vbA; omega
 have qb : vbB k ≤ 114 := by unfold vbB; omega
 refine (?_ : (∃ p r, vbR Tryz.prog cfgErr [vbG1, vbG2, vbX1, vbY2, vbY3] c o pa (vbA k) (vbB k) k p = some r ∧ _) → _) (vbTD cfgErr c o pa (vbA k) (vbB k) k (vbQ c o pa k) ?_)
 · rintro ⟨p, r, h1, h2⟩
   exact ⟨p, [], r, h1, h2⟩
 simp only [hw, d, a0, a1, a2, i0, i1, i2, vb_e0, n0, n1, n2]
 refine ⟨fun c4 => ?_, fun c4 => ?_⟩
 · have c6 := c4
   simp at c6
   refine ⟨?_, (fun q hq => by cases hq), by dsimp only; omega, rfl, .inl ⟨rfl, k + 1, hlt, by show c.long.toNat - (k + 1) < c.long.toNat - k; omega, fun g => cond (Nat.beq g vbG1) (.inl vbX1) (.inl vbY2), ?_⟩⟩
   · simp only [allT, List.forall_mem_cons]
     simp [inb_arr, c6, vb_n0, atQ_eq, smallB]
     try omega
   · dsimp only
     rw [ea, eb]
     refine mt_gen (A := [(vbG1, none), (vbG2, none), (vbX1, _), (vbY2, _), (vbY3, none)]) (kb := (vbK c o pa).map some) rfl (by kernel_rfl) ?_ ?_ (by kernel_rfl) (vbK_low c o pa) (BL.refl (vbK c o pa))
     · exact fr_cons (.head _) (fun h => (by cases h)) (GW_low rfl) (fr_cons (.tail _ (.head _)) (fun h => (by cases h)) (GW_low rfl) (fr_cons (.tail _ (.tail _ (.head _))) (fun h => (by cases h)) (GW_low rfl) (fr_cons (.tail _ (.tail _ (.tail _ (.head _)))) (fun h => (by cases h)) (GW_low rfl) (fr_cons (.tail _ (.tail _ (.tail _ (.tail _ (.head _))))) (fun h => (by cases h)) (GW_low rfl) (fr_cons (.tail _ (.tail _ (.tail _ (.tail _ (.tail _ (.head _)))))) (fun h => (by cases h)) (GW_sl (by decide) (by decide) (by decide) rfl) (fr_cons (.tail _ (.tail _ (.tail _ (.tail _ (.tail _ (.tail _ (.head _))))))) (fun h => (by cases h)) (GW_sl (by decide) (by decide) (by decide) rfl) (fr_cons (.tail _ (.tail _ (.tail _ (.tail _ (.tail _ (.tail _ (.tail _ (.head _)))))))) (fun h => (by cases h)) (GW_low rfl) fr_nil)))))))
     · exact me_cons (mv_new rfl rfl rfl (.tail _ (.tail _ (.head _))) (sym_snoc rfl hx) wBlk_low) (me_cons (mv_new rfl rfl rfl (.tail _ (.tail _ (.tail _ (.head _)))) (sym_snoc rfl hy) wBlk_low) me_nil)
 · have c6 := c4
   simp at c6
   have c5 := (vb_at (b := 1) (k := k + 1) (Int.ofNat 115) rfl).symm.trans (show atB (Int.ofNat 1) (Int.ofNat 115) (Int.ofNat (k + 1)) = true by simpa using c4)
   simp at c5
   have i3 : atI (Int.ofNat 1) (Int.ofNat 115) (Int.ofNat (k + 1)) = Int.ofNat k := (vb_ix (b := 1) (k := k + 1) (Int.ofNat 115) rfl (by omega) (by omega)).trans (congrArg Int.ofNat (by omega))
   simp only [i3]
   refine ⟨?_, (fun q hq => by cases hq), by dsimp only; omega, rfl, .inl ⟨rfl, k + 1, hlt, by show c.long.toNat - (k + 1) < c.long.toNat - k; omega, fun g => cond (Nat.beq g vbG1) (.inl vbX1) (.inl vbY2), ?_⟩⟩
   · simp only [allT, List.forall_mem_cons]
     simp [inb_arr, c6, vb_n0, atQ_eq, smallB]
     try omega
   · dsimp only
     rw [ea, eb]
     refine mt_gen (A := [(vbG1, none), (vbG2, none), (vbX1, _), (vbY2, _), (vbY3, none)]) (kb := (vbK c o pa).map some) rfl (by kernel_rfl) ?_ ?_ (by kernel_rfl) (vbK_low c o pa) (BL.refl (vbK c o pa))
     · exact fr_cons (.head _) (fun h => (by cases h)) (GW_low rfl) (fr_cons (.tail _ (.head _)) (fun h => (by cases h)) (GW_low rfl) (fr_cons (.tail _ (.tail _ (.head _))) (fun h => (by cases h)) (GW_low rfl) (fr_cons (.tail _ (.tail _ (.tail _ (.head _)))) (fun h => (by cases h)) (GW_low rfl) (fr_cons (.tail _ (.tail _ (.tail _ (.tail _ (.head _))))) (fun h => (by cases h)) (GW_low rfl) (fr_cons (.tail _ (.tail _ (.tail _ (.tail _ (.tail _ (.head _)))))) (fun h => (by cases h)) (GW_sl (by decide) (by decide) (by decide) rfl) (fr_cons (.tail _ (.tail _ (.tail _ (.tail _ (.tail _ (.tail _ (.head _))))))) (fun h => (by cases h)) (GW_sl (by decide) (by decide) (by decide) rfl) (fr_cons (.tail _ (.tail _ (.tail _ (.tail _ (.tail _ (.tail _ (.tail _ (.head _)))))))) (fun h => (by cases h)) (GW_low rfl) fr_nil)))))))
     · exact me_cons (mv_new rfl rfl rfl (.tail _ (.tail _ (.head _))) (sym_snoc rfl hx) wBlk_low) (me_cons (mv_new rfl rfl rfl (.tail _ (.tail _ (.tail _ (.head _)))) (sym_snoc rfl hy) wBlk_low) me_nil)
set_option maxRecDepth 100000 in
theorem vb_rE (c : Cfg) (o : Int) (pa : Payload) (l1 : 116 ≤ c.long) (l2 : c.long ≤ 100000) {k : Nat} (hlt : k < c.long.toNat) (hc : k = 115) : ∃ p lp r, view vbH ([vbG1, vbG2, vbX1, vbY2, vbY3] ++ vbI) (fC (ENl0 Tryz.prog cfgErr ctsNb) 100 (loopAt Tryz.prog 4 0) 1000000000000000000000000000000000000000000 10000000000000000000000000000000000000000 ⟨mkFr 228 (vbH.zip (vbV o (vbA k) (vbB k) k)), [vbG1, vbG2].zip [symW (vbA k) (vbF o pa), symW (vbB k) (vbF o pa)] ++ vbI.zip (vbK c o pa), 0, 0, false, p, [], [], [], none, lp⟩) = some r ∧ vbQ c o pa k r := by
 have hw : IntKind.wrap IntKind.i64 (Int.ofNat k + Int.ofNat 1) = Int.ofNat (k + 1) := fr_w1 (by omega)
 have d : decide (Int.ofNat k < c.long) = true := decide_eq_true (by simp; omega)
 have a0 : atB (Int.ofNat 1) (Int.ofNat 115) (Int.ofNat k) = false := (vb_at (b := 1) (k := k) (Int.ofNat 115) rfl).trans (by simp; omega)
 have a1 : atB (Int.ofNat 2) (Int.ofNat 116) (Int.ofNat k) = true := (vb_at (b := 2) (k := k) (Int.ofNat 116) rfl).trans (by simp; omega)
 have a2 : atB (Int.ofNat 2) (Int.ofNat 116) (Int.ofNat (k + 1)) = false := (vb_at (b := 2) (k := (k + 1)) (Int.ofNat 116) rfl).trans (by simp; omega)
 have a3 : atB (Int.ofNat 1) (Int.ofNat 115) (Int.ofNat (k + 1)) = false := (vb_at (b := 1) (k := (k + 1)) (Int.ofNat 115) rfl).trans (by simp; omega)
 have i1 : atI (Int.ofNat 2) (Int.ofNat 116) (Int.ofNat k) = Int.ofNat (k - 2) := (vb_ix (b := 2) (k := k) (Int.ofNat 116) rfl (by omega) (by omega)).trans (congrArg Int.ofNat (by omega))
 have n0 : (Int.ofNat k == Int.ofNat 0) = false := by simp; omega
 have n1 : (Int.ofNat k == Int.ofNat 1) = false := by simp; omega
 have n2 : (Int.ofNat k == Int.ofNat 2) = false := by simp; omega
 have ea : vbA (k + 1) = vbA k := by unfold vbA; omega
 have eb : vbB (k + 1) = vbB k + 1 := by unfold vbB; omega
 have hy : vbF o pa (k - 2) = vbF o pa (vbB k) := congrArg _ (by unfold vbB; omega)
 have qa : vbA k ≤ 114 := by unfold vbA; omega
 have qb : vbB k ≤ 114 := by unfold vbB; omega
 refine (?_ : (∃ p r, vbR Tryz.prog cfgErr [vbG1, vbG2, vbX1, vbY2, vbY3] c o pa (vbA k) (vbB k) k p = some r ∧ _) → _) (vbTE cfgErr c o pa (vbA k) (vbB k) k (vbQ c o pa k) ?_)
 · rintro ⟨p, r, h1, h2⟩
   exact ⟨p, [], r, h1, h2⟩
 · simp only [hw, d, a0, a1, a2, a3, i1, vb_e0, n0, n1, n2]
   refine ⟨?_, (fun q hq => by cases hq), by dsimp only; omega, rfl, .inl ⟨rfl, k + 1, hlt, by show c.long.toNat - (k + 1) < c.long.toNat - k; omega, fun g => cond (Nat.beq g vbG1) (.inl vbG1) (.inl vbY3), ?_⟩⟩
   · simp only [allT, List.forall_mem_cons]
     simp [inb_arr, vb_n0, atQ_eq, smallB]
     try omega
   · dsimp only
     rw [ea, eb]
     refine mt_gen (A := [(vbG1, _), (vbG2, none), (vbX1, none), (vbY2, none), (vbY3, _)]) (kb := (vbK c o pa).map some) rfl (by kernel_rfl) ?_ ?_ (by kernel_rfl) (vbK_low c o pa) (BL.refl (vbK c o pa))
     · exact fr_cons (.head _) (fun h => (by cases h)) (GW_low rfl) (fr_cons (.tail _ (.head _)) (fun h => (by cases h)) (GW_low rfl) (fr_cons (.tail _ (.tail _ (.head _))) (fun h => (by cases h)) (GW_low rfl) (fr_cons (.tail _ (.tail _ (.tail _ (.head _)))) (fun h => (by cases h)) (GW_low rfl) (fr_cons (.tail _ (.tail _ (.tail _ (.tail _ (.head _))))) (fun h => (by cases h)) (GW_low rfl) (fr_cons (.tail _ (.tail _ (.tail _ (.tail _ (.tail _ (.head _)))))) (fun h => (by cases h)) (GW_sl (by decide) (by decide) (by decide) rfl) (fr_cons (.tail _ (.tail _ (.tail _ (.tail _ (.tail _ (.tail _ (.head _))))))) (fun h => (by cases h)) (GW_sl (by decide) (by decide) (by decide) rfl) (fr_cons (.tail _ (.tail _ (.tail _ (.tail _ (.tail _ (.tail _ (.tail _ (.head _)))))))) (fun h => (by cases h)) (GW_low rfl) fr_nil)))))))
     · exact me_cons (mv_new rfl rfl rfl (.head _) (BEq.refl _) wBlk_low) (me_cons (mv_new rfl rfl rfl (.tail _ (.tail _ (.tail _ (.tail _ (.head _))))) (sym_snoc rfl hy) wBlk_low) me_nil)
set_option maxRecDepth 100000 in
theorem vb_rF (c : Cfg) (o : Int) (pa : Payload) (l1 : 116 ≤ c.long) (l2 : c.long ≤ 100000) {k : Nat} (hlt : k < c.long.toNat) (hc : 116 ≤ k) : ∃ p lp r, view vbH ([vbG1, vbG2, vbX1, vbY2, vbY3] ++ vbI) (fC (ENl0 Tryz.prog cfgErr ctsNb) 100 (loopAt Tryz.prog 4 0) 1000000000000000000000000000000000000000000 10000000000000000000000000000000000000000 ⟨mkFr 228 (vbH.zip (vbV o (vbA k) (vbB k) k)), [vbG1, vbG2].zip [symW (vbA k) (vbF o pa), symW (vbB k) (vbF o pa)] ++ vbI.zip (vbK c o pa), 0, 0, false, p, [], [], [], none, lp⟩) = some r ∧ vbQ c o pa k r := by
 have hw : IntKind.wrap IntKind.i64 (Int.ofNat k + Int.ofNat 1) = Int.ofNat (k + 1) := fr_w1 (by omega)
 have d : decide (Int.ofNat k < c.long) = true := decide_eq_true (by simp; omega)
 have a0 : atB (Int.ofNat 1) (Int.ofNat 115) (Int.ofNat k) = false := (vb_at (b := 1) (k := k) (Int.ofNat 115) rfl).trans (by simp; omega)
 have a1 : atB (Int.ofNat 2) (Int.ofNat 116) (Int.ofNat k) = false := (vb_at (b := 2) (k := k) (Int.ofNat 116) rfl).trans (by simp; omega)
 have a2 : atB (Int.ofNat 2) (Int.ofNat 116) (Int.ofNat (k + 1)) = false := (vb_at (b := 2) (k := (k + 1)) (Int.ofNat 116) rfl).trans (by simp; omega)
 have a3 : atB (Int.ofNat 1) (Int.ofNat 115) (Int.ofNat (k + 1)) = false := (vb_at (b := 1) (k := (k + 1)) (Int.ofNat 115) rfl).trans (by simp; omega)
 have n0 : (Int.ofNat k == Int.ofNat 0) = false := by simp; omega
 have n1 : (Int.ofNat k == Int.ofNat 1) = false := by simp; omega
 have n2 : (Int.ofNat k == Int.ofNat 2) = false := by simp; omega
 have ea : vbA (k + 1) = vbA k := by unfold vbA; omega
 have eb : vbB (k + 1) = vbB k := by unfold vbB; omega
 have qa : vbA k ≤ 114 := by unfold vbA; omega
 have qb : vbB k ≤ 114 := by unfold vbB; omega
 refine (?_ : (∃ p r, vbR Tryz.prog cfgErr [vbG1, vbG2, vbX1, vbY2, vbY3] c o pa (vbA k) (vbB k) k p = some r ∧ _) → _) (vbTF cfgErr c o pa (vbA k) (vbB k) k (vbQ c o pa k) ?_)
 · rintro ⟨p, r, h1, h2⟩
   exact ⟨p, [], r, h1, h2⟩
 · simp only [hw, d, a0, a1, a2, a3, vb_e0, n0, n1, n2]
   refine ⟨?_, (fun q hq => by cases hq), by dsimp only; omega, rfl, .inl ⟨rfl, k + 1, hlt, by show c.long.toNat - (k + 1) < c.long.toNat - k; omega, fun g => cond (Nat.beq g vbG1) (.inl vbG1) (.inl vbG2), ?_⟩⟩
   · simp only [allT, List.forall_mem_cons]
     simp [inb_arr, vb_n0, atQ_eq, smallB]
     try omega
   · dsimp only
     rw [ea, eb]
     refine mt_gen (A := [(vbG1, _), (vbG2, _), (vbX1, none), (vbY2, none), (vbY3, none)]) (kb := (vbK c o pa).map some) rfl (by kernel_rfl) ?_ ?_ (by kernel_rfl) (vbK_low c o pa) (BL.refl (vbK c o pa))
     · exact fr_cons (.head _) (fun h => (by cases h)) (GW_low rfl) (fr_cons (.tail _ (.head _)) (fun h => (by cases h)) (GW_low rfl) (fr_cons (.tail _ (.tail _ (.head _))) (fun h => (by cases h)) (GW_low rfl) (fr_cons (.tail _ (.tail _ (.tail _ (.head _)))) (fun h => (by cases h)) (GW_low rfl) (fr_cons (.tail _ (.tail _ (.tail _ (.tail _ (.head _))))) (fun h => (by cases h)) (GW_low rfl) (fr_cons (.tail _ (.tail _ (.tail _ (.tail _ (.tail _ (.head _)))))) (fun h => (by cases h)) (GW_sl (by decide) (by decide) (by decide) rfl) (fr_cons (.tail _ (.tail _ (.tail _ (.tail _ (.tail _ (.tail _ (.head _))))))) (fun h => (by cases h)) (GW_sl (by decide) (by decide) (by decide) rfl) (fr_cons (.tail _ (.tail _ (.tail _ (.tail _ (.tail _ (.tail _ (.tail _ (.head _)))))))) (fun h => (by cases h)) (GW_low rfl) fr_nil)))))))
     · exact me_cons (mv_new rfl rfl rfl (.head _) (BEq.refl _) wBlk_low) (me_cons (mv_new rfl rfl rfl (.tail _ (.head _)) (BEq.refl _) wBlk_low) me_nil)
theorem vb_round (c : Cfg) (o : Int) (pa : Payload) (l1 : 116 ≤ c.long) (l2 : c.long ≤ 100000) {k : Nat} (hlt : k < c.long.toNat) : ∃ p lp r, view vbH ([vbG1, vbG2, vbX1, vbY2, vbY3] ++ vbI) (fC (ENl0 Tryz.prog cfgErr ctsNb) 100 (loopAt Tryz.prog 4 0) 1000000000000000000000000000000000000000000 10000000000000000000000000000000000000000 ⟨mkFr 228 (vbH.zip (vbV o (vbA k) (vbB k) k)), [vbG1, vbG2].zip [symW (vbA k) (vbF o pa), symW (vbB k) (vbF o pa)] ++ vbI.zip (vbK c o pa), 0, 0, false, p, [], [], [], none, lp⟩) = some r ∧ vbQ c o pa k r := by
 have : k = 0 ∨ k = 1 ∨ k = 2 ∨ (3 ≤ k ∧ k ≤ 114) ∨ k = 115 ∨ 116 ≤ k := by omega
 rcases this with h | h | h | h | h | h
 · exact vb_rA c o pa l1 l2 hlt h
 · exact vb_rB c o pa l1 l2 hlt h
 · exact vb_rC c o pa l1 l2 hlt h
 · exact vb_rD c o pa l1 l2 hlt h
 · exact vb_rE c o pa l1 l2 hlt h
 · exact vb_rF c o pa l1 l2 hlt h
set_option maxRecDepth 100000 in
theorem vb_sum (c : Cfg) (o : Int) (pa : Payload) (l1 : 116 ≤ c.long) (l2 : c.long ≤ 100000) {eblks : List (Option ABlk)} (heb : BL (vbK c o pa) eblks) :
 LoopV Tryz.prog (loopAt Tryz.prog 4 0) vbH vbI [some (.c (.ptr 10 0 0)), some (.c (.ptr 11 0 0)), some (i64 o), some (.c (.ptr vbS1 0 0)), some (.c (.ptr vbS2 0 0)), some (.c (.v (.slice none 0 0))), some (.c (.v (.slice none 0 0))), some (i64 0)] eblks 228 vb0 (mkFr 228 (vbO o)) (vbM c o pa) 100000000000000000000000000000000000000000000000000 (.exit 0) none := by
 refine loop_growM (hENl0 ctsNb_ok) (fuel := 100) (str := 10000000000000000000000000000000000000000) (nh := 1000000000000000000000000000000000000000000) (S := Nat) (fun k => k ≤ c.long.toNat) (fun k => c.long.toNat - k) vbH ([vbG1, vbG2, vbX1, vbY2, vbY3] ++ vbI) [vbG1, vbG2] vbI vbI (fun k => vbV o (vbA k) (vbB k) k) (fun k => [symW (vbA k) (vbF o pa), symW (vbB k) (vbF o pa)]) (fun _ => vbK c o pa) (by decide) (by decide) (by unfold lim; omega) (s0 := 0) (Nat.zero_le _) ⟨fun _ => .inr 1, ?_⟩ ?_
 · refine mt_gen (A := []) (kb := eblks) rfl (by kernel_rfl) ?_ ?_ (by kernel_rfl) (vbK_low c o pa) heb
   · exact fr_cons (.head _) (fun h => (by cases h)) (GW_low rfl) (fr_cons (.tail _ (.head _)) (fun h => (by cases h)) (GW_low rfl) (fr_cons (.tail _ (.tail _ (.head _))) (fun h => (by cases h)) (GW_low rfl) (fr_cons (.tail _ (.tail _ (.tail _ (.head _)))) (fun h => (by cases h)) (GW_low rfl) (fr_cons (.tail _ (.tail _ (.tail _ (.tail _ (.head _))))) (fun h => (by cases h)) (GW_low rfl) (fr_cons (.tail _ (.tail _ (.tail _ (.tail _ (.tail _ (.head _)))))) (fun h => (by cases h)) (GW_nil (by decide) (by decide) (by decide) rfl) (fr_cons (.tail _ (.tail _ (.tail _ (.tail _ (.tail _ (.tail _ (.head _))))))) (fun h => (by cases h)) (GW_nil (by decide) (by decide) (by decide) rfl) (fr_cons (.tail _ (.tail _ (.tail _ (.tail _ (.tail _ (.tail _ (.tail _ (.head _)))))))) (fun h => (by cases h)) (GW_low rfl) fr_nil)))))))
   · exact me_cons (mv_nil rfl rfl rfl rfl ⟨_, rfl⟩) (me_cons (mv_nil rfl rfl rfl rfl ⟨_, rfl⟩) me_nil)
 · intro k hk
   rcases Nat.lt_or_ge k c.long.toNat with hlt | hge
   · exact vb_round c o pa l1 l2 hlt
   · obtain rfl : k = c.long.toNat := by omega
     have d : decide (Int.ofNat c.long.toNat < c.long) = false := decide_eq_false (by simp; omega)
     have e1 : vbA c.long.toNat = 114 := by unfold vbA; omega
     have e2 : vbB c.long.toNat = 114 := by unfold vbB; omega
     refine (?_ : (∃ p r, vbR Tryz.prog cfgErr [vbG1, vbG2, vbX1, vbY2, vbY3] c o pa (vbA c.long.toNat) (vbB c.long.toNat) c.long.toNat p = some r ∧ _) → _) (vbTX cfgErr c o pa (vbA c.long.toNat) (vbB c.long.toNat) c.long.toNat (vbQ c o pa c.long.toNat) ?_)
     · rintro ⟨p, r, h1, h2⟩
       exact ⟨p, [], r, h1, h2⟩
     · simp only [d, e1, e2]
       refine ⟨?_, (fun q hq => by cases hq), by dsimp only; omega, rfl, .inr ⟨by simp, rfl, vbId, ?_⟩⟩
       · simp [allT]
       · refine mt_gen (hs := [5, 8, 11, 15, 16]) (vals := [.c (.ptr 11 0 0), i64 o, .c (.ptr vbS1 0 0), .c (.sl vbG1 0 0 114 none), .c (.sl vbG2 0 0 114 none)]) (A := [(vbG1, _), (vbG2, _), (vbX1, none), (vbY2, none), (vbY3, none)]) (kb := (vbK c o pa).map some) rfl (by kernel_rfl) ?_ ?_ (by kernel_rfl) (vbK_low c o pa) (BL.refl (vbK c o pa))
         · exact fr_cons (.tail _ (.head _)) (fun h => (by cases h)) (GW_low rfl) (fr_cons (.tail _ (.tail _ (.head _))) (fun h => (by cases h)) (GW_low rfl) (fr_cons (.tail _ (.tail _ (.tail _ (.head _)))) (fun h => (by cases h)) (GW_low rfl) (fr_cons (.tail _ (.tail _ (.tail _ (.tail _ (.tail _ (.head _)))))) (fun h => (by cases h)) (GW_sl (by decide) (by decide) (by decide) rfl) (fr_cons (.tail _ (.tail _ (.tail _ (.tail _ (.tail _ (.tail _ (.head _))))))) (fun h => (by cases h)) (GW_sl (by decide) (by decide) (by decide) rfl) fr_nil))))
         · exact me_cons (mv_new rfl rfl rfl (.head _) (BEq.refl _) wBlk_low) (me_cons (mv_new rfl rfl rfl (.tail _ (.head _)) (BEq.refl _) wBlk_low) me_nil)
end Go.Proofs.YtoelekmbmghicaaGreatDoor
end
/- SendersBoth as the evaluator runs it. -/
section
namespace Go.Proofs.YtoelekmbmghicaaGreatDoor
open Go.RowKit
def vbE (P : Program) (err : Cfg → Int) (c : Cfg) (y : Int) (pa : Payload) (path : List Dec) (lp : List (Option LSum)) : Option VF := lwR (ENl0 P err ctsNb) 4 mSR c (nbA y pa) path lp
def vbX (P : Program) (err : Cfg → Int) (c : Cfg) (y : Int) (pa : Payload) (path : List Dec) : Option VF := lwR (ENl1 P err ctsNb) 4 mSR c (nbA y pa) path []
theorem vbDm (err : Cfg → Int) (c : Cfg) (y o : Int) (pa pb : Payload) (Q : VF → Prop) (H : let zz7 := (List.headD [headN c (Int.toNat (Cfg.nodes c)) (pairF c (2 * Cfg.np c)) (List.headD [Int.tmod (IntKind.wrap IntKind.i64 y) ↑(Cfg.np c)] (Int.ofNat 0))] (Int.ofNat 0)); let zz0 := (partnerN c (Int.toNat (Cfg.nodes c)) (pairF c (2 * Cfg.np c)) zz7); let zz1 := (LstS.mk 114 (fS fun i => (fun k => List.map AC.v ((fun i => [Value.int IntKind.u8 (vbF o pb i)]) k)) (0 + i)) []); let zz2 := (headN c (Int.toNat (Cfg.nodes c)) (pairF c (2 * Cfg.np c)) (List.headD [Int.tmod (IntKind.wrap IntKind.i64 y) ↑(Cfg.np c)] (Int.ofNat 0))); let zz3 := (Int.tmod (IntKind.wrap IntKind.i64 y) ↑(Cfg.np c)); let zz6 := (IntKind.wrap IntKind.u8 (Int.ofNat 1 + Int.tmod (Payload.kind pa) (Int.ofNat 2))); let zz4 := [AC.v (Value.int IntKind.u8 zz6), AC.v (Value.int IntKind.u8 (Payload.st pa)), AC.v (Value.int IntKind.u32 (Payload.seq pa)), AC.v (Value.int IntKind.u32 (Payload.val pa))]; let zz5 := [AC.v (Value.int IntKind.i64 (etO (LstS.f zz1))), AC.v (Value.int IntKind.u8 (etK (LstS.f zz1))), AC.v (Value.int IntKind.u8 (etS (LstS.f zz1))), AC.v (Value.int IntKind.u32 (etN (LstS.f zz1))), AC.v (Value.int IntKind.u32 (etV (LstS.f zz1)))]; let zz8 := [AV.agg [AC.v (Value.int IntKind.i64 zz3), AC.v (Value.int IntKind.u8 zz6), AC.v (Value.int IntKind.u8 (Payload.st pa)), AC.v (Value.int IntKind.u32 (Payload.seq pa)), AC.v (Value.int IntKind.u32 (Payload.val pa))], AV.agg [AC.v (Value.bool true), AC.v (Value.bool false)]]; let zz9 := [AC.v (Value.int IntKind.u8 (Payload.kind pb)), AC.v (Value.int IntKind.u8 (Payload.st pb)), AC.v (Value.int IntKind.u32 (Payload.seq pb)), AC.v (Value.int IntKind.u32 (Payload.val pb))]; let zt : List Bool → List Bool := fun l => true :: true :: true :: true :: true :: true :: true :: true :: l; let zu : List Bool → List Bool := fun l => zt (zt (zt (zt l))); Q (.c (.v (.bool true)), [], 100000000380000000000000000000000000000000000000056, ((eqF [some .u8, some .u8, some .u32, some .u32] zz9 zz9 == true) :: (zt (zt (true :: true :: ((eqF [some .i64, some .u8, some .u8, some .u32, some .u32] zz5 zz5 == true) :: (zt (zt (true :: true :: true :: true :: true :: true :: ((eqF [some .i64, some .u8, some .u8, some .u32, some .u32] zz5 [.v (.int .i64 o), .v (.int .u8 (Payload.kind pb)), .v (.int .u8 (Payload.st pb)), .v (.int .u32 (Payload.seq pb)), .v (.int .u32 (Payload.val pb))] == true) :: (zu (zu (zu (zt (zt (true :: true :: true :: true :: true :: true :: true :: ((etQ zz1) :: true :: true :: true :: (etQ zz1) :: (zt (true :: true :: ((fuG zz8) :: true :: true :: true :: true :: true :: ((!eqF [some .u8, some .u8, some .u32, some .u32] zz4 zz4) == false) :: (zt (zt (zt ((netK c (Int.toNat (c.nodes)) (pairF c (2 * c.np))) :: (wnQ (NetS.mk c (Int.toNat (c.nodes)) (pairF c (2 * c.np)) [.c (.v (.int .u8 (Int.ofNat 1))), .c (.v (.int .i64 zz3)), .c (.v (.int .i64 zz0))])) :: true :: true :: (netK c (Int.toNat (c.nodes)) (pairF c (2 * c.np))) :: (wnQ (NetS.mk c (Int.toNat (c.nodes)) (pairF c (2 * c.np)) [.c (.v (.int .u8 (Int.ofNat 0))), .c (.v (.int .i64 zz3)), .c (.v (.int .i64 zz0))])) :: ((pairN c (Int.toNat (c.nodes)) (pairF c (2 * c.np)) (List.headD [partnerN c (Int.toNat (c.nodes)) (pairF c (2 * c.np)) zz7] (Int.ofNat 0)) != Int.tmod (IntKind.wrap .i64 y) ↑(c.np)) == false) :: (netK c (Int.toNat (c.nodes)) (pairF c (2 * c.np))) :: true :: (decide (Int.tmod (IntKind.wrap .i64 y) ↑(c.np) < Int.ofNat 0) == false) :: ((roundN c (Int.toNat (c.nodes)) == Int.ofNat 0) == false) :: (netK c (Int.toNat (c.nodes)) (pairF c (2 * c.np))) :: (zu (true :: true :: ((fuG zz8) :: true :: true :: true :: true :: true :: ((!eqF [some .u8, some .u8, some .u32, some .u32] zz4 zz4) == false) :: (zt (zt (zt ((netK c (Int.toNat (c.nodes)) (pairF c (2 * c.np))) :: (wnQ (NetS.mk c (Int.toNat (c.nodes)) (pairF c (2 * c.np)) [.c (.v (.int .u8 (Int.ofNat 1))), .c (.v (.int .i64 zz3)), .c (.v (.int .i64 zz2))])) :: true :: true :: (netK c (Int.toNat (c.nodes)) (pairF c (2 * c.np))) :: (wnQ (NetS.mk c (Int.toNat (c.nodes)) (pairF c (2 * c.np)) [.c (.v (.int .u8 (Int.ofNat 0))), .c (.v (.int .i64 zz3)), .c (.v (.int .i64 zz2))])) :: ((pairN c (Int.toNat (c.nodes)) (pairF c (2 * c.np)) zz7 != Int.tmod (IntKind.wrap .i64 y) ↑(c.np)) == false) :: (netK c (Int.toNat (c.nodes)) (pairF c (2 * c.np))) :: true :: (decide (Int.tmod (IntKind.wrap .i64 y) ↑(c.np) < Int.ofNat 0) == false) :: ((roundN c (Int.toNat (c.nodes)) == Int.ofNat 0) == false) :: (netK c (Int.toNat (c.nodes)) (pairF c (2 * c.np))) :: (zu (true :: true :: true :: true :: true :: ((netK c (Int.toNat (c.nodes)) (pairF c (2 * c.np))) :: true :: (netK c (Int.toNat (c.nodes)) (pairF c (2 * c.np))) :: true :: (decide (↑(c.np) ≠ Int.ofNat 0)) :: true :: true :: true :: true :: true :: (cfgK c) :: (decide (c.nb ≤ 9223372036854775807)) :: (decide (err c = Int.ofNat 0)) :: true :: true :: true :: true :: true :: true :: ((err c != Int.ofNat 0) == false) :: (cfgK c) :: true :: true :: true :: true :: true :: true :: true :: (decide (↑(c.nt) > Int.ofNat 60) == false) :: true :: (decide (↑(c.nb) > Int.ofNat 60) == false) :: true :: (decide (↑(c.ns) > Int.ofNat 60) == false) :: true :: (decide (↑(c.np) > Int.ofNat 60) == false) :: (zt (true :: true :: true :: true :: true :: []))))))))))))))))))))))))))))))))))), [LoopV Tryz.prog (loopAt Tryz.prog 4 0) vbH vbI [some (.c (.ptr 10 0 0)), some (.c (.ptr 11 0 0)), some (.c (.v (.int .i64 zz3))), some (.c (.ptr 70000000000000000000000000000000000000097 0 0)), some (.c (.ptr 200000000000000000000000000000000000000097 0 0)), some (.c (AC.v (Value.slice none 0 0))), some (.c (AC.v (Value.slice none 0 0))), some (.c (.v (.int .i64 (Int.ofNat 0))))] [some (ABlk.mk false false 126 0 (Cs.lit [.v (.int .i64 (Int.ofNat 1)), .v (.int .i64 (Int.negSucc 0))])), some (ABlk.mk false false 115 0 (Cs.lit [.v (.int .u8 (Int.ofNat 1)), .v (.int .u8 (Int.ofNat 1)), .v (.int .u8 (Int.ofNat 2))])), some (ABlk.mk true false 25 0 (Cs.lit [.v (.int .i64 (c.nodes)), AC.sl 0 0 0 (c.np) none, AC.sl 1 0 0 (c.ns) none, .v (.int .i64 (c.long)), AC.sl 2 0 0 (c.nb) none, AC.sl 3 0 0 (c.nt) none, .v (.int .i64 (c.miss)), .v (.int .i64 (c.good)), .v (.int .i64 (c.fresh))])), some (ABlk.mk true false 30 0 (Cs.lit zz4)), some (ABlk.mk true false 76 0 (Cs.lit [.v (.int .u8 (wR (wiP c (Int.ofNat 0) zz3 zz2))), .v (.int .i64 (wP (wiP c (Int.ofNat 0) zz3 zz2))), .v (.int .i64 (wB (wiP c (Int.ofNat 0) zz3 zz2))), .v (.int .i64 (wN (wiP c (Int.ofNat 0) zz3 zz2))), .v (.int .u8 (wR (wiP c (Int.ofNat 1) zz3 zz2))), .v (.int .i64 (wP (wiP c (Int.ofNat 1) zz3 zz2))), .v (.int .i64 (wB (wiP c (Int.ofNat 1) zz3 zz2))), .v (.int .i64 (wN (wiP c (Int.ofNat 1) zz3 zz2))), .v (.int .u8 zz6), .v (.int .u8 (Payload.st pa)), .v (.int .u32 (Payload.seq pa)), .v (.int .u32 (Payload.val pa)), .v (.bool true), AC.fn 26 [(70000003000000000000000000000000000000135, 0, 0)]])), some (ABlk.mk true false 46 0 (Cs.lit [AC.sl 70000003000000000000000000000000000000131 0 0 114 (some 114)])), some (ABlk.mk true true 49 1 (Cs.arr 114 fun k => List.map AC.v ((fun i => [Value.int .u8 (fullF zz3 zz6 (Payload.st pa) (Payload.seq pa) (Payload.val pa) i)]) k))), some (ABlk.mk true false 76 0 (Cs.lit [.v (.int .u8 (wR (wiP c (Int.ofNat 0) zz3 zz0))), .v (.int .i64 (wP (wiP c (Int.ofNat 0) zz3 zz0))), .v (.int .i64 (wB (wiP c (Int.ofNat 0) zz3 zz0))), .v (.int .i64 (wN (wiP c (Int.ofNat 0) zz3 zz0))), .v (.int .u8 (wR (wiP c (Int.ofNat 1) zz3 zz0))), .v (.int .i64 (wP (wiP c (Int.ofNat 1) zz3 zz0))), .v (.int .i64 (wB (wiP c (Int.ofNat 1) zz3 zz0))), .v (.int .i64 (wN (wiP c (Int.ofNat 1) zz3 zz0))), .v (.int .u8 zz6), .v (.int .u8 (Payload.st pa)), .v (.int .u32 (Payload.seq pa)), .v (.int .u32 (Payload.val pa)), .v (.bool true), AC.fn 26 [(200000003000000000000000000000000000000135, 0, 0)]])), some (ABlk.mk true false 46 0 (Cs.lit [AC.sl 200000003000000000000000000000000000000131 0 0 114 (some 114)])), some (ABlk.mk true true 49 1 (Cs.arr 114 fun k => List.map AC.v ((fun i => [Value.int .u8 (fullF zz3 zz6 (Payload.st pa) (Payload.seq pa) (Payload.val pa) i)]) k)))] 228 260000000000000000000000000000000000000091 (mkFr 228 (vbO o)) (vbM c o pb) 100000000000000000000000000000000000000000000000000 (Exit.exit 0) none])) :
 ∃ p r, vbE Tryz.prog err c y pa p [none, none, some (vbS c o pb)] = some r ∧ Q r :=
 ⟨pD 91 8839707043124958292817438620902427004755331, _, by kernel_rfl, H⟩
theorem vbDx (err : Cfg → Int) (c : Cfg) (y : Int) (pa : Payload) (Q : VF → Prop) (H : let zt : List Bool → List Bool := fun l => true :: true :: true :: true :: true :: true :: true :: true :: l; let zq0 : List Bool := zt (true :: true :: true :: true :: true :: []); let zq1 : List Bool := true :: (decide (↑(c.np) > Int.ofNat 60) == false) :: zq0; let zq2 : List Bool := true :: (decide (↑(c.ns) > Int.ofNat 60) == false) :: zq1; let zq3 : List Bool := true :: (decide (↑(c.nb) > Int.ofNat 60) == false) :: zq2; (((decide (↑(c.np) > Int.ofNat 60)) = true → Q (.c (.v (.bool true)), [], 37, ((decide (↑(c.np) > Int.ofNat 60) == true) :: zq0), [])) ∧ ((decide (↑(c.np) > Int.ofNat 60)) = false → (((decide (↑(c.ns) > Int.ofNat 60)) = true → Q (.c (.v (.bool true)), [], 41, ((decide (↑(c.ns) > Int.ofNat 60) == true) :: zq1), [])) ∧ ((decide (↑(c.ns) > Int.ofNat 60)) = false → (((decide (↑(c.nb) > Int.ofNat 60)) = true → Q (.c (.v (.bool true)), [], 45, ((decide (↑(c.nb) > Int.ofNat 60) == true) :: zq2), [])) ∧ ((decide (↑(c.nb) > Int.ofNat 60)) = false → (((decide (↑(c.nt) > Int.ofNat 60)) = true → Q (.c (.v (.bool true)), [], 49, ((decide (↑(c.nt) > Int.ofNat 60) == true) :: zq3), [])) ∧ ((decide (↑(c.nt) > Int.ofNat 60)) = false → Q (.c (.v (.bool true)), [], 51, (((err c != Int.ofNat 0) == true) :: (cfgK c) :: true :: true :: true :: true :: true :: true :: true :: (decide (↑(c.nt) > Int.ofNat 60) == false) :: zq3), [])))))))))) :
 ∃ p r, vbX Tryz.prog err c y pa p = some r ∧ Q r :=
 two H
 (fun g1 => ⟨pD 17 1, _, by kernel_rfl, g1⟩)
 (fun g1 => two g1
  (fun g2 => ⟨pD 17 83, _, by kernel_rfl, g2⟩)
  (fun g2 => two g2
   (fun g3 => ⟨pD 17 6725, _, by kernel_rfl, g3⟩)
   (fun g3 => two g3
    (fun g4 => ⟨pD 17 544727, _, by kernel_rfl, g4⟩)
    (fun g4 => ⟨pD 17 15425075, _, by kernel_rfl, g4⟩))))
end Go.Proofs.YtoelekmbmghicaaGreatDoor
end
/- SendersOut: its loops' sums. -/
section
namespace Go.Proofs.YtoelekmbmghicaaGreatDoor
open Go.RowKit
theorem ns_pre {c : Cfg} (g : CfgGood c) {nq : Nat} (hq : 0 < nq) : wiPre c nq = true := by
 have h1 : ckPre c nq = true := by
  have := g.s1
  have := g.s16
  have := g.n4
  have := g.n16
  have := g.l1
  have := g.l4
  simp [ckPre]
  omega
 have h2 : headsOk c = true := by
  unfold headsOk
  rw [decide_eq_true g.n4, decide_eq_true g.n16, Bool.true_and, Bool.true_and, List.all_eq_true]
  intro i hi
  have := g.fp i (by simpa using hi)
  simpa using this
 unfold wiPre
 rw [h1, h2]; rfl
theorem ns_rn {c : Cfg} (g : CfgGood c) {nq : Nat} (hq : 0 < nq) : (roundN c nq == Int.ofNat 0) = false := by
 have hp := ns_pre g hq
 unfold wiPre at hp
 rw [Bool.and_eq_true] at hp
 obtain ⟨e, r1, _⟩ := ck_round hp.1
 rw [e]
 simp
 omega
end Go.Proofs.YtoelekmbmghicaaGreatDoor
end
/- SendersBoth: what its runs answer. -/
section
namespace Go.Proofs.YtoelekmbmghicaaGreatDoor
open Go.RowKit
structure VbOk (c : Cfg) (o A B : Int) : Prop where
 hd : headN c c.nodes.toNat (pairF c (2 * c.np)) o = A
 pn : partnerN c c.nodes.toNat (pairF c (2 * c.np)) A = B
 pa : pairN c c.nodes.toNat (pairF c (2 * c.np)) A = o
 pb : pairN c c.nodes.toNat (pairF c (2 * c.np)) B = o
 w0a : wiP c (Int.ofNat 0) o A = 0
 w1a : wiP c (Int.ofNat 1) o A = 1
 w0b : wiP c (Int.ofNat 0) o B = 1
 w1b : wiP c (Int.ofNat 1) o B = 0
theorem vb_ok {c : Cfg} (g : CfgGood c) (nd : ∀ p q, p < 2 * c.np → q < 2 * c.np → halfF c p = halfF c q → p = q) {o : Int} (ho : 0 ≤ o ∧ o < c.np) : ∃ A B, VbOk c o A B := by
 obtain ⟨p, rfl⟩ := Int.eq_ofNat_of_zero_le ho.1
 have hp : p < c.np := by omega
 have n4 := g.n4
 have n16 := g.n16
 have hf := g.fp p hp
 have hq : 0 < c.nodes.toNat := by omega
 have ea : atF c.fp c.np (p : Int) = c.fp p := by unfold atF; rw [if_pos ho]; rfl
 have m0 := Int.emod_nonneg (c.fp p + 1) (show c.nodes ≠ 0 by omega)
 have m1 := Int.emod_lt_of_pos (c.fp p + 1) (show 0 < c.nodes by omega)
 have at_ : ∀ z : Int, 0 ≤ z ∧ z < c.nodes → (z = c.fp p ∨ z = (c.fp p + 1) % c.nodes) → pairN c c.nodes.toNat (pairF c (2 * c.np)) z = p := fun z hz h => by
  unfold pairN atF
  rw [if_neg (by omega), if_pos (by omega)]
  refine (pair_val g nd hp z.toNat).2 ?_
  rw [Int.toNat_of_nonneg hz.1]
  exact h
 have hh : ringF c.nodes (c.fp p) 1 = (c.fp p + 1) % c.nodes := by
  have := (half_at g hp).2
  unfold halfF at this
  rw [if_neg (by omega), show (2 * p + 1) / 2 = p by omega] at this
  exact this
 have h1 := head_at (c := c) (fq := pairF c (2 * c.np)) hq (p : Int)
 rw [ea] at h1
 have h2 := at_ (c.fp p) hf (.inl rfl)
 have h3 : partnerN c c.nodes.toNat (pairF c (2 * c.np)) (c.fp p) = (c.fp p + 1) % c.nodes := by
  unfold partnerN
  rw [h2, h1, if_neg (by omega), if_pos rfl, hh]
 have wi : ∀ (d z : Int), 0 ≤ z ∧ z < c.nodes → (d = 0 ∨ d = 1) → wiP c d p z = if d = 0 then (z - c.fp p) % c.nodes else (c.fp p + 1 - z) % c.nodes := fun d z hz hd => by
  unfold wiP placeF
  rw [ea, if_pos (by simp [ringB, nodeB]; omega)]
 have hB : (c.fp p + 1) % c.nodes = c.fp p + 1 ∨ ((c.fp p + 1) % c.nodes = 0 ∧ c.fp p + 1 = c.nodes) := by
  by_cases h : c.fp p + 1 < c.nodes
  · exact .inl (Int.emod_eq_of_lt (by omega) h)
  · have e : c.fp p + 1 = c.nodes := by omega
    exact .inr ⟨by rw [e, Int.emod_self], e⟩
 have o1 : (1 : Int) % c.nodes = 1 := Int.emod_eq_of_lt (by omega) (by omega)
 refine ⟨c.fp p, (c.fp p + 1) % c.nodes, h1, h3, h2, at_ _ ⟨m0, m1⟩ (.inr rfl), ?_, ?_, ?_, ?_⟩
 · refine (wi 0 _ hf (.inl rfl)).trans ?_
   rw [if_pos rfl, Int.sub_self, Int.zero_emod]
 · refine (wi 1 _ hf (.inr rfl)).trans ?_
   rw [if_neg (by omega), show c.fp p + 1 - c.fp p = 1 by omega, o1]
 · refine (wi 0 _ ⟨m0, m1⟩ (.inl rfl)).trans ?_
   rw [if_pos rfl]
   rcases hB with h | ⟨h, e⟩
   · rw [h, show c.fp p + 1 - c.fp p = 1 by omega, o1]
   · rw [h, show 0 - c.fp p = 1 - c.nodes by omega, Int.sub_emod_right, o1]
 · refine (wi 1 _ ⟨m0, m1⟩ (.inr rfl)).trans ?_
   rw [if_neg (by omega)]
   rcases hB with h | ⟨h, e⟩
   · rw [h, Int.sub_self, Int.zero_emod]
   · rw [h, e, Int.sub_zero, Int.emod_self]
theorem et_full {o k st q v : Int} (h : FrOkA o k st q v) : etO (fullF o k st q v) = o ∧ etK (fullF o k st q v) = k ∧ etS (fullF o k st q v) = st ∧ etN (fullF o k st q v) = q ∧ etV (fullF o k st q v) = v := by
 have e := fun i hi => numK_full h (f := fullF o k st q v) (fun _ _ => rfl) i hi
 have b : ∀ i, i < 10 → bytF o k st q v i = bodF o k st q v i := fun i hi => by unfold bytF; rw [if_pos hi]
 have h1 := h.o0
 have h2 := h.o7
 have h3 := h.k1
 have h4 := h.st
 have h5 := h.q
 have h6 := h.v
 unfold etO etK etS etN etV by4
 rw [e 0 (by omega), e 1 (by omega), e 2 (by omega), e 3 (by omega), e 4 (by omega), e 5 (by omega), e 6 (by omega), e 7 (by omega), e 8 (by omega), e 9 (by omega),
  b 0 (by omega), b 1 (by omega), b 2 (by omega), b 3 (by omega), b 4 (by omega), b 5 (by omega), b 6 (by omega), b 7 (by omega), b 8 (by omega), b 9 (by omega)]
 have d1 : ∀ x : Int, x / 65536 = x / 256 / 256 := fun x => by omega
 have d2 : ∀ x : Int, x / 16777216 = x / 256 / 256 / 256 := fun x => by omega
 have key : ∀ x : Int, 0 ≤ x ∧ x < 4294967296 → ((x / 16777216 % 256 * 256 + x / 65536 % 256) * 256 + x / 256 % 256) * 256 + x % 256 = x := fun x hx => by
  rw [d1, d2]
  obtain ⟨a, ha⟩ : ∃ a, a = x / 256 := ⟨_, rfl⟩
  obtain ⟨b, hb⟩ : ∃ b, b = a / 256 := ⟨_, rfl⟩
  rw [← ha, ← hb]
  have e1 : b / 256 % 256 * 256 + b % 256 = b := by omega
  have e2 : b * 256 + a % 256 = a := by omega
  rw [e1, e2]
  omega
 simp only [bodF]
 refine ⟨by omega, by omega, trivial, ?_, ?_⟩
 · exact key q h5
 · exact key v h6
set_option maxRecDepth 1000000 in
theorem vb_run1 (c : Cfg) (y : Int) (pa : Payload) (h0 : cfgErr c ≠ 0) (hb : c.nb ≤ 9223372036854775807) : ∃ p r, lwR (ENl1 Tryz.prog cfgErr ctsNb) 4 mSR c (nbA y pa) p [] = some r ∧ GoodF (bo true) r := by
 refine vbDx cfgErr c y pa _ ?_
 (repeat' (first | refine ⟨fun h => ?_, fun h => ?_⟩ | fail))
 all_goals (refine ⟨rfl, (by first | (unfold lim; omega) | (dsimp only; unfold lim; omega)), ?_, by simp⟩)
 all_goals (simp_all [allT, cfgK_t, netK_t, intsOk_ints, stsOk_sts, intsOk_s, stsOk_s, h0, hb])
set_option maxRecDepth 1000000 in
theorem vb_run0 (c : Cfg) (y : Int) (pa : Payload) (h0 : cfgErr c = 0) (y0 : 0 ≤ y) (y1 : y ≤ 255) (hp : pa.Ok) : ∃ p lp r, lwR (ENl0 Tryz.prog cfgErr ctsNb) 4 mSR c (nbA y pa) p lp = some r ∧ GoodF (bo true) r := by
 have g := cfg_good h0
 have nd := cfg_nod h0
 have n4 := g.n4
 have n16 := g.n16
 have p2 := g.p2
 have p8 := g.p8
 have s16 := g.s16
 have nt := g.nt
 have nb := g.nb
 have hq : 0 < c.nodes.toNat := by omega
 have hpre := ns_pre g hq
 have hr := ns_rn g hq
 have hw : ∀ d k o : Int, 0 ≤ d → wnQ ⟨c, c.nodes.toNat, pairF c (2 * c.np), [.c (.v (.int .u8 d)), .c (.v (.int .i64 o)), .c (.v (.int .i64 k))]⟩ = true := fun d k o hd => by rw [wnQ_eq, hpre, decide_eq_true hd]; rfl
 obtain ⟨o, eo⟩ : ∃ o, Int.tmod (IntKind.wrap .i64 y) (c.np : Int) = o := ⟨_, rfl⟩
 have ho : 0 ≤ o ∧ o < c.np := by
  rw [← eo, wrap_nat y (by omega) (by omega)]
  exact ⟨Int.tmod_nonneg _ y0, Int.tmod_lt_of_pos _ (by omega)⟩
 obtain ⟨A, B, ok⟩ := vb_ok g nd ho
 obtain ⟨⟨k0, k1⟩, ⟨st0, st1⟩, ⟨q0, q1⟩, v0, v1⟩ := hp
 obtain ⟨k, ek⟩ : ∃ k, IntKind.wrap .u8 (Int.ofNat 1 + Int.tmod pa.kind (Int.ofNat 2)) = k := ⟨_, rfl⟩
 have hk : k = 1 ∨ k = 2 := by
  rw [← ek, ww8, Int.tmod_eq_emod_of_nonneg k0]
  show (1 + pa.kind % 2) % 256 = 1 ∨ (1 + pa.kind % 2) % 256 = 2
  omega
 have hm : mayZ o k = true := by
  unfold mayZ
  rw [decide_eq_true ho.1, decide_eq_true (show o < 8 by omega)]
  rcases hk with rfl | rfl <;> rfl
 have hF : FrOkA o k pa.st pa.seq pa.val := ⟨hm, ho.1, by omega, hk, ⟨st0, by omega⟩, ⟨q0, by omega⟩, ⟨v0, by omega⟩⟩
 have hg : fuG [.agg [.v (.int .i64 o), .v (.int .u8 k), .v (.int .u8 pa.st), .v (.int .u32 pa.seq), .v (.int .u32 pa.val)], .agg [.v (.bool true), .v (.bool false)]] = true := by
  show (mayZ o k && (decide (0 ≤ pa.st ∧ pa.st < 256) && (decide (0 ≤ pa.seq ∧ pa.seq < 4294967296) && decide (0 ≤ pa.val ∧ pa.val < 4294967296)))) = true
  rw [hm, decide_eq_true (by omega), decide_eq_true (by omega), decide_eq_true (by omega)]; rfl
 obtain ⟨f1, f2, f3, f4, f5⟩ := et_full hF
 have h9 : ∀ G : Nat → Int, (fS fun i => (fun k => List.map AC.v ((fun i => [Value.int .u8 (G i)]) k)) (0 + i)) = G := fun G => by
  funext i
  show G (0 + i) = _
  rw [Nat.zero_add]
 have hQ : etQ ⟨114, fullF o k pa.st pa.seq pa.val, []⟩ = true := by
  unfold etQ
  simp only [f1, f2, f3, f4, f5]
  rw [show fuG (syA o k pa.st pa.seq pa.val) = true from hg]
  simp
 refine (?_ : (∃ p r, vbE Tryz.prog cfgErr c y pa p [none, none, some (vbS c o ⟨k, pa.st, pa.seq, pa.val⟩)] = some r ∧ GoodF (bo true) r) → _) (vbDm cfgErr c y o pa ⟨k, pa.st, pa.seq, pa.val⟩ _ ?_)
 · rintro ⟨p, r, h1, h2⟩
   exact ⟨p, _, r, h1, h2⟩
 · simp only [List.headD_cons, eo, ek, ok.hd, ok.pn, ok.pa, ok.pb, ok.w0a, ok.w1a, ok.w0b, ok.w1b, hr, h0, hg, h9, f1, f2, f3, f4, f5, hQ]
   refine ⟨rfl, (by first | (unfold lim; omega) | (dsimp only; unfold lim; omega)), ?_, fun z hz => ?_⟩
   · simp [allT, cfgK_t, netK_t, intsOk_ints, stsOk_sts, intsOk_s, stsOk_s, hw, eqF]
     omega
   · rw [List.mem_singleton.1 hz]
     exact vb_sum c o ⟨k, pa.st, pa.seq, pa.val⟩ (by have := g.l1; omega) (by have := g.l4; omega) (BL.refl (vbK c o ⟨k, pa.st, pa.seq, pa.val⟩))
end Go.Proofs.YtoelekmbmghicaaGreatDoor
end
