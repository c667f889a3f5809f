/- Parts, one behind the other. Laws of a config that came in: from their runs to their calls. -/
import Derived.Test.YthekiiagacnhkaaGreatDoorJB0x17
import Derived.Test.YthekiiagacnhkaaGreatDoorJB0x14
import Derived.Test.YthekiiagacnhkaaGreatDoorJB0x9
import Derived.Test.YthekiiagacnhkaaGreatDoorJB0x15
import Derived.Test.YthekiiagacnhkaaGreatDoorJB0x10
set_option linter.unusedSimpArgs false
set_option linter.unusedVariables false
/- Laws of a config that came in: from their runs to their calls. -/
section
namespace Go.Proofs.YthekiiagacnhkaaGreatDoor
open Go.RowKit

def lwR (E : Env) (f : FuncId) (G : AMem) (c : Cfg) (r : List AV) (path : List Dec) (lp : List (Option LSum)) : Option VF := viewF [] (fCallF E (fC E 300) f (.agg (cfgC c) :: r) 10 10000000000000000000000000000000000000000 (stA (G ++ cfgL c) path lp))
theorem cfg_law {E : Env} (hE : EnvOk E) {f : FuncId} {G : AMem} {w : World} (hG : ∀ p ∈ G, GlobAt w p) {c : Cfg} {cs : List Value} (hc : CfgIn w c cs) {r : List AV} {us : List Value} (hr : ∀ β, γt β r = some us)
    (run : ∃ p lp q, lwR E f G c r p lp = some q ∧ GoodF (bo true) q) : Calls E.P f (.agg cs.toArray :: us).toArray w fun e w' => e = .returned (.bool true) ∧ Below w.heap.size w w' := by
  obtain ⟨p, lp, ⟨v, b', n, ob, po⟩, hrun, hv, hn, hob, hpo⟩ := run
  obtain ⟨s', r1, r2, r3, r4⟩ := viewF_out hrun
  obtain ⟨β, q1, q2, _, q4⟩ := rel_cfgIn hG hc
  have hn : n ≤ lim := hn
  refine (calls_f hE r1 ⟨by rw [r3]; exact hob, by rw [r4]; exact hpo⟩ (C := loneC w) (β := β) (w := w) (vs := .agg cs.toArray :: us) ?_ q1 (fun id h1 h2 => q4 id (by omega) (by omega))).mono ?_
  · simp only [γt, γ1, q2, hr β]
  · rintro e w' ⟨β', u, rfl, _, _, hu, hr'⟩
    simp only at hv
    subst hv
    cases hu
    exact ⟨rfl, below_lone hr'⟩
theorem cfgErr_zero {c : Cfg} (h : cfgErr c = 0) : rule1 c = 0 ∧ rule2 c = 0 ∧ rule3 c = 0 ∧ rule4 c = 0 ∧ rule5 c = 0 ∧ rule6 c = 0 ∧ rule7 c = 0 ∧ rule8 c = 0 ∧ rule9 c = 0 ∧ rule10 c = 0 := by
  unfold cfgErr at h
  generalize rule1 c = x1 at *
  generalize rule2 c = x2 at *
  generalize rule3 c = x3 at *
  generalize rule4 c = x4 at *
  generalize rule5 c = x5 at *
  generalize rule6 c = x6 at *
  generalize rule7 c = x7 at *
  generalize rule8 c = x8 at *
  generalize rule9 c = x9 at *
  generalize rule10 c = x10 at *
  by_cases h1 : x1 = 0 <;> by_cases h2 : x2 = 0 <;> by_cases h3 : x3 = 0 <;> by_cases h4 : x4 = 0 <;> by_cases h5 : x5 = 0 <;> by_cases h6 : x6 = 0 <;> by_cases h7 : x7 = 0 <;> by_cases h8 : x8 = 0 <;> by_cases h9 : x9 = 0 <;> simp_all
end Go.Proofs.YthekiiagacnhkaaGreatDoor
end
/- Laws on a net of a config that came in: their contracts. -/
section
namespace Go.Proofs.YthekiiagacnhkaaGreatDoor
open Go.RowKit

def ctRef4 (err : Cfg → Int) : CtF := ctCfg (fun c => i64 (err c)) fun _ => true
def ENl0 (P : Program) (err : Cfg → Int) (l : List (FuncId × CtF)) : Env := ⟨P, (8, ctNew0 err) :: (9, ctRef4 err) :: l⟩
def ENl1 (P : Program) (err : Cfg → Int) (l : List (FuncId × CtF)) : Env := ⟨P, (8, ctNew1 err) :: (9, ctRef4 err) :: l⟩
theorem hENl0 {l : List (FuncId × CtF)} (hl : ∀ f g, (f, g) ∈ l → CtOk Tryz.prog f g) : EnvOk (ENl0 Tryz.prog cfgErr l) := by
  refine envOk (fun f g h => ?_) (by kernel_rfl) (by kernel_rfl)
  rcases List.mem_cons.1 h with h | h
  · cases h; exact ct_new0
  rcases List.mem_cons.1 h with h | h
  · cases h; exact ct_ref4
  · exact hl f g h
theorem hENl1 {l : List (FuncId × CtF)} (hl : ∀ f g, (f, g) ∈ l → CtOk Tryz.prog f g) : EnvOk (ENl1 Tryz.prog cfgErr l) := by
  refine envOk (fun f g h => ?_) (by kernel_rfl) (by kernel_rfl)
  rcases List.mem_cons.1 h with h | h
  · cases h; exact ct_new1
  rcases List.mem_cons.1 h with h | h
  · cases h; exact ct_ref4
  · exact hl f g h
/-- what holds of a config that may be -/
structure CfgGood (c : Cfg) : Prop where
  n4 : 4 ≤ c.nodes
  n16 : c.nodes ≤ 16
  p2 : 2 ≤ c.np
  p8 : c.np ≤ 8
  s1 : 1 ≤ c.ns
  s16 : c.ns ≤ 16
  l1 : c.nodes + 116 ≤ c.long
  l2 : 3 * c.nodes + 1 ≤ c.long
  l4 : c.long ≤ 4096
  nb : (c.nb : Int) = c.nodes
  nt : c.nt ≤ 8
  miss : 1 ≤ c.miss ∧ c.miss ≤ 100
  good : 1 ≤ c.good ∧ c.good ≤ 100
  fresh : 1 ≤ c.fresh ∧ c.fresh ≤ 100
  fp : ∀ p, p < c.np → 0 ≤ c.fp p ∧ c.fp p < c.nodes
  fs : ∀ i, i < c.ns → 0 ≤ c.fs i ∧ c.fs i < c.np
  has : ∀ p, p < c.np → ∃ i, i < c.ns ∧ c.fs i = p
theorem cfg_good {c : Cfg} (h : cfgErr c = 0) : CfgGood c := by
  obtain ⟨h1, h2, h3, h4, h5, h6, h7, h8, h9, h10⟩ := cfgErr_zero h
  have a1 := withinF_zero h1
  have a2 := withinF_zero h2
  have a4 := withinF_zero h4
  have a6 := withinF_zero h6
  have a8 := withinF_zero h8
  unfold rule3 at h3
  unfold rule5 all5 at h5
  unfold rule7 at h7
  unfold rule10 at h10
  have b3 : insideF c.fp c.np c.nodes = true := by
    split at h3
    · rename_i hh; simp only [Bool.and_eq_true] at hh; exact hh.1
    · cases h3
  split at h5
  · rename_i g5
    simp only [Bool.and_eq_true] at g5
    have b7 : (c.nb : Int) = c.nodes := by
      split at h7
      · assumption
      · cases h7
    have b10 : (1 ≤ c.miss ∧ c.miss ≤ 100) ∧ (1 ≤ c.good ∧ c.good ≤ 100) ∧ (1 ≤ c.fresh ∧ c.fresh ≤ 100) := by
      split at h10
      · rename_i g; exact absurd h10 g
      · rename_i g
        split at h10
        · rename_i g'; exact absurd h10 g'
        · rename_i g'
          exact ⟨withinF_zero (by omega), withinF_zero (by omega), withinF_zero h10⟩
    refine ⟨a1.1, a1.2, by omega, by omega, by omega, by omega, by omega, by omega, a6.2, b7, by omega, b10.1, b10.2.1, b10.2.2, fun p hp => ?_, fun i hi => ?_, fun p hp => ?_⟩
    · have := List.all_eq_true.1 b3 p (by simpa using hp)
      simpa using this
    · have := List.all_eq_true.1 g5.1 i (by simpa using hi)
      simpa using this
    · have := List.all_eq_true.1 g5.2 p (by simpa using hp)
      obtain ⟨i, hi, he⟩ := List.any_eq_true.1 this
      exact ⟨i, by simpa using hi, by simpa using he⟩
  · cases h5
end Go.Proofs.YthekiiagacnhkaaGreatDoor
end
/- ranks.Heir: its contract; what laws on ranks call. -/
section
namespace Go.Proofs.YthekiiagacnhkaaGreatDoor
open Go.RowKit

/-- who would command -/
def heirN (c : Cfg) (nq : Nat) (fq : Nat → Int) (l : List AC) : Int := if 0 ≤ headN c nq fq (IntKind.wrap .i64 (asI (l.getD 40 nov))) then comN c nq fq (vwL (outV (IntKind.wrap .i64 (asI (l.getD 40 nov))) (vwOf l))) else comN c nq fq l
def heirR (c : Cfg) (nq : Nat) (fq : Nat → Int) (l : List AC) (_ : List AV) : AV := .c (.v (.int .i8 (heirN c nq fq l)))
def ctHeir : CtF := ctRd netRd (rV heirR) (pW comP)
set_option maxRecDepth 100000 in
theorem ct_heir : CtOk Tryz.prog 23 ctHeir := by
  refine ctVwW_of (G := mS) (by kernel_rfl) (E := ENhr Tryz.prog) hENhr ⟨_, _, Tryz.func23, rfl⟩ (fun _ _ _ _ _ => rfl) fun c nq fq v r hr => ?_
  simp only [comP, Bool.and_eq_true, decide_eq_true_eq] at hr
  obtain ⟨hr, h8⟩ := hr
  obtain rfl := List.isEmpty_iff.1 hr
  have hR : heirR c nq fq (vwL v) [] = .c (.v (.int .i8 (if 0 ≤ headN c nq fq (IntKind.wrap .i64 v.command) then comN c nq fq (vwL (outV (IntKind.wrap .i64 v.command) v)) else comN c nq fq (vwL v)))) := rfl
  rw [hR]
  refine (?_ : (∃ p q, vwE (ENhr Tryz.prog) 23 c nq fq v [] p [] = some q ∧ GoodF (.c (.v (.int .i8 (if 0 ≤ headN c nq fq (IntKind.wrap .i64 v.command) then comN c nq fq (vwL (outV (IntKind.wrap .i64 v.command) v)) else comN c nq fq (vwL v))))) q) → _) (rkHr c nq fq v _ ?_)
  · rintro ⟨p, q, h1, h2⟩
    exact ⟨p, [], q, h1, h2⟩
  · by_cases hd : 0 ≤ headN c nq fq (IntKind.wrap .i64 v.command)
    · rw [if_pos hd]
      obtain ⟨z0, z1⟩ := headN_in hd
      obtain ⟨z, hz⟩ : ∃ z, IntKind.wrap .i64 v.command = z := ⟨_, rfl⟩
      rw [hz] at hd z0 z1 ⊢
      have hpw : pW comP ⟨c, nq, fq, [.agg (outL z v)]⟩ = true := by
        rw [outL_eq z0 (by omega)]
        simp [pW, comP, isVw_cells, h8]
      refine ⟨fun h => ?_, fun h => ?_⟩
      · simp only [hpw]
        refine ⟨by rw [outL_eq z0 (by omega)], (by first | (unfold lim; omega) | (dsimp only; unfold lim; omega)), ?_, by simp⟩
        have hz : z = 0 ∨ z = 1 ∨ z = 2 ∨ z = 3 ∨ z = 4 ∨ z = 5 ∨ z = 6 ∨ z = 7 := by omega
        rcases hz with rfl | rfl | rfl | rfl | rfl | rfl | rfl | rfl
        all_goals (simp_all [allT, cfgK_t, netK_t, intsOk_ints, stsOk_sts, intsOk_s, stsOk_s, pickC, okl, inb_lit, Vw.len])
      · exfalso
        simp at h
        omega
    · rw [if_neg hd]
      refine ⟨fun h => ?_, fun h => ?_⟩
      · exfalso
        simp at h
        omega
      · refine ⟨rfl, (by first | (unfold lim; omega) | (dsimp only; unfold lim; omega)), ?_, by simp⟩
        simp_all [allT, cfgK_t, netK_t, intsOk_ints, stsOk_sts, intsOk_s, stsOk_s, pW, comP, isVw_cells]
def ctsRk : List (FuncId × CtF) := [(22, ctCom), (23, ctHeir), (24, ctLev), (21, ctTG mS)]
theorem ctsRk_ok : ∀ f g, (f, g) ∈ ctsRk → CtOk Tryz.prog f g := by
  intro f g h
  simp only [ctsRk, List.mem_cons, Prod.mk.injEq, List.not_mem_nil, or_false] at h
  rcases h with ⟨rfl, rfl⟩ | ⟨rfl, rfl⟩ | ⟨rfl, rfl⟩ | ⟨rfl, rfl⟩
  · exact ct_com
  · exact ct_heir
  · exact ct_lev
  · exact ctTG_of (E := E1 Tryz.prog) hE1 ⟨_, _, Tryz.func21, rfl⟩ (by kernel_rfl) (by unfold lim; omega) lv24_run
end Go.Proofs.YthekiiagacnhkaaGreatDoor
end
/- Who commands, by a config that may be: plain facts. -/
section
namespace Go.Proofs.YthekiiagacnhkaaGreatDoor
open Go.RowKit

theorem head_good {c : Cfg} (g : CfgGood c) {nq : Nat} (hq : 0 < nq) (fq : Nat → Int) (z : Int) : 0 ≤ headN c nq fq z ↔ 0 ≤ z ∧ z < c.np := by
  constructor
  · exact headN_in
  · intro h
    unfold headN atF
    rw [if_neg (by omega), if_pos h]
    exact (g.fp z.toNat (by omega)).1
def insP (c : Cfg) (v : Vw) (p : Nat) : Prop := p < c.np ∧ v.inn p = true
theorem inB_good {c : Cfg} (g : CfgGood c) {nq : Nat} (hq : 0 < nq) (fq : Nat → Int) (v : Vw) (p : Nat) : inB c nq fq v p = true ↔ insP c v p := by
  unfold inB hasB insP
  rw [Bool.and_eq_true, decide_eq_true_eq, head_good g hq]
  simp only [Int.ofNat_eq_natCast]
  constructor
  · rintro ⟨⟨_, h⟩, h2⟩; exact ⟨by omega, h2⟩
  · rintro ⟨h, h2⟩; exact ⟨⟨by omega, by omega⟩, h2⟩
def staysP (c : Cfg) (v : Vw) : Prop := 0 ≤ v.command ∧ v.command < c.np ∧ v.inn v.command.toNat = true ∧ v.score v.command.toNat < 64
theorem vw_at (v : Vw) (k : Nat) (h : k < 8) : asB ((vwL v).getD k nov) = v.inn k ∧ asI ((vwL v).getD (24 + k) nov) = v.score k := by
  have a0 := vw_inn v k h
  have a4 := (vw_score v k h).1
  simp only [Nat.zero_add, Nat.mul_one, Int.ofNat_eq_natCast, Int.toNat_natCast] at a0 a4
  exact ⟨a0, a4⟩
theorem levZ_iff (z : Int) : levZ z ≠ 2 ↔ z < 64 := by
  unfold levZ
  (repeat' split) <;> constructor <;> intro h <;> omega
theorem stay_iff {c : Cfg} (g : CfgGood c) {nq : Nat} (hq : 0 < nq) (fq : Nat → Int) (v : Vw) (hc : -128 ≤ v.command ∧ v.command ≤ 127) : stayP (hlC c nq fq (vwL v) (IntKind.wrap .i64 v.command)) (levZ (asI ((vwL v).getD (24 + (IntKind.wrap .i64 v.command).toNat) nov))) ↔ staysP c v := by
  have p8 := g.p8
  have w : IntKind.wrap .i64 v.command = v.command := by
    simp only [IntKind.wrap, IntKind.bits, IntKind.signed]
    first | omega | (simp; omega)
  rw [w]
  unfold stayP hlC staysP
  rw [levZ_iff]
  constructor
  · rintro ⟨h1, h2⟩
    obtain ⟨q1, q2⟩ := hl_in h1
    obtain ⟨z0, z1⟩ := (head_good g hq fq _).1 q1
    obtain ⟨e1, e2⟩ := vw_at v v.command.toNat (by omega)
    rw [e1] at q2
    rw [e2] at h2
    exact ⟨z0, z1, q2, h2⟩
  · rintro ⟨z0, z1, q2, h2⟩
    obtain ⟨e1, e2⟩ := vw_at v v.command.toNat (by omega)
    rw [e1, e2]
    refine ⟨?_, h2⟩
    have hh := (head_good g hq fq v.command).2 ⟨z0, z1⟩
    by_cases h : hlZ (headN c nq fq v.command) (v.inn v.command.toNat) (v.score v.command.toNat) = 1
    · exact .inl h
    · by_cases h' : hlZ (headN c nq fq v.command) (v.inn v.command.toNat) (v.score v.command.toNat) = 2
      · exact .inr h'
      · exact absurd ⟨hh, q2⟩ (hl_out h h')
theorem com_eq {c : Cfg} (g : CfgGood c) {nq : Nat} (hq : 0 < nq) (fq : Nat → Int) (v : Vw) (hc : -128 ≤ v.command ∧ v.command ≤ 127) : (staysP c v → comN c nq fq (vwL v) = v.command) ∧ (¬ staysP c v → comN c nq fq (vwL v) = bestN v (inB c nq fq v)) := by
  have e : comN c nq fq (vwL v) = comZ c nq fq (vwL v) (IntKind.wrap .i64 v.command) v.command := rfl
  rw [e]
  unfold comZ
  refine ⟨fun h => if_pos ((stay_iff g hq fq v hc).2 h), fun h => ?_⟩
  rw [if_neg fun x => h ((stay_iff g hq fq v hc).1 x), mA_eq]
  unfold bestN
  by_cases h0 : cntF (inB c nq fq v) 8 = 0
  · rw [if_neg (by omega), if_pos h0]
  · rw [if_pos (by omega), if_neg h0, fitA_eq (by omega)]
theorem best_good {c : Cfg} (g : CfgGood c) {nq : Nat} (hq : 0 < nq) (fq : Nat → Int) (v : Vw) : ((∀ p, ¬ insP c v p) → bestN v (inB c nq fq v) = -1) ∧ ((∃ p, insP c v p) → ∃ b : Nat, insP c v b ∧ bestN v (inB c nq fq v) = b ∧ ∀ q, insP c v q → v.score b ≤ v.score q) := by
  have p8 := g.p8
  constructor
  · intro h
    refine best_none fun p _ => ?_
    cases hx : inB c nq fq v p with
    | false => rfl
    | true => exact absurd ((inB_good g hq fq v p).1 hx) (h p)
  · rintro ⟨p, hp⟩
    obtain ⟨b, b1, b2, b3, b4⟩ := best_spec (v := v) (t := inB c nq fq v) ⟨p, by have := hp.1; omega, (inB_good g hq fq v p).2 hp⟩
    refine ⟨b, (inB_good g hq fq v b).1 b2, b3, fun q hq' => ?_⟩
    have := b4 q (by have := hq'.1; omega) ((inB_good g hq fq v q).2 hq')
    unfold kLt at this
    simp only [decide_eq_false_iff_not] at this
    omega
theorem heir_eq {c : Cfg} (g : CfgGood c) {nq : Nat} (hq : 0 < nq) (fq : Nat → Int) (v : Vw) (hc : -128 ≤ v.command ∧ v.command ≤ 127) : heirN c nq fq (vwL v) = if 0 ≤ v.command ∧ v.command < c.np then comN c nq fq (vwL (outV v.command v)) else comN c nq fq (vwL v) := by
  have w : IntKind.wrap .i64 v.command = v.command := by
    simp only [IntKind.wrap, IntKind.bits, IntKind.signed]
    first | omega | (simp; omega)
  have e : heirN c nq fq (vwL v) = if 0 ≤ headN c nq fq (IntKind.wrap .i64 v.command) then comN c nq fq (vwL (outV (IntKind.wrap .i64 v.command) v)) else comN c nq fq (vwL v) := rfl
  rw [e, w]
  by_cases h : 0 ≤ v.command ∧ v.command < c.np
  · rw [if_pos h, if_pos ((head_good g hq fq _).2 h)]
  · rw [if_neg h, if_neg fun x => h ((head_good g hq fq _).1 x)]
def othF (v : Vw) (w : Int) (p : Nat) : Bool := v.inn p && decide ((p : Int) ≠ w)
theorem cntF_pos {f : Nat → Bool} {n : Nat} : 0 < cntF f n ↔ ∃ p, p < n ∧ f p = true := by
  constructor
  · intro h
    by_cases e : ∃ p, p < n ∧ f p = true
    · exact e
    · exfalso
      have : cntF f n = 0 := cntF_zero.2 fun i hi => by
        cases hx : f i with
        | false => rfl
        | true => exact absurd ⟨i, hi, hx⟩ e
      omega
  · rintro ⟨p, hp, hf⟩
    by_cases e : cntF f n = 0
    · have := cntF_zero.1 e p hp
      rw [hf] at this; cases this
    · omega
/-- what RanksHeir says -/
theorem hr_main {c : Cfg} (g : CfgGood c) {nq : Nat} (hq : 0 < nq) (fq : Nat → Int) (v : Vw) (hc : -128 ≤ v.command ∧ v.command ≤ 127) :
    let H := heirN c nq fq (vwL v)
    (-1 ≤ H ∧ H < 8) ∧ (0 ≤ H ↔ 0 < cntF (othF v v.command) c.np) ∧ (0 ≤ H → H ≠ v.command) ∧ (0 ≤ v.command → v.command < c.np → comN c nq fq (outL v.command v) = H) ∧ (¬ (0 ≤ v.command ∧ v.command < c.np) → comN c nq fq (vwL v) = H) := by
  intro H
  have p8 := g.p8
  have hH : H = heirN c nq fq (vwL v) := rfl
  rw [heir_eq g hq fq v hc] at hH
  have key : ∀ u : Vw, u.command = v.command → ¬ staysP c u → (∀ p, insP c u p ↔ p < c.np ∧ othF v v.command p = true) → H = comN c nq fq (vwL u) → (-1 ≤ H ∧ H < 8) ∧ (0 ≤ H ↔ 0 < cntF (othF v v.command) c.np) ∧ (0 ≤ H → H ≠ v.command) := by
    intro u hu hs hi he
    have e := (com_eq g hq fq u (by rw [hu]; exact hc)).2 hs
    obtain ⟨b1, b2⟩ := best_good g hq fq u
    rw [he, e, cntF_pos]
    by_cases hx : ∃ p, insP c u p
    · obtain ⟨b, q1, q2, _⟩ := b2 hx
      have q3 := (hi b).1 q1
      rw [q2]
      refine ⟨by omega, ⟨fun _ => ⟨b, q3⟩, fun _ => by omega⟩, fun _ => ?_⟩
      have := q3.2
      unfold othF at this
      simp only [Bool.and_eq_true, decide_eq_true_eq] at this
      exact this.2
    · have q2 := b1 fun p hp => hx ⟨p, hp⟩
      rw [q2]
      refine ⟨by omega, ⟨fun h => by omega, ?_⟩, fun h => by omega⟩
      rintro ⟨p, hp⟩
      exact absurd ⟨p, (hi p).2 hp⟩ hx
  by_cases hr : 0 ≤ v.command ∧ v.command < c.np
  · rw [if_pos hr] at hH
    obtain ⟨k1, k2, k3⟩ := key (outV v.command v) rfl (fun hs => by
        have := hs.2.2.1
        simp only [outV, if_true] at this
        cases this) (fun p => by
        unfold insP othF outV
        simp only [Bool.and_eq_true, decide_eq_true_eq]
        by_cases e : p = v.command.toNat
        · rw [if_pos e]
          constructor
          · rintro ⟨_, h⟩; cases h
          · rintro ⟨_, _, h⟩; omega
        · rw [if_neg e]
          constructor
          · rintro ⟨h1, h2⟩; exact ⟨h1, h2, by omega⟩
          · rintro ⟨h1, h2, _⟩; exact ⟨h1, h2⟩) hH
    exact ⟨k1, k2, k3, fun h1 h2 => by rw [outL_eq h1 (by omega)]; exact hH.symm, fun h => absurd hr h⟩
  · rw [if_neg hr] at hH
    obtain ⟨k1, k2, k3⟩ := key v rfl (fun hs => hr ⟨hs.1, hs.2.1⟩) (fun p => by
        unfold insP othF
        simp only [Bool.and_eq_true, decide_eq_true_eq]
        constructor
        · rintro ⟨h1, h2⟩; exact ⟨h1, h2, by omega⟩
        · rintro ⟨h1, h2, _⟩; exact ⟨h1, h2⟩) hH
    exact ⟨k1, k2, k3, fun h1 h2 => absurd ⟨h1, h2⟩ hr, fun _ => hH.symm⟩
/-- what RanksStay says -/
theorem rs_main {c : Cfg} (g : CfgGood c) {nq : Nat} (hq : 0 < nq) (fq : Nat → Int) (v : Vw) (hc : -128 ≤ v.command ∧ v.command ≤ 127) :
    let T := comN c nq fq (vwL v)
    ((∀ p, ¬ insP c v p) → T = -1 ∧ heirN c nq fq (vwL v) = -1) ∧
    ((∃ p, insP c v p) → 0 ≤ T ∧ T < c.np ∧ v.inn T.toNat = true ∧ (0 ≤ v.command → v.command < c.np → v.inn v.command.toNat = true → (v.score v.command.toNat < 64 → T = v.command) ∧ v.score T.toNat ≤ v.score v.command.toNat) ∧ comN c nq fq (vwL { v with command := T }) = T) := by
  intro T
  have p8 := g.p8
  obtain ⟨s1, s2⟩ := com_eq g hq fq v hc
  obtain ⟨b1, b2⟩ := best_good g hq fq v
  constructor
  · intro hn
    have hs : ¬ staysP c v := fun h => hn v.command.toNat ⟨by have := h.2.1; have := h.1; omega, h.2.2.1⟩
    refine ⟨(s2 hs).trans (b1 hn), ?_⟩
    obtain ⟨k1, k2, k3, _⟩ := hr_main g hq fq v hc
    have : ¬ 0 < cntF (othF v v.command) c.np := fun h => by
      obtain ⟨p, hp, hf⟩ := cntF_pos.1 h
      unfold othF at hf
      simp only [Bool.and_eq_true] at hf
      exact hn p ⟨hp, hf.1⟩
    have := k1.1
    have : ¬ 0 ≤ heirN c nq fq (vwL v) := fun h => by have := k2.1 h; contradiction
    omega
  · intro hx
    obtain ⟨b, q1, q2, q3⟩ := b2 hx
    by_cases hs : staysP c v
    · have e : T = v.command := s1 hs
      rw [e]
      refine ⟨hs.1, hs.2.1, hs.2.2.1, fun _ _ _ => ⟨fun _ => rfl, Int.le_refl _⟩, ?_⟩
      exact s1 hs
    · have e : T = b := (s2 hs).trans q2
      rw [e]
      have hb : (b : Int).toNat = b := Int.toNat_natCast b
      rw [hb]
      have hlt := q1.1
      refine ⟨by omega, by omega, q1.2, fun h1 h2 h3 => ⟨fun h4 => absurd ⟨h1, h2, h3, h4⟩ hs, q3 _ ⟨by omega, h3⟩⟩, ?_⟩
      obtain ⟨t1, t2⟩ := com_eq g hq fq { v with command := (b : Int) } ⟨by show -128 ≤ (b : Int); omega, by show (b : Int) ≤ 127; omega⟩
      by_cases hs' : staysP c { v with command := (b : Int) }
      · exact t1 hs'
      · rw [t2 hs']
        exact q2
end Go.Proofs.YthekiiagacnhkaaGreatDoor
end
