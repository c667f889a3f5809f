/- Parts, one behind the other. Parts of a proof. -/
import Derived.Test.YtfohlkhfnogmdaaGreatDoorJCrewsBound18
import Derived.Test.YtfohlkhfnogmdaaGreatDoorJCrewsBound15
import Derived.Test.YtfohlkhfnogmdaaGreatDoorJCrewsBound9
import Derived.Test.YtfohlkhfnogmdaaGreatDoorJCrewsBound16
import Derived.Test.YtfohlkhfnogmdaaGreatDoorJCrewsBound10
set_option linter.unusedSimpArgs false
set_option linter.unusedVariables false
section
namespace Go.Proofs.YtfohlkhfnogmdaaGreatDoor
open Go.RowKit
def lwR (E : Env) (f : FuncId) (G : AMem) (c : Cfg) (r : List AV) (path : List Dec) (lp : List (Option LSum)) : Option VF := viewF [] (fCallF E (fC E 300) f (.agg (cfgC c) :: r) 10 10000000000000000000000000000000000000000 (stA (G ++ cfgL c) path lp))
theorem jjff {E : Env} (hE : EnvOk E) {f : FuncId} {G : AMem} {w : World} (hG : ∀ p ∈ G, GlobAt w p) {c : Cfg} {cs : List Value} (hc : CfgIn w c cs) {r : List AV} {us : List Value} (hr : ∀ β, γt β r = some us)
 (run : ∃ p lp q, lwR E f G c r p lp = some q ∧ GoodF (bo true) q) : Calls E.P f (.agg cs.toArray :: us).toArray w fun e w' => e = .returned (.bool true) ∧ Below w.heap.size w w' := by
 obtain ⟨p, lp, ⟨v, b', n, ob, po⟩, hrun, hv, hn, hob, hpo⟩ := run; obtain ⟨s', r1, r2, r3, r4⟩ := jjs hrun; obtain ⟨β, q1, q2, _, q4⟩ := jjd3 hG hc; have hn : n ≤ lim := hn; refine (jj1k hE r1 ⟨by rw [r3]; exact hob, by rw [r4]; exact hpo⟩ (C := loneC w) (β := β) (w := w) (vs := .agg cs.toArray :: us) ?_ q1 (fun id h1 h2 => q4 id (by omega) (by omega))).mono ?_
 · simp only [γt, γ1, q2, hr β]
 · rintro e w' ⟨β', u, rfl, _, _, hu, hr'⟩
   simp only at hv; subst hv; cases hu; exact ⟨rfl, jjj hr'⟩
theorem jj3b {c : Cfg} (h : cfgErr c = 0) : rule1 c = 0 ∧ rule2 c = 0 ∧ rule3 c = 0 ∧ rule4 c = 0 ∧ rule5 c = 0 ∧ rule6 c = 0 ∧ rule7 c = 0 ∧ rule8 c = 0 ∧ rule9 c = 0 ∧ rule10 c = 0 := by
 unfold cfgErr at h; generalize rule1 c = x1 at *; generalize rule2 c = x2 at *; generalize rule3 c = x3 at *; generalize rule4 c = x4 at *; generalize rule5 c = x5 at *; generalize rule6 c = x6 at *; generalize rule7 c = x7 at *; generalize rule8 c = x8 at *; generalize rule9 c = x9 at *; generalize rule10 c = x10 at *; by_cases h1 : x1 = 0 <;> by_cases h2 : x2 = 0 <;> by_cases h3 : x3 = 0 <;> by_cases h4 : x4 = 0 <;> by_cases h5 : x5 = 0 <;> by_cases h6 : x6 = 0 <;> by_cases h7 : x7 = 0 <;> by_cases h8 : x8 = 0 <;> by_cases h9 : x9 = 0 <;> simp_all
theorem jjdr {c : Cfg} (h : cfgErr c = 0) : 4 ≤ c.nodes ∧ c.nodes ≤ 16 := jj8 (jj3b h).1
theorem jjms {c : Cfg} (h : cfgErr c = 0) : 2 ≤ c.np ∧ c.np ≤ 8 := by
 have := jj8 (jj3b h).2.1; omega
end Go.Proofs.YtfohlkhfnogmdaaGreatDoor
end
section
namespace Go.Proofs.YtfohlkhfnogmdaaGreatDoor
open Go.RowKit
def ctRef4 (err : Cfg → Int) : CtF := ctCfg (fun c => i64 (err c)) fun _ => true
def ENl0 (P : Program) (err : Cfg → Int) (l : List (FuncId × CtF)) : Env := ⟨P, (11, ctNew0 err) :: (8, ctRef4 err) :: l⟩
def ENl1 (P : Program) (err : Cfg → Int) (l : List (FuncId × CtF)) : Env := ⟨P, (11, ctNew1 err) :: (8, ctRef4 err) :: l⟩
theorem hENl0 {l : List (FuncId × CtF)} (hl : ∀ f g, (f, g) ∈ l → CtOk Tryz.prog f g) : EnvOk (ENl0 Tryz.prog cfgErr l) := by
 refine jj6q (fun f g h => ?_) (by kernel_rfl) (by kernel_rfl); rcases List.mem_cons.1 h with h | h
 · cases h; exact jjfb
 rcases List.mem_cons.1 h with h | h
 · cases h; exact jjfa
 · exact hl f g h
theorem hENl1 {l : List (FuncId × CtF)} (hl : ∀ f g, (f, g) ∈ l → CtOk Tryz.prog f g) : EnvOk (ENl1 Tryz.prog cfgErr l) := by
 refine jj6q (fun f g h => ?_) (by kernel_rfl) (by kernel_rfl); rcases List.mem_cons.1 h with h | h
 · cases h; exact jjjr
 rcases List.mem_cons.1 h with h | h
 · cases h; exact jjfa
 · exact hl f g h
structure CfgGood (c : Cfg) : Prop where
 n4 : 4 ≤ c.nodes
 n16 : c.nodes ≤ 16
 p2 : 2 ≤ c.np
 p8 : c.np ≤ 8
 s1 : 1 ≤ c.ns
 s16 : c.ns ≤ 16
 l1 : c.nodes + 116 ≤ c.long
 l2 : 3 * c.nodes + 1 ≤ c.long
 l4 : c.long ≤ 4096
 nb : (c.nb : Int) = c.nodes
 nt : c.nt ≤ 8
 miss : 1 ≤ c.miss ∧ c.miss ≤ 100
 good : 1 ≤ c.good ∧ c.good ≤ 100
 fresh : 1 ≤ c.fresh ∧ c.fresh ≤ 100
 fp : ∀ p, p < c.np → 0 ≤ c.fp p ∧ c.fp p < c.nodes
 fs : ∀ i, i < c.ns → 0 ≤ c.fs i ∧ c.fs i < c.np
 has : ∀ p, p < c.np → ∃ i, i < c.ns ∧ c.fs i = p
theorem jjhb {c : Cfg} (h : cfgErr c = 0) : CfgGood c := by
 obtain ⟨h1, h2, h3, h4, h5, h6, h7, h8, h9, h10⟩ := jj3b h; have a1 := jj8 h1; have a2 := jj8 h2; have a4 := jj8 h4; have a6 := jj8 h6; have a8 := jj8 h8; unfold rule3 at h3; unfold rule5 all5 at h5; unfold rule7 at h7; unfold rule10 at h10
 have b3 : insideF c.fp c.np c.nodes = true := by
  split at h3
  · rename_i hh; simp only [Bool.and_eq_true] at hh; exact hh.1
  · cases h3
 split at h5
 · rename_i g5
   simp only [Bool.and_eq_true] at g5
   have b7 : (c.nb : Int) = c.nodes := by
    split at h7
    · assumption
    · cases h7
   have b10 : (1 ≤ c.miss ∧ c.miss ≤ 100) ∧ (1 ≤ c.good ∧ c.good ≤ 100) ∧ (1 ≤ c.fresh ∧ c.fresh ≤ 100) := by
    split at h10
    · rename_i g; exact absurd h10 g
    · rename_i g
      split at h10
      · rename_i g'; exact absurd h10 g'
      · rename_i g'
        exact ⟨jj8 (by omega), jj8 (by omega), jj8 h10⟩
   refine ⟨a1.1, a1.2, by omega, by omega, by omega, by omega, by omega, by omega, a6.2, b7, by omega, b10.1, b10.2.1, b10.2.2, fun p hp => ?_, fun i hi => ?_, fun p hp => ?_⟩
   · have := List.all_eq_true.1 b3 p (by simpa using hp)
     simpa using this
   · have := List.all_eq_true.1 g5.1 i (by simpa using hi)
     simpa using this
   · have := List.all_eq_true.1 g5.2 p (by simpa using hp)
     obtain ⟨i, hi, he⟩ := List.any_eq_true.1 this; exact ⟨i, by simpa using hi, by simpa using he⟩
 · cases h5
end Go.Proofs.YtfohlkhfnogmdaaGreatDoor
end
section
namespace Go.Proofs.YtfohlkhfnogmdaaGreatDoor
open Go.RowKit
theorem jj6m {c : Cfg} (g : CfgGood c) {nq : Nat} (hq : 0 < nq) (fq : Nat → Int) (z : Int) : 0 ≤ headN c nq fq z ↔ 0 ≤ z ∧ z < c.np := by
 constructor
 · exact jj5g
 · intro h
   unfold headN atF; rw [if_neg (by omega), if_pos h]; exact (g.fp z.toNat (by omega)).1
end Go.Proofs.YtfohlkhfnogmdaaGreatDoor
end
section
namespace Go.Proofs.YtfohlkhfnogmdaaGreatDoor
open Go.RowKit
def insP (c : Cfg) (v : Vw) (p : Nat) : Prop := p < c.np ∧ v.inn p = true
theorem jjgm {c : Cfg} (g : CfgGood c) {nq : Nat} (hq : 0 < nq) (fq : Nat → Int) (v : Vw) (p : Nat) : inB c nq fq v p = true ↔ insP c v p := by
 unfold inB hasB insP; rw [Bool.and_eq_true, decide_eq_true_eq, jj6m g hq]; simp only [Int.ofNat_eq_natCast]; constructor
 · rintro ⟨⟨_, h⟩, h2⟩; exact ⟨by omega, h2⟩
 · rintro ⟨h, h2⟩; exact ⟨⟨by omega, by omega⟩, h2⟩
def staysP (c : Cfg) (v : Vw) : Prop := 0 ≤ v.command ∧ v.command < c.np ∧ v.inn v.command.toNat = true ∧ v.score v.command.toNat < 64
theorem vw_at (v : Vw) (k : Nat) (h : k < 8) : asB ((vwL v).getD k nov) = v.inn k ∧ asI ((vwL v).getD (24 + k) nov) = v.score k := by
 have a0 := jj46 v k h; have a4 := (jj2f v k h).1; simp only [Nat.zero_add, Nat.mul_one, Int.ofNat_eq_natCast, Int.toNat_natCast] at a0 a4; exact ⟨a0, a4⟩
theorem jjgh (z : Int) : levZ z ≠ 2 ↔ z < 64 := by
 unfold levZ
 (repeat' split) <;> constructor <;> intro h <;> omega
theorem jjai {c : Cfg} (g : CfgGood c) {nq : Nat} (hq : 0 < nq) (fq : Nat → Int) (v : Vw) (hc : -128 ≤ v.command ∧ v.command ≤ 127) : stayP (hlC c nq fq (vwL v) (IntKind.wrap .i64 v.command)) (levZ (asI ((vwL v).getD (24 + (IntKind.wrap .i64 v.command).toNat) nov))) ↔ staysP c v := by
 have p8 := g.p8
 have w : IntKind.wrap .i64 v.command = v.command := by
  simp only [IntKind.wrap, IntKind.bits, IntKind.signed]
  first | omega | (simp; omega)
 rw [w]; unfold stayP hlC staysP; rw [jjgh]; constructor
 · rintro ⟨h1, h2⟩
   obtain ⟨q1, q2⟩ := jjkk h1; obtain ⟨z0, z1⟩ := (jj6m g hq fq _).1 q1; obtain ⟨e1, e2⟩ := vw_at v v.command.toNat (by omega); rw [e1] at q2; rw [e2] at h2; exact ⟨z0, z1, q2, h2⟩
 · rintro ⟨z0, z1, q2, h2⟩
   obtain ⟨e1, e2⟩ := vw_at v v.command.toNat (by omega); rw [e1, e2]; refine ⟨?_, h2⟩; have hh := (jj6m g hq fq v.command).2 ⟨z0, z1⟩; by_cases h : hlZ (headN c nq fq v.command) (v.inn v.command.toNat) (v.score v.command.toNat) = 1
   · exact .inl h
   · by_cases h' : hlZ (headN c nq fq v.command) (v.inn v.command.toNat) (v.score v.command.toNat) = 2
     · exact .inr h'
     · exact absurd ⟨hh, q2⟩ (jjj3 h h')
theorem jjmr {c : Cfg} (g : CfgGood c) {nq : Nat} (hq : 0 < nq) (fq : Nat → Int) (v : Vw) (hc : -128 ≤ v.command ∧ v.command ≤ 127) : (staysP c v → comN c nq fq (vwL v) = v.command) ∧ (¬ staysP c v → comN c nq fq (vwL v) = bestN v (inB c nq fq v)) := by
 have e : comN c nq fq (vwL v) = comZ c nq fq (vwL v) (IntKind.wrap .i64 v.command) v.command := rfl; rw [e]; unfold comZ; refine ⟨fun h => if_pos ((jjai g hq fq v hc).2 h), fun h => ?_⟩; rw [if_neg fun x => h ((jjai g hq fq v hc).1 x), mA_eq]; unfold bestN; by_cases h0 : cntF (inB c nq fq v) 8 = 0
 · rw [if_neg (by omega), if_pos h0]
 · rw [if_pos (by omega), if_neg h0, jjf4 (by omega)]
end Go.Proofs.YtfohlkhfnogmdaaGreatDoor
end
section
namespace Go.Proofs.YtfohlkhfnogmdaaGreatDoor
open Go.RowKit
def comW (c : Cfg) (v : Vw) : Int := if 0 ≤ v.command ∧ v.command < c.np ∧ v.inn v.command.toNat = true ∧ v.score v.command.toNat < 64 then v.command else if cntF v.inn c.np = 0 then -1 else ftB v c.np 0
theorem jjk2 {c : Cfg} (g : CfgGood c) {nq : Nat} (hq : 0 < nq) (fq : Nat → Int) (v : Vw) (hc : -128 ≤ v.command ∧ v.command ≤ 127) : comN c nq fq (vwL v) = comW c v := by
 obtain ⟨k1, k2⟩ := jjmr g hq fq v hc; unfold comW; by_cases hs : staysP c v
 · rw [k1 hs]; exact (if_pos hs).symm
 · rw [k2 hs]
   obtain ⟨b1, b2⟩ := jjj8 (v := v) (t := inB c nq fq v) g.p8 fun p => jjgm g hq fq v p
   refine Eq.trans ?_ (if_neg hs).symm; by_cases h : cntF v.inn c.np = 0
   · rw [if_pos h, b1 h]
   · rw [if_neg h, b2 h]
theorem jjk1 {c : Cfg} (h8 : c.np ≤ 8) (v : Vw) : -1 ≤ comW c v ∧ comW c v < 8 := by
 unfold comW; split
 · omega
 · split
   · omega
   · rename_i h
     have := jjbq (v := v) (np := c.np) (j := 0) (by omega); omega
theorem jjca {l : List AC} (hl : isVw l = true) : vwL (vwOf l) = l := (jjcv hl).symm
end Go.Proofs.YtfohlkhfnogmdaaGreatDoor
end
section
namespace Go.Proofs.YtfohlkhfnogmdaaGreatDoor
open Go.RowKit
abbrev fwN (m : Nat) (f : Nat → Int) : ABlk := wBlk 3 1 m fun i => [.int .i64 (f i)]
abbrev fwT (tk : Nat → Bool) : ABlk := ⟨true, true, 4, 1, .arr 8 fun i => [.v (.bool (tk i))]⟩
abbrev fwI : List Nat := [gid 0, 1000, 1001]
abbrev fwK (c : Cfg) (v : Vw) : List ABlk := [signB, cfgB c, vwB v]
abbrev fwG : Nat := 1100
abbrev fwTI : Nat := 1004
abbrev fwEH : List Nat := [2, 3, 4, 5, 6, 7, 8]
abbrev fwEV (m : Nat) (z : Int) (k : Nat) : List AV := [.c (.ptr 1000 0 0), .c (.ptr 1001 0 0), .c (.v (.slice none 0 0)), .c (.sl fwG 0 0 m none), .c (.sl fwTI 0 0 8 none), i64 z, i64 (Int.ofNat k)]
abbrev fwEI : List Nat := fwG :: fwTI :: fwI
abbrev fwEB (c : Cfg) (v : Vw) (tk : Nat → Bool) (m : Nat) (g : Nat → Int) : List ABlk := fwN m g :: fwT tk :: fwK c v
def fwER (P : Program) (c : Cfg) (v : Vw) (tk : Nat → Bool) (m : Nat) (g : Nat → Int) (z : Int) (k : Nat) (path : List Dec) : Option VC :=
 view (fwEH ++ []) fwEI (fC (E1 P) 100 (loopAt P 140 1) 100000000000000000000000000000000000000000000000000 10000000000000000000000000000000000000000 (stH 54 fwEH fwEI (fwEV m z k) (fwEB c v tk m g) path []))
abbrev fwEO (m : Nat) (z : Int) : List (Nat × AV) := [(2, .c (.ptr 1000 0 0)), (3, .c (.ptr 1001 0 0)), (4, .c (.v (.slice none 0 0))), (5, .c (.sl fwG 0 0 m none)), (6, .c (.sl fwTI 0 0 8 none)), (7, i64 z)]
abbrev fwES (c : Cfg) (v : Vw) (tk : Nat → Bool) (m : Nat) (g : Nat → Int) (z : Int) : LSum := ⟨fwEH, fwEI, mkFr 54 (fwEO m z), fwEI.zip (fwEB c v tk m g), 1000000000000000000000000000000000000000000000000000, .exit 2⟩
abbrev fwH : List Nat := [2, 3, 4, 5, 6]
abbrev fwV (m : Nat) : List AV := [.c (.ptr 1000 0 0), .c (.ptr 1001 0 0), .c (.v (.slice none 0 0)), .c (.sl fwG 0 0 m none), .c (.sl fwTI 0 0 8 none)]
abbrev fwX : Nat := 1000000000000000000000000000000000000000000000000009
def fwR (P : Program) (c : Cfg) (v : Vw) (tk : Nat → Bool) (m : Nat) (g : Nat → Int) (z : Int) (path : List Dec) : Option VC :=
 view fwH ([fwG, fwX] ++ (fwTI :: fwI)) (fC (E1 P) 100 (loopAt P 140 0) 1000000000000000000000000000000000000000000 10000000000000000000000000000000000000000 ⟨mkFr 54 (fwH.zip (fwV m)), fwEI.zip (fwEB c v tk m g), 0, 0, false, path, [], [], [], none, [some (fwES c v tk m g z)]⟩)
abbrev fwS (m : Nat) (g : Nat → Int) : LSum := ⟨fwH, fwTI :: fwI, mkFr 54 [(4, .c (.sl fwG 0 0 m none))], [(fwG, fwN m g)], 10000000000000000000000000000000000000000000000000000, .ret⟩
end Go.Proofs.YtfohlkhfnogmdaaGreatDoor
end
section
namespace Go.Proofs.YtfohlkhfnogmdaaGreatDoor
open Go.RowKit
theorem fwe (c : Cfg) (v : Vw) (tk : Nat → Bool) (m : Nat) (g : Nat → Int) (z : Int) (k : Nat) (Q : VC → Prop) (H : let zz5 := (ABlk.mk true true 4 1 (Cs.arr 8 fun i => [AC.v (Value.bool (tk i))])); let zz0 := [some (ABlk.mk true true 3 1 (Cs.arr m fun k => List.map AC.v ((fun i => [Value.int IntKind.i64 (g i)]) k))), some zz5, some (ABlk.mk false false 26 0 (Cs.lit [AC.v (Value.int IntKind.i64 (Int.ofNat 1)), AC.v (Value.int IntKind.i64 (Int.negSucc 0))])), some (ABlk.mk true false 25 0 (Cs.lit [AC.v (Value.int IntKind.i64 (Cfg.nodes c)), AC.sl 0 0 0 (Cfg.np c) none, AC.sl 1 0 0 (Cfg.ns c) none, AC.v (Value.int IntKind.i64 (Cfg.long c)), AC.sl 2 0 0 (Cfg.nb c) none, AC.sl 3 0 0 (Cfg.nt c) none, AC.v (Value.int IntKind.i64 (Cfg.miss c)), AC.v (Value.int IntKind.i64 (Cfg.good c)), AC.v (Value.int IntKind.i64 (Cfg.fresh c))])), some (ABlk.mk true false 59 0 (Cs.lit (vwL v)))]; let zz1 := [some (lkA (List.zip fwEH (fwEV m z k)) 2), some (lkA (List.zip fwEH (fwEV m z k)) 3), some (lkA (List.zip fwEH (fwEV m z k)) 4), some (lkA (List.zip fwEH (fwEV m z k)) 5), some (lkA (List.zip fwEH (fwEV m z k)) 6), some (lkA (List.zip fwEH (fwEV m z k)) 7), some (AV.c (AC.v (Value.int IntKind.i64 (IntKind.wrap IntKind.i64 (Int.ofNat k + Int.ofNat 1)))))]; let zz2 := (List.getD (vwL v) (0 + Int.toNat (Int.ofNat k) * 1) nov); let zz3 := [some (lkA (List.zip fwEH (fwEV m z k)) 2), some (lkA (List.zip fwEH (fwEV m z k)) 3), some (lkA (List.zip fwEH (fwEV m z k)) 4), some (lkA (List.zip fwEH (fwEV m z k)) 5), some (lkA (List.zip fwEH (fwEV m z k)) 6), some (AV.c (AC.v (Value.int IntKind.i64 (Int.ofNat k)))), some (AV.c (AC.v (Value.int IntKind.i64 (IntKind.wrap IntKind.i64 (Int.ofNat k + Int.ofNat 1)))))]; let zz4 := (asI (List.getD (vwL v) (24 + Int.toNat (Int.ofNat k) * 1) nov) < asI (List.getD (vwL v) (24 + Int.toNat z * 1) nov)); let zq0 : List Bool := [true]; let zq1 : List Bool := (ABlk.inb (ABlk.mk true false 59 0 (Cs.lit (vwL v))) 0 (0 + Int.toNat (Int.ofNat k) * 1 + 1)) :: (okl Kd.b zz2) :: (decide (Int.ofNat 0 ≤ Int.ofNat k ∧ Int.ofNat k < Int.ofNat 8)) :: (decide (Int.ofNat k < ↑(c.np)) == true) :: zq0; let zq2 : List Bool := (ABlk.inb zz5 (0 + Int.toNat (Int.ofNat k)) 1) :: true :: (decide (Int.ofNat 0 ≤ Int.ofNat k ∧ Int.ofNat k < Int.ofNat 8)) :: (asB zz2 == true) :: zq1; let zq3 : List Bool := ((!tk (0 + Int.toNat (Int.ofNat k))) == true) :: zq2; let zq4 : List Bool := (ABlk.inb (ABlk.mk true false 59 0 (Cs.lit (vwL v))) 0 (24 + Int.toNat z * 1 + 1)) :: (okl (Kd.i .u16) (List.getD (vwL v) (24 + Int.toNat z * 1) nov)) :: (decide (Int.ofNat 0 ≤ z ∧ z < Int.ofNat 8)) :: (ABlk.inb (ABlk.mk true false 59 0 (Cs.lit (vwL v))) 0 (24 + Int.toNat (Int.ofNat k) * 1 + 1)) :: (okl (Kd.i .u16) (List.getD (vwL v) (24 + Int.toNat (Int.ofNat k) * 1) nov)) :: (decide (Int.ofNat 0 ≤ Int.ofNat k ∧ Int.ofNat k < Int.ofNat 8)) :: (decide (z < Int.ofNat 0) == false) :: zq3; (((decide (Int.ofNat k < ↑(c.np))) = true → (((asB zz2) = true → (((!tk (0 + Int.toNat (Int.ofNat k))) = true → (((decide (z < Int.ofNat 0)) = true → Q (Exit.normal, zz3, zz0, 54, 100000000260000000000000000000000000000000000000010, ((decide (z < Int.ofNat 0) == true) :: zq3), [])) ∧ ((decide (z < Int.ofNat 0)) = false → (((decide zz4) = true → Q (Exit.normal, zz3, zz0, 54, 100000000260000000000000000000000000000000000000010, ((decide zz4 == true) :: zq4), [])) ∧ ((decide zz4) = false → Q (Exit.normal, zz1, zz0, 54, 100000000260000000000000000000000000000000000000008, ((decide zz4 == false) :: zq4), [])))))) ∧ ((!tk (0 + Int.toNat (Int.ofNat k))) = false → Q (Exit.normal, zz1, zz0, 54, 100000000260000000000000000000000000000000000000008, (((!tk (0 + Int.toNat (Int.ofNat k))) == false) :: zq2), [])))) ∧ ((asB zz2) = false → Q (Exit.normal, zz1, zz0, 54, 100000000260000000000000000000000000000000000000008, ((asB zz2 == false) :: zq1), [])))) ∧ ((decide (Int.ofNat k < ↑(c.np))) = false → Q (Exit.exit 2, [some (lkA (List.zip fwEH (fwEV m z k)) 2), some (lkA (List.zip fwEH (fwEV m z k)) 3), some (lkA (List.zip fwEH (fwEV m z k)) 4), some (lkA (List.zip fwEH (fwEV m z k)) 5), some (lkA (List.zip fwEH (fwEV m z k)) 6), some (lkA (List.zip fwEH (fwEV m z k)) 7), some (lkA (List.zip fwEH (fwEV m z k)) 8)], zz0, 54, 100000000000000000000000000000000000000000000000005, ((decide (Int.ofNat k < ↑(c.np)) == false) :: zq0), [])))) :
 ∃ p r, fwER Tryz.prog c v tk m g z k p = some r ∧ Q r :=
 two H
 (fun g1 => two g1
  (fun g2 => two g2
   (fun g3 => two g3
    (fun g4 => ⟨pD 20 20416, _, by kernel_rfl, g4⟩)
    (fun g4 => two g4
     (fun g5 => ⟨pD 20 1162301566, _, by kernel_rfl, g5⟩)
     (fun g5 => ⟨pD 20 2324563033, _, by kernel_rfl, g5⟩)))
   (fun g3 => ⟨pD 11 1462, _, by kernel_rfl, g3⟩))
  (fun g2 => ⟨pD 11 7, _, by kernel_rfl, g2⟩))
 (fun g1 => ⟨pD 1 2, _, by kernel_rfl, g1⟩)
theorem fwo (c : Cfg) (v : Vw) (tk : Nat → Bool) (m : Nat) (g : Nat → Int) (z : Int) (Q : VC → Prop) (H : let zz2 := (ABlk.mk false false 26 0 (Cs.lit [AC.v (Value.int IntKind.i64 (Int.ofNat 1)), AC.v (Value.int IntKind.i64 (Int.negSucc 0))])); let zz1 := (ABlk.mk true false 25 0 (Cs.lit [AC.v (Value.int IntKind.i64 (Cfg.nodes c)), AC.sl 0 0 0 (Cfg.np c) none, AC.sl 1 0 0 (Cfg.ns c) none, AC.v (Value.int IntKind.i64 (Cfg.long c)), AC.sl 2 0 0 (Cfg.nb c) none, AC.sl 3 0 0 (Cfg.nt c) none, AC.v (Value.int IntKind.i64 (Cfg.miss c)), AC.v (Value.int IntKind.i64 (Cfg.good c)), AC.v (Value.int IntKind.i64 (Cfg.fresh c))])); let zz0 := [LoopV Tryz.prog (loopAt Tryz.prog 140 1) fwEH fwEI [some (AV.c (AC.ptr 1000 0 0)), some (AV.c (AC.ptr 1001 0 0)), some (AV.c (AC.v (Value.slice none 0 0))), some (AV.c (AC.sl 1100 0 0 m none)), some (AV.c (AC.sl 1004 0 0 8 none)), some (AV.c (AC.v (Value.int IntKind.i64 (Int.negSucc 0)))), some (AV.c (AC.v (Value.int IntKind.i64 (Int.ofNat 0))))] [some (ABlk.mk true true 3 1 (Cs.arr m fun k => List.map AC.v ((fun i => [Value.int IntKind.i64 (g i)]) k))), some (ABlk.mk true true 4 1 (Cs.arr 8 fun i => [AC.v (Value.bool (tk i))])), some zz2, some zz1, some (ABlk.mk true false 59 0 (Cs.lit (vwL v)))] 54 1000000000000000000000000000000000000000002 (mkFr 54 (fwEO m z)) (List.zip fwEI (fwEB c v tk m g)) 1000000000000000000000000000000000000000000000000000 (Exit.exit 2) none]; (((decide (z < Int.ofNat 0)) = true → Q (Exit.ret, [some (lkA (fwEO m z) 2), some (lkA (fwEO m z) 3), some (.c (.sl 1100 0 0 m none)), some (lkA (fwEO m z) 5), some (lkA (fwEO m z) 6)], [some (ABlk.mk true true 3 1 (Cs.arr m fun k => List.map AC.v ((fun i => [Value.int .i64 (g i)]) k))), none, some (ABlk.mk true true 4 1 (Cs.arr 8 fun i => [.v (.bool (tk i))])), some zz2, some zz1, some (ABlk.mk true false 59 0 (Cs.lit (vwL v)))], 54, 1000000000000000000000000000000000000000000000000004, [decide (z < Int.ofNat 0) == true], zz0)) ∧ ((decide (z < Int.ofNat 0)) = false → Q (Exit.normal, [some (lkA (fwEO m z) 2), some (lkA (fwEO m z) 3), some (lkA (fwEO m z) 4), some (.c (.sl 1000000000000000000000000000000000000000000000000009 0 0 (m + 1) none)), some (lkA (fwEO m z) 6)], [none, some (ABlk.mk true true 3 1 (Cs.arr (m + 1) fun i => if i < m then List.map AC.v ((fun i => [Value.int .i64 (g i)]) i) else elt (ABlk.mk true false 3 0 (Cs.lit [.v (.int .i64 z)])) 0 0 1 (i - m))), some (ABlk.mk true true 4 1 (Cs.arr 8 fun i => if i = 0 + Int.toNat z then setL ((fun i => [.v (.bool (tk i))]) i) 0 [.v (.bool true)] else [.v (.bool (tk i))])), some zz2, some zz1, some (ABlk.mk true false 59 0 (Cs.lit (vwL v)))], 54, 1000000000000000000000000000000000000000000000000011, [true, true, decide (m ≤ m), decide ((m + 1) * 8 ≤ 140737488355328), ABlk.inb (ABlk.mk true true 4 1 (Cs.arr 8 fun i => [.v (.bool (tk i))])) (0 + Int.toNat z) 1, decide (Int.ofNat 0 ≤ z ∧ z < Int.ofNat 8), decide (z < Int.ofNat 0) == false], zz0)))) :
 ∃ p r, fwR Tryz.prog c v tk m g z p = some r ∧ Q r :=
 two H
 (fun g1 => ⟨pD 1 1, _, by kernel_rfl, g1⟩)
 (fun g1 => ⟨pD 1 2, _, by kernel_rfl, g1⟩)
theorem fwf (c : Cfg) (v : Vw) (m : Nat) (g : Nat → Int) (Q : VF → Prop) (H : Q (.c (.sl 1100 0 0 m none), [some (ABlk.mk true true 3 1 (Cs.arr m fun k => List.map AC.v ((fun i => [Value.int .i64 (g i)]) k)))], 10000000000000000000000000000000000000000000000000000, [true], [LoopV Tryz.prog (loopAt Tryz.prog 140 0) fwH (fwTI :: fwI) [some (.c (.ptr 1000 0 0)), some (.c (.ptr 1001 0 0)), some (.c (AC.v (Value.slice none 0 0))), some (.c (AC.v (Value.slice none 0 0))), some (.c (.sl 1004 0 0 8 none))] [some (ABlk.mk true true 4 1 (Cs.arr 8 fun x => List.map AC.v (Array.toList (Value.cells (Value.bool false))))), some (ABlk.mk false false 26 0 (Cs.lit [.v (.int .i64 (Int.ofNat 1)), .v (.int .i64 (Int.negSucc 0))])), some (ABlk.mk true false 25 0 (Cs.lit [.v (.int .i64 (c.nodes)), AC.sl 0 0 0 (c.np) none, AC.sl 1 0 0 (c.ns) none, .v (.int .i64 (c.long)), AC.sl 2 0 0 (c.nb) none, AC.sl 3 0 0 (c.nt) none, .v (.int .i64 (c.miss)), .v (.int .i64 (c.good)), .v (.int .i64 (c.fresh))])), some (ABlk.mk true false 59 0 (Cs.lit (vwL v)))] 54 1006 (mkFr 54 [(4, .c (.sl fwG 0 0 m none))]) [(fwG, fwN m g)] 10000000000000000000000000000000000000000000000000000 Exit.ret none])) :
 ∃ p r, viewF [fwG] (fCallF (E1 Tryz.prog) (fC (E1 Tryz.prog) 300) 140 [.agg (cfgC c), .agg (vwL v)] 1000 10000000000000000000000000000000000000000 (stA (cfgM c) p [some (fwS m g)])) = some r ∧ Q r :=
 ⟨pD 0 0, _, by kernel_rfl, H⟩
end Go.Proofs.YtfohlkhfnogmdaaGreatDoor
end
section
namespace Go.Proofs.YtfohlkhfnogmdaaGreatDoor
open Go.RowKit
theorem jjf3 (k : Nat) : 0 + Int.toNat (Int.ofNat k) = k := by simp
theorem fw_w1 {k : Nat} (h : k < 9223372036854775807) : IntKind.wrap IntKind.i64 (Int.ofNat k + Int.ofNat 1) = Int.ofNat (k + 1) := by rw [jj6 _ (by simp; omega) (by simp; omega)]; rfl
theorem jjj6 {m : Nat} {f g : Nat → Int} {z : Int} {y : ABlk} (hy : y = ABlk.mk true true 3 1 (Cs.arr (m + 1) fun i => if i < m then List.map AC.v ((fun i => [Value.int IntKind.i64 (f i)]) i) else elt (ABlk.mk true false 3 0 (Cs.lit [AC.v (Value.int IntKind.i64 z)])) 0 0 1 (i - m))) (h1 : ∀ i, i < m → f i = g i) (h2 : z = g m) : BEq y (fwN (m + 1) g) := by
 subst hy; refine ⟨rfl, rfl, rfl, rfl, .inr (.inl ⟨_, _, _, rfl, rfl, fun i hi => ?_⟩)⟩; dsimp only; by_cases h : i < m
 · rw [if_pos h, h1 i h]
 · obtain rfl : i = m := by omega
   rw [if_neg h, h2]; simp [elt]
theorem jjbo {N : Nat} (hN : 1002 ≤ N) {c : Cfg} {v : Vw} : ∀ b ∈ fwK c v, lowB N b := by
 intro b hb; simp only [List.mem_cons, List.not_mem_nil, or_false] at hb; rcases hb with rfl | rfl | rfl
 · exact jj1y rfl
 · exact jj1b (by omega)
 · exact jj1m
theorem jjbn {N : Nat} {tk : Nat → Bool} : lowB N (fwT tk) := jjiq fun k j => by
 match j with
 | 0 => rfl
 | j + 1 => rfl
theorem jjbp {N : Nat} (hN : 1002 ≤ N) {c : Cfg} {v : Vw} {tk : Nat → Bool} {m : Nat} {g : Nat → Int} : ∀ b ∈ fwEB c v tk m g, lowB N b := by
 intro b hb; rcases List.mem_cons.1 hb with rfl | hb
 · exact jjo
 rcases List.mem_cons.1 hb with rfl | hb
 · exact jjbn
 · exact jjbo hN b hb
abbrev fwNE : Nat := 1000000000000000000000000000000000000000002
theorem jjmt (v : Vw) (tk : Nat → Bool) (k : Nat) : bsF v tk k < k ∧ -1 ≤ bsF v tk k := by
 rcases jj64 v tk k with ⟨e, _⟩ | ⟨b, e, h, _⟩ <;> omega
set_option maxRecDepth 100000 in
theorem fw_e (c : Cfg) (v : Vw) (tk : Nat → Bool) (m : Nat) (g : Nat → Int) (h8 : c.np ≤ 8) :
 LoopV Tryz.prog (loopAt Tryz.prog 140 1) fwEH fwEI ((fwEV m (Int.negSucc 0) 0).map some) ((fwEB c v tk m g).map some) 54 fwNE (mkFr 54 (fwEO m (bsF v tk c.np))) (fwEI.zip (fwEB c v tk m g)) 1000000000000000000000000000000000000000000000000000 (.exit 2) none := by
 refine jj3c hE1 (fuel := 100) (str := 10000000000000000000000000000000000000000) (nh := 100000000000000000000000000000000000000000000000000) (n' := 1000000000000000000000000000000000000000000000000000) fwEH [] fwEI (fun k => fwEV m (bsF v tk k) k) (fwEB c v tk m g) c.np (by decide) (by decide) (by unfold lim; omega) (by simp) (fun _ => ⟨rfl, rfl⟩) (by kernel_rfl) (fun _ _ => rfl) (jjbp (show 1002 ≤ fwNE by decide)) ?_ ?_
 · intro k hk
   have w := fw_w1 (show k < 9223372036854775807 by omega); have hk8 : k < 8 := by omega
   have a0 := jj46 v k hk8; have b0 := jj4g v k hk8; obtain ⟨a4, b4⟩ := jj2f v k hk8; obtain ⟨z1, z2⟩ := jjmt v tk k; have hs := jjcf v tk k; obtain ⟨z, hz⟩ : ∃ z, bsF v tk k = z := ⟨_, rfl⟩
   have hzs : 0 ≤ z → asI (List.getD (vwL v) (24 + Int.toNat z * 1) nov) = v.score z.toNat ∧ okl (.i .u16) (List.getD (vwL v) (24 + Int.toNat z * 1) nov) = true := fun h0 => by
    obtain ⟨q, rfl⟩ := Int.eq_ofNat_of_zero_le h0; have := jj2f v q (by omega); simpa using this
   rw [hz] at z1 z2 hs
   have nx : ∀ {n1 : Nat} {ob : List Bool} {z' : Int}, n1 ≤ 1000000000000000000000000000000000000000000000000000 → allT ob → z' = bsF v tk (k + 1) → NextV 1000000000000000000000000000000000000000000000000000 54 7 (fwEV m (bsF v tk (k + 1)) (k + 1)) (fwEB c v tk m g) (.normal, [some (lkA (List.zip fwEH (fwEV m z k)) 2), some (lkA (List.zip fwEH (fwEV m z k)) 3), some (lkA (List.zip fwEH (fwEV m z k)) 4), some (lkA (List.zip fwEH (fwEV m z k)) 5), some (lkA (List.zip fwEH (fwEV m z k)) 6), some (.c (.v (.int .i64 z'))), some (.c (.v (.int .i64 (Int.ofNat (k + 1)))))], (fwEB c v tk m g).map some, 54, n1, ob, []) := by
    rintro n1 ob _ h1 h2 rfl; exact ⟨⟨h2, rfl, h1, rfl⟩, rfl, rfl, BL.refl (fwEB c v tk m g)⟩
   simp only [hz]; refine (fwe c v tk m g z k _ ?_); simp only [w, a0, a4]; refine ⟨fun c1 => ⟨fun c2 => ⟨fun c3 => ⟨fun c4 => ?_, fun c4 => ⟨fun c5 => ?_, fun c5 => ?_⟩⟩, fun c3 => ?_⟩, fun c2 => ?_⟩, fun c1 => ?_⟩
   · simp only [jjf3] at c3
     have t0 : tk k = false := by simpa using c3
     have z0 : z < 0 := by simpa using c4
     refine nx (by omega) ?_ (by rw [hs, if_pos ⟨c2, t0, .inl z0⟩]; rfl); simp only [jjf3, b0] ; simp [allT, jj9, jj5, Vw.len, c2, t0, z0]; omega
   · simp only [jjf3] at c3
     have t0 : tk k = false := by simpa using c3
     have z0 : ¬ z < 0 := by simpa using c4
     obtain ⟨y1, y2⟩ := hzs (by omega); rw [y1] at c5; have z3 : v.score k < v.score z.toNat := of_decide_eq_true c5; refine nx (by omega) ?_ (by rw [hs, if_pos ⟨c2, t0, .inr z3⟩]; rfl); simp only [jjf3, b0, b4, y1, y2]; simp [allT, jj9, jj5, Vw.len, c2, t0, z0, z3]; omega
   · simp only [jjf3] at c3
     have t0 : tk k = false := by simpa using c3
     have z0 : ¬ z < 0 := by simpa using c4
     obtain ⟨y1, y2⟩ := hzs (by omega); rw [y1] at c5; have z3 : ¬ v.score k < v.score z.toNat := of_decide_eq_false c5; refine nx (by omega) ?_ (by rw [hs, if_neg (fun x => x.2.2.elim z0 z3)]); simp only [jjf3, b0, b4, y1, y2]; simp [allT, jj9, jj5, Vw.len, c2, t0, z0, z3]; omega
   · simp only [jjf3] at c3
     have t0 : tk k = true := by simpa using c3
     refine nx (by omega) ?_ (by rw [hs, if_neg (fun x => by rw [t0] at x; cases x.2.1)]); simp only [jjf3, b0]; simp [allT, jj9, jj5, Vw.len, c2, t0]; omega
   · refine nx (by omega) ?_ (by rw [hs, if_neg (fun x => by rw [c2] at x; cases x.1)])
     simp only [b0]; simp [allT, jj9, jj5, Vw.len, c2]; omega
   · simp at c1; omega
 · refine fwe c v tk m g (bsF v tk c.np) c.np _ ⟨fun c1 => ?_, fun c1 => ?_⟩
   · simp at c1
   · refine ⟨⟨by simp only [allT, List.forall_mem_cons, c1]; simp, rfl, by dsimp only; omega, rfl⟩, rfl, fun p hp => ?_, jjlv (by kernel_rfl) (jjbp (show 1002 ≤ fwNE by decide)) rfl⟩
     simp only [List.mem_cons, List.not_mem_nil, or_false] at hp; rcases hp with rfl | rfl | rfl | rfl | rfl | rfl
     · exact ⟨rfl, .head _⟩
     · exact ⟨rfl, .tail _ (.head _)⟩
     · exact ⟨rfl, .tail _ (.tail _ (.head _))⟩
     · exact ⟨rfl, .tail _ (.tail _ (.tail _ (.head _)))⟩
     · exact ⟨rfl, .tail _ (.tail _ (.tail _ (.tail _ (.head _))))⟩
     · exact ⟨rfl, .tail _ (.tail _ (.tail _ (.tail _ (.tail _ (.head _)))))⟩
theorem jjj7 {f : Nat → List AC} {tk : Nat → Bool} (h : ∀ i, i < 8 → f i = [.v (.bool (tk i))]) : BEq (ABlk.mk true true 4 1 (.arr 8 f)) (fwT tk) := ⟨rfl, rfl, rfl, rfl, .inr (.inl ⟨8, _, _, rfl, rfl, fun i hi => h i hi⟩)⟩
set_option maxRecDepth 100000 in
theorem fw_o (c : Cfg) (v : Vw) (h8 : c.np ≤ 8) {y : ABlk} (hy : BEq y (fwT fun _ => false)) :
 LoopV Tryz.prog (loopAt Tryz.prog 140 0) fwH (fwTI :: fwI) [some (.c (.ptr 1000 0 0)), some (.c (.ptr 1001 0 0)), some (.c (.v (.slice none 0 0))), some (.c (.v (.slice none 0 0))), some (.c (.sl fwTI 0 0 8 none))] (some y :: (fwK c v).map some) 54 1006 (mkFr 54 [(4, .c (.sl fwG 0 0 (cntF v.inn c.np) none))]) [(fwG, fwN (cntF v.inn c.np) (ftB v c.np))] 10000000000000000000000000000000000000000000000000000 .ret none := by
 have hT := jj4p v.inn c.np; refine jjbg hE1 (fuel := 100) (str := 10000000000000000000000000000000000000000) (nh := 1000000000000000000000000000000000000000000) (S := Nat) (fun j => j ≤ cntF v.inn c.np) (fun j => cntF v.inn c.np - j) fwH ([fwG, fwX] ++ (fwTI :: fwI)) [fwG] (fwTI :: fwI) (fwTI :: fwI) (fun j => fwV j) (fun j => [fwN j (ftB v c.np)]) (fun j => fwT (tkJ v c.np j) :: fwK c v) (by decide) (by decide) (by unfold lim; omega) (s0 := 0) (Nat.zero_le _) ⟨fun _ => .inr 1, ?_⟩ ?_
 · refine jjge (A := []) (kb := some y :: (fwK c v).map some) rfl (by kernel_rfl) ?_ ?_ (by kernel_rfl) ?_ ?_
   · exact jj2z (.head _) (fun h => (by cases h)) (jj1l rfl) (jj2z (.tail _ (.head _)) (fun h => (by cases h)) (jj1l rfl) (jj2z (.tail _ (.tail _ (.head _))) (fun h => (by cases h)) (jj1l rfl) (jj2z (.tail _ (.tail _ (.tail _ (.head _)))) (fun h => (by cases h)) (jjhj (by decide) (by decide) (by decide) rfl) (jj2z (.tail _ (.tail _ (.tail _ (.tail _ (.head _))))) (fun h => (by cases h)) (jj1l rfl) (jjgo)))))
   · exact jjba (jjlt rfl rfl rfl rfl ⟨_, rfl⟩) jjgf
   · intro b hb
     rcases List.mem_cons.1 hb with rfl | hb
     · exact jjbn
     · exact jjbo (by omega) b hb
   · exact ⟨hy, BL.refl (fwK c v)⟩
 · intro j hj
   refine (?_ : (∃ p r, fwR Tryz.prog c v (tkJ v c.np j) j (ftB v c.np) (ftB v c.np j) p = some r ∧ _) → _) (fwo c v (tkJ v c.np j) j (ftB v c.np) (ftB v c.np j) (StepM 1006 1000000000000000000000000000000000000000000 10000000000000000000000000000000000000000000000000000 54 fwH ([fwG, fwX] ++ (fwTI :: fwI)) [fwG] (fwTI :: fwI) (fun j : Nat => j ≤ cntF v.inn c.np) (fun j => cntF v.inn c.np - j) (fun j => fwV j) (fun j => [fwN j (ftB v c.np)]) (fun j => fwT (tkJ v c.np j) :: fwK c v) .ret [(4, .c (.sl fwG 0 0 (cntF v.inn c.np) none))] [(fwG, fwN (cntF v.inn c.np) (ftB v c.np))] j) ?_)
   · rintro ⟨p, r, h1, h2⟩
     exact ⟨p, _, r, h1, h2⟩
   · have he := fw_e c v (tkJ v c.np j) j (ftB v c.np) h8
     refine ⟨fun c1 => ?_, fun c1 => ?_⟩
     · have z0 : ftB v c.np j < 0 := by simpa using c1
       obtain rfl : j = cntF v.inn c.np := by
        by_cases h : j < cntF v.inn c.np
        · have := jjbq h; omega
        · omega
       refine ⟨by simp only [allT, List.forall_mem_cons, c1]; simp, fun q hq => ?_, by dsimp only; omega, rfl, .inr ⟨by simp, rfl, fun g => .inl g, ?_⟩⟩
       · rw [List.mem_singleton.1 hq]; exact he
       · refine jjge (hs := [4]) (vals := [.c (.sl fwG 0 0 (cntF v.inn c.np) none)]) (gs := [fwG]) (gb := [fwN (cntF v.inn c.np) (ftB v c.np)]) (ids := []) (blks := []) (A := [(fwG, _), (fwX, none), (fwTI, _), (gid 0, _), (1000, _), (1001, _)]) (kb := []) rfl (by kernel_rfl) ?_ ?_ (by kernel_rfl) (fun b hb => by cases hb) trivial
         · exact jj2z (.tail _ (.tail _ (.head _))) (fun h => (by cases h)) (jjfj (by decide) (by decide) (by decide) rfl) jjgo
         · exact jjba (jjin rfl rfl rfl (.head _) (BEq.refl _) jjo) jjgf
     · have z0 : ¬ ftB v c.np j < 0 := by simpa using c1
       have hlt : j < cntF v.inn c.np := by
        by_cases h : j < cntF v.inn c.np
        · exact h
        · have e := jjm2 v c.np
          have : j = cntF v.inn c.np := by omega
          rw [← this] at e; exact absurd e z0
       have hm := jjbq hlt; obtain ⟨b, hb⟩ := Int.eq_ofNat_of_zero_le hm.1; have hb' : bsF v (tkJ v c.np j) c.np = (b : Int) := hb
       have ht : ∀ i, tkJ v c.np (j + 1) i = if i = b then true else tkJ v c.np j i := fun i => by
        show tkU (tkJ v c.np j) (bsF v (tkJ v c.np j) c.np).toNat i = _; rw [hb', Int.toNat_natCast]; rfl
       refine ⟨?_, fun q hq => ?_, by dsimp only; omega, rfl, .inl ⟨rfl, j + 1, hlt, by show cntF v.inn c.np - (j + 1) < cntF v.inn c.np - j; omega, fun _ => .inl fwX, ?_⟩⟩
       · rw [hb]; simp [allT, jj5]; omega
       · rw [List.mem_singleton.1 hq]; exact he
       · refine jjge (A := [(fwG, none), (fwX, _)]) (kb := some _ :: (fwK c v).map some) rfl (by kernel_rfl) ?_ ?_ (by kernel_rfl) ?_ ?_
         · exact jj2z (.head _) (fun h => (by cases h)) (jj1l rfl) (jj2z (.tail _ (.head _)) (fun h => (by cases h)) (jj1l rfl) (jj2z (.tail _ (.tail _ (.head _))) (fun h => (by cases h)) (jj1l rfl) (jj2z (.tail _ (.tail _ (.tail _ (.head _)))) (fun h => (by cases h)) (jjfj (by decide) (by decide) (by decide) rfl) (jj2z (.tail _ (.tail _ (.tail _ (.tail _ (.head _))))) (fun h => (by cases h)) (jj1l rfl) (jjgo)))))
         · exact jjba (jjin rfl rfl rfl (.tail _ (.head _)) (jjj6 rfl (fun _ _ => rfl) rfl) jjo) jjgf
         · intro b hb
           rcases List.mem_cons.1 hb with rfl | hb
           · exact jjbn
           · exact jjbo (by omega) b hb
         · refine ⟨jjj7 fun i hi => ?_, BL.refl (fwK c v)⟩
           rw [ht, hb, Int.toNat_natCast, Nat.zero_add]; by_cases e : i = b
           · rw [if_pos e, if_pos e]; rfl
           · rw [if_neg e, if_neg e]
def ftLen : CfgS → Nat
 | ⟨c, [.agg l]⟩ => cntF (vwOf l).inn c.np
 | _ => 0
def ftF : CfgS → Nat → Int
 | ⟨c, [.agg l]⟩ => ftB (vwOf l) c.np
 | _ => fun _ => 0
def ftPre : CfgS → Bool
 | ⟨c, [.agg l]⟩ => isVw l && decide (c.np ≤ 8)
 | _ => false
def ctFit24 : CtF := ctRdL cfgRd ftLen (fun s => fwN (ftLen s) (ftF s)) ftPre
theorem jjh4 : CtOk Tryz.prog 140 ctFit24 := by
 refine jjh8 (E := E1 Tryz.prog) hE1 cfgRd fwG (fuel := 300) (str := 10000000000000000000000000000000000000000) ⟨_, _, Tryz.func140, rfl⟩ (fun _ => rfl) (fun _ => ⟨_, _, rfl⟩) (fun s k j h => jjhn (ty := 3) (sz := 1) (n := ftLen s) (f := fun i => [.int .i64 (ftF s i)]) (fun _ => rfl) k j h) fun s hs => ?_
 unfold ftPre at hs; split at hs
 · rename_i c l
   simp only [Bool.and_eq_true, decide_eq_true_eq] at hs; obtain ⟨hl, h8⟩ := hs; have e := jjcv hl; show ∃ p lp r, viewF [fwG] (fCallF (E1 Tryz.prog) (fC (E1 Tryz.prog) 300) 140 [.agg (cfgC c), .agg l] 1000 10000000000000000000000000000000000000000 (stA (cfgM c) p lp)) = some r ∧ GoodL fwG (cntF (vwOf l).inn c.np) (fwN (cntF (vwOf l).inn c.np) (ftB (vwOf l) c.np)) r
   generalize vwOf l = v at e ⊢; subst e; refine (?_ : (∃ p r, viewF [fwG] (fCallF (E1 Tryz.prog) (fC (E1 Tryz.prog) 300) 140 [.agg (cfgC c), .agg (vwL v)] 1000 10000000000000000000000000000000000000000 (stA (cfgM c) p [some (fwS (cntF v.inn c.np) (ftB v c.np))])) = some r ∧ GoodL fwG (cntF v.inn c.np) (fwN (cntF v.inn c.np) (ftB v c.np)) r) → _) (fwf c v (cntF v.inn c.np) (ftB v c.np) _ ?_)
   · rintro ⟨p, r, h1, h2⟩
     exact ⟨p, _, r, h1, h2⟩
   · refine ⟨rfl, ⟨_, rfl, BEq.refl _⟩, (by first | (unfold lim; omega) | (dsimp only; unfold lim; omega)), by simp [allT], fun q hq => ?_⟩
     rw [List.mem_singleton.1 hq]; exact fw_o c v h8 (jjj7 fun i hi => rfl)
 · cases hs
end Go.Proofs.YtfohlkhfnogmdaaGreatDoor
end
section
namespace Go.Proofs.YtfohlkhfnogmdaaGreatDoor
open Go.RowKit
def ENcw (P : Program) : Env := ⟨P, [(140, ctFit24)]⟩
theorem hENcw : EnvOk (ENcw Tryz.prog) := by
 refine jj6q (fun f g h => ?_) (by kernel_rfl) (by kernel_rfl); simp only [ENcw, List.mem_cons, Prod.mk.injEq, List.not_mem_nil, or_false] at h; obtain ⟨rfl, rfl⟩ := h; exact jjh4
theorem cwT (c : Cfg) (v : Vw) (Q : VF → Prop) (H : let zz0 := (List.getD (vwL v) (24 + Int.toNat (IntKind.wrap IntKind.i64 (Vw.command v)) * 1) nov); let zz1 := (List.getD (vwL v) (0 + Int.toNat (IntKind.wrap IntKind.i64 (Vw.command v)) * 1) nov); let zz2 := (↑(ftLen (CfgS.mk c [AV.agg (vwL v)])) == Int.ofNat 0); let zz3 := (IntKind.wrap IntKind.i64 (Vw.command v) ≥ Int.ofNat 0); let zz4 := (ABlk.mk true true 3 1 (Cs.arr (ftLen (CfgS.mk c [AV.agg (vwL v)])) fun k => List.map AC.v ((fun i => [Value.int IntKind.i64 (ftF (CfgS.mk c [AV.agg (vwL v)]) i)]) k))); let zz5 := (IntKind.wrap IntKind.i64 (Vw.command v) < ↑(Cfg.np c)); let zz6 := (0 + Int.toNat (IntKind.wrap IntKind.i64 (Vw.command v)) * 1 + 1); let zz7 := (AC.v (Value.int IntKind.i64 (ftF (CfgS.mk c [AV.agg (vwL v)]) 0))); let zz8 := (24 + Int.toNat (IntKind.wrap IntKind.i64 (Vw.command v)) * 1 + 1); let zt : List Bool → List Bool := fun l => true :: true :: true :: true :: true :: true :: true :: true :: l; let zu : List Bool → List Bool := fun l => zt (zt (zt (zt l))); let zq0 : List Bool := [true, true]; let zq1 : List Bool := true :: (decide zz3 == true) :: zq0; let zq2 : List Bool := (ABlk.inb (ABlk.mk true false 59 0 (Cs.lit (vwL v))) 0 zz6) :: (okl Kd.b zz1) :: (decide (Int.ofNat 0 ≤ IntKind.wrap .i64 (Vw.command v) ∧ IntKind.wrap .i64 (Vw.command v) < Int.ofNat 8)) :: (decide zz5 == true) :: zq1; let zq3 : List Bool := (ABlk.inb (ABlk.mk true false 59 0 (Cs.lit (vwL v))) 0 zz8) :: (okl (Kd.i .u16) zz0) :: (decide (Int.ofNat 0 ≤ IntKind.wrap .i64 (Vw.command v) ∧ IntKind.wrap .i64 (Vw.command v) < Int.ofNat 8)) :: (asB zz1 == true) :: zq2; let zq4 : List Bool := (cfgK c) :: (ftPre (CfgS.mk c [AV.agg (vwL v)])) :: (zu (zt (zt (true :: ((decide (asI zz0 ≥ Int.ofNat 64) == true) :: zq3))))); let zq5 : List Bool := (decide (asI zz0 ≥ Int.ofNat 64) == false) :: zq3; let zq6 : List Bool := (cfgK c) :: (ftPre (CfgS.mk c [AV.agg (vwL v)])) :: (zu (zt (zt (true :: ((asB zz1 == false) :: zq2))))); let zq7 : List Bool := (cfgK c) :: (ftPre (CfgS.mk c [AV.agg (vwL v)])) :: (zu (zt (zt (true :: ((decide zz5 == false) :: zq1))))); let zq8 : List Bool := (cfgK c) :: (ftPre (CfgS.mk c [AV.agg (vwL v)])) :: (zu (zt (zt (true :: ((decide zz3 == false) :: zq0))))); (((decide zz3) = true → (((decide zz5) = true → (((asB zz1) = true → (((decide (asI zz0 ≥ Int.ofNat 64)) = true → ((zz2 = true → Q (.c (.v (.int .i64 (Int.negSucc 0))), [], 1041, ((zz2 == true) :: zq4), [])) ∧ (zz2 = false → Q (AV.c zz7, [], 1044, ((ABlk.inb zz4 0 1) :: true :: (decide (Int.ofNat 0 ≤ Int.ofNat 0 ∧ Int.ofNat 0 < ↑(ftLen (CfgS.mk c [AV.agg (vwL v)])))) :: (zz2 == false) :: zq4), [])))) ∧ ((decide (asI zz0 ≥ Int.ofNat 64)) = false → (((decide (asI zz0 ≥ Int.ofNat 16)) = true → Q (.c (.v (.int .i64 (IntKind.wrap .i64 (Vw.command v)))), [], 1037, ((decide (asI zz0 ≥ Int.ofNat 16) == true) :: zq5), [])) ∧ ((decide (asI zz0 ≥ Int.ofNat 16)) = false → Q (.c (.v (.int .i64 (IntKind.wrap .i64 (Vw.command v)))), [], 1037, ((decide (asI zz0 ≥ Int.ofNat 16) == false) :: zq5), [])))))) ∧ ((asB zz1) = false → ((zz2 = true → Q (.c (.v (.int .i64 (Int.negSucc 0))), [], 1032, ((zz2 == true) :: zq6), [])) ∧ (zz2 = false → Q (AV.c zz7, [], 1035, ((ABlk.inb zz4 0 1) :: true :: (decide (Int.ofNat 0 ≤ Int.ofNat 0 ∧ Int.ofNat 0 < ↑(ftLen (CfgS.mk c [AV.agg (vwL v)])))) :: (zz2 == false) :: zq6), [])))))) ∧ ((decide zz5) = false → ((zz2 = true → Q (.c (.v (.int .i64 (Int.negSucc 0))), [], 1028, ((zz2 == true) :: zq7), [])) ∧ (zz2 = false → Q (AV.c zz7, [], 1031, ((ABlk.inb zz4 0 1) :: true :: (decide (Int.ofNat 0 ≤ Int.ofNat 0 ∧ Int.ofNat 0 < ↑(ftLen (CfgS.mk c [AV.agg (vwL v)])))) :: (zz2 == false) :: zq7), [])))))) ∧ ((decide zz3) = false → ((zz2 = true → Q (.c (.v (.int .i64 (Int.negSucc 0))), [], 1023, ((zz2 == true) :: zq8), [])) ∧ (zz2 = false → Q (AV.c zz7, [], 1026, ((ABlk.inb zz4 0 1) :: true :: (decide (Int.ofNat 0 ≤ Int.ofNat 0 ∧ Int.ofNat 0 < ↑(ftLen (CfgS.mk c [AV.agg (vwL v)])))) :: (zz2 == false) :: zq8), [])))))) :
 ∃ p r, cvE (ENcw Tryz.prog) 78 c [.agg (vwL v)] p [] = some r ∧ Q r :=
 two H
 (fun g1 => two g1
  (fun g2 => two g2
   (fun g3 => two g3
    (fun g4 => two g4
     (fun g5 => ⟨pD 18 133943059, _, by kernel_rfl, g5⟩)
     (fun g5 => ⟨pD 18 263083222, _, by kernel_rfl, g5⟩))
    (fun g4 => two g4
     (fun g5 => ⟨pD 18 23934772, _, by kernel_rfl, g5⟩)
     (fun g5 => ⟨pD 18 38283679, _, by kernel_rfl, g5⟩)))
   (fun g3 => two g3
    (fun g4 => ⟨pD 17 43086331, _, by kernel_rfl, g4⟩)
    (fun g4 => ⟨pD 17 86133052, _, by kernel_rfl, g4⟩)))
  (fun g2 => two g2
   (fun g3 => ⟨pD 17 43047208, _, by kernel_rfl, g3⟩)
   (fun g3 => ⟨pD 17 86093929, _, by kernel_rfl, g3⟩)))
 (fun g1 => two g1
  (fun g2 => ⟨pD 17 43046723, _, by kernel_rfl, g2⟩)
  (fun g2 => ⟨pD 17 86093444, _, by kernel_rfl, g2⟩))
end Go.Proofs.YtfohlkhfnogmdaaGreatDoor
end
section
namespace Go.Proofs.YtfohlkhfnogmdaaGreatDoor
open Go.RowKit
def cwR : CfgS → AV
 | ⟨c, [.agg l]⟩ => i64 (comW c (vwOf l))
 | _ => i64 0
def cwP : CfgS → Bool
 | ⟨c, [.agg l]⟩ => isVw l && (decide (c.np ≤ 8) && (decide (-128 ≤ asI (l.getD 40 nov)) && decide (asI (l.getD 40 nov) ≤ 127)))
 | _ => false
theorem jjm6 (c : Cfg) (l : List AC) : cwP ⟨c, [.agg l]⟩ = (isVw l && (decide (c.np ≤ 8) && (decide (-128 ≤ asI (l.getD 40 nov)) && decide (asI (l.getD 40 nov) ≤ 127)))) := rfl
theorem ct_cw : CtOk Tryz.prog 78 (ctRd cfgRd cwR cwP) := by
 refine jj1i (E := ENcw Tryz.prog) hENcw cfgRd (fuel := 300) (str := 10000000000000000000000000000000000000000) ⟨_, _, Tryz.func78, rfl⟩ (fun s => by unfold cwR; split <;> rfl) fun s hs => ?_
 unfold cwP at hs; split at hs
 · rename_i c l
   simp only [Bool.and_eq_true, decide_eq_true_eq] at hs; obtain ⟨hl, h8, hc1, hc2⟩ := hs; have e := jjcv hl; show ∃ p lp r, viewF [] (fCallF (ENcw Tryz.prog) (fC (ENcw Tryz.prog) 300) 78 [.agg (cfgC c), .agg l] 1000 10000000000000000000000000000000000000000 (stA (cfgM c) p lp)) = some r ∧ GoodF (i64 (comW c (vwOf l))) r
   obtain ⟨u, hu⟩ : ∃ u, vwOf l = u := ⟨_, rfl⟩
   rw [hu] at e ⊢; have ku : vwOf (vwL u) = u := by rw [vwL, ← e, hu]
   subst e; have hc1 : -128 ≤ u.command := hc1; have hc2 : u.command ≤ 127 := hc2
   have f1 : ftLen (CfgS.mk c [.agg (vwL u)]) = cntF u.inn c.np := by
    show cntF (vwOf (vwL u)).inn c.np = _; rw [ku]
   have f2 : ftF (CfgS.mk c [.agg (vwL u)]) = ftB u c.np := by
    show ftB (vwOf (vwL u)) c.np = _; rw [ku]
   have f3 : ftPre (CfgS.mk c [.agg (vwL u)]) = true := by
    show (isVw (vwL u) && decide (c.np ≤ 8)) = true; rw [show isVw (vwL u) = true from jjf u, decide_eq_true h8]; rfl
   refine (?_ : (∃ p r, cvE (ENcw Tryz.prog) 78 c [.agg (vwL u)] p [] = some r ∧ GoodF (i64 (comW c u)) r) → _) (cwT c u _ ?_)
   · rintro ⟨p, r, h1, h2⟩
     exact ⟨p, [], r, h1, h2⟩
   · simp only [f1, f2, f3]
     obtain ⟨n, hn⟩ : ∃ n, cntF u.inn c.np = n := ⟨_, rfl⟩
     obtain ⟨b, hb⟩ : ∃ b, ftB u c.np 0 = b := ⟨_, rfl⟩
     have hR : comW c u = if 0 ≤ u.command ∧ u.command < c.np ∧ u.inn u.command.toNat = true ∧ u.score u.command.toNat < 64 then u.command else if n = 0 then -1 else b := by rw [← hn, ← hb]; rfl
     have hm1 : (Int.negSucc 0) = (-1 : Int) := rfl; simp only [hn, hb, hR, hm1]; by_cases hs : 0 ≤ u.command ∧ u.command < c.np
     · obtain ⟨q, hq⟩ := Int.eq_ofNat_of_zero_le hs.1
       have hq8 : q < 8 := by omega
       have w : IntKind.wrap .i64 u.command = Int.ofNat q := by rw [hq, jj6 _ (by omega) (by omega)]; rfl
       have a0 := jj46 u q hq8; have b0 := jj4g u q hq8; obtain ⟨a4, b4⟩ := jj2f u q hq8; have hqn : q < c.np := by omega
       simp only [w, a0, b0, a4, b4, hq, Int.toNat_natCast]
       (repeat' (first | refine ⟨fun h => ?_, fun h => ?_⟩ | fail))
       all_goals (refine ⟨?_, (by first | (unfold lim; omega) | (dsimp only; unfold lim; omega)), ?_, by simp⟩)
       all_goals (simp only [decide_eq_true_eq, decide_eq_false_iff_not, beq_iff_eq, beq_eq_false_iff_ne, Int.ofNat_eq_natCast, Int.cast_ofNat_Int, ge_iff_le] at *)
       all_goals (first | (exfalso; omega) | skip)
       all_goals (first | (simp_all [i64]; done) | (simp_all [i64]; omega) | (simp_all [allT, jjn, jju, jj1, jj3, jj7, jjg, jj9, jj5, Vw.len]; done) | (simp_all [allT, jjn, jju, jj1, jj3, jj7, jjg, jj9, jj5, Vw.len]; omega))
     · have w : IntKind.wrap .i64 u.command = u.command := jj6 _ (by omega) (by omega)
       have hs' : ¬ (0 ≤ u.command ∧ u.command < c.np ∧ u.inn u.command.toNat = true ∧ u.score u.command.toNat < 64) := fun x => hs ⟨x.1, x.2.1⟩
       simp only [w, if_neg hs']
       (repeat' (first | refine ⟨fun h => ?_, fun h => ?_⟩ | fail))
       all_goals (simp only [decide_eq_true_eq, decide_eq_false_iff_not, Int.ofNat_eq_natCast, Int.cast_ofNat_Int, ge_iff_le] at *)
       all_goals (first | (exfalso; omega) | skip)
       all_goals (refine ⟨?_, (by first | (unfold lim; omega) | (dsimp only; unfold lim; omega)), ?_, by simp⟩)
       all_goals (first | (simp_all [i64]; done) | (simp_all [i64]; omega) | (simp_all [allT, jjn, jju, jj1, jj3, jj7, jjg, jj9, jj5, Vw.len]; done) | (simp_all [allT, jjn, jju, jj1, jj3, jj7, jjg, jj9, jj5, Vw.len]; omega))
 · cases hs
end Go.Proofs.YtfohlkhfnogmdaaGreatDoor
end
section
namespace Go.Proofs.YtfohlkhfnogmdaaGreatDoor
open Go.RowKit
theorem fp_in {c : Cfg} (h : cfgErr c = 0) {p : Nat} (hp : p < c.np) : 0 ≤ c.fp p ∧ c.fp p < c.nodes := by
 have h3 := (jj3b h).2.2.1; unfold rule3 at h3; split at h3
 · rename_i hh
   simp only [Bool.and_eq_true] at hh; have := List.all_eq_true.1 hh.1 p (by simpa using hp); simpa using this
 · cases h3
theorem jjgn {c : Cfg} (h : cfgErr c = 0) {fq : Nat → Int} (p : Nat) : headN c c.nodes.toNat fq (Int.ofNat p) = if p < c.np then c.fp p else -1 := by
 have hn := jjdr h; unfold headN atF; rw [if_neg (by omega)]; by_cases hp : p < c.np
 · rw [if_pos hp, if_pos (by simp; omega)]; rfl
 · rw [if_neg hp, if_neg (by simp; omega)]
theorem jjf0 {c : Cfg} (h : cfgErr c = 0) {fq : Nat → Int} (p : Nat) : hasB c c.nodes.toNat fq p = decide (p < c.np) := by
 unfold hasB; rw [jjgn h]; by_cases hp : p < c.np
 · rw [if_pos hp]; have := fp_in h hp; simp [hp, this.1]
 · rw [if_neg hp]; simp [hp]
theorem jjcc (f : Nat → Bool) (n : Nat) : ∀ m, n ≤ m → cntF (fun p => decide (p < n) && f p) m = cntF f n
 | 0, h => by
  obtain rfl : n = 0 := by omega
  rfl
 | m + 1, h => by
  by_cases e : n = m + 1
  · subst e
    exact jj1a fun i hi => by simp [hi]
  · rw [cntF, jjcc f n m (by omega)]
    have : ¬ m < n := by omega
    simp [this]
theorem jjh9 (n : Nat) : cntF (fun _ => true) n = n := by
 induction n with
 | zero => rfl
 | succ n ih => rw [cntF, ih]; rfl
theorem jjk9 {c : Cfg} (h : cfgErr c = 0) (l : List AC) (cmd : Int) : asksC c (Int.toNat c.nodes) (pairF c (2 * c.np)) l cmd = refAs c.np l cmd := by
 have hp := jjms h; unfold asksC refAs
 have e1 : insN c (Int.toNat c.nodes) (pairF c (2 * c.np)) l = refN c.np l := by
  unfold insN refN; rw [← jjcc (fun p => asB (l.getD p nov)) c.np 8 (by omega)]; exact jj1a fun i _ => by rw [jjf0 h]
 have e2 : allN c (Int.toNat c.nodes) (pairF c (2 * c.np)) = c.np := by
  unfold allN; have h1 := jjcc (fun _ => true) c.np 8 (by omega); rw [jjh9] at h1; refine Eq.trans (jj1a fun i _ => ?_) h1; rw [jjf0 h]; simp
 rw [e1, e2]
theorem jj4s (n : Nat) (l : List AC) (cmd : Int) : 1 ≤ refAs n l cmd ∧ refAs n l cmd ≤ 4 := jj9n _ _ _
end Go.Proofs.YtfohlkhfnogmdaaGreatDoor
end
