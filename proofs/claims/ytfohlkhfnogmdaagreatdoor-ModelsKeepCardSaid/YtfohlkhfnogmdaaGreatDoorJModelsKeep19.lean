/- Parts, one behind the other. Parts of a proof. -/
import Derived.Test.YtfohlkhfnogmdaaGreatDoorJModelsKeep18
import Derived.Test.YtfohlkhfnogmdaaGreatDoorJModelsKeep15
import Derived.Test.YtfohlkhfnogmdaaGreatDoorJModelsKeep9
import Derived.Test.YtfohlkhfnogmdaaGreatDoorJModelsKeep16
set_option linter.unusedSimpArgs false
set_option linter.unusedVariables false
section
namespace Go.Proofs.YtfohlkhfnogmdaaGreatDoor
open Go.RowKit
def lwR (E : Env) (f : FuncId) (G : AMem) (c : Cfg) (r : List AV) (path : List Dec) (lp : List (Option LSum)) : Option VF := viewF [] (fCallF E (fC E 300) f (.agg (cfgC c) :: r) 10 nSt (stA (G ++ cfgL c) path lp))
theorem jjdw {E : Env} (hE : EnvOk E) {f : FuncId} {G : AMem} {w : World} (hG : ∀ p ∈ G, GlobAt w p) {c : Cfg} {cs : List Value} (hc : CfgIn w c cs) {r : List AV} {us : List Value} (hr : ∀ β, γt β r = some us)
 (run : ∃ p lp q, lwR E f G c r p lp = some q /\ GoodF (bo true) q) : Calls E.P f (.agg cs.toArray :: us).toArray w fun e w' => e = .returned (.bool true) /\ Below w.heap.size w w' := by
 obtain ⟨p, lp, ⟨v, b', n, ob, po⟩, hrun, hv, hn, hob, hpo⟩ := run; obtain ⟨s', r1, r2, r3, r4⟩ := jjl hrun; obtain ⟨β, q1, q2, _, q4⟩ := jjbq hG hc; have hn : n <= lim := hn; refine (jjz hE r1 ⟨by rw [r3]; exact hob, by rw [r4]; exact hpo⟩ (C := loneC w) (β := β) (w := w) (vs := .agg cs.toArray :: us) ?_ q1 (fun id h1 h2 => q4 id (by omega) (by omega))).mono ?_
 . simp only [γt, γ1, q2, hr β]
 . rintro e w' ⟨β', u, rfl, _, _, hu, hr'⟩
   simp only at hv; subst hv; cases hu; exact ⟨rfl, jjk hr'⟩
theorem jj5b {c : Cfg} (h : cfgErr c = 0) : rule1 c = 0 /\ rule2 c = 0 /\ rule3 c = 0 /\ rule4 c = 0 /\ rule5 c = 0 /\ rule6 c = 0 /\ rule7 c = 0 /\ rule8 c = 0 /\ rule9 c = 0 /\ rule10 c = 0 := by
 unfold cfgErr at h; generalize rule1 c = x1 at *; generalize rule2 c = x2 at *; generalize rule3 c = x3 at *; generalize rule4 c = x4 at *; generalize rule5 c = x5 at *; generalize rule6 c = x6 at *; generalize rule7 c = x7 at *; generalize rule8 c = x8 at *; generalize rule9 c = x9 at *; generalize rule10 c = x10 at *; by_cases h1 : x1 = 0 <;> by_cases h2 : x2 = 0 <;> by_cases h3 : x3 = 0 <;> by_cases h4 : x4 = 0 <;> by_cases h5 : x5 = 0 <;> by_cases h6 : x6 = 0 <;> by_cases h7 : x7 = 0 <;> by_cases h8 : x8 = 0 <;> by_cases h9 : x9 = 0 <;> simp_all
def ctRef4 (err : Cfg -> Int) : CtF := ctCfg (fun c => i64 (err c)) fun _ => true
def ENl0 (P : Program) (err : Cfg -> Int) (l : List (FuncId × CtF)) : Env := ⟨P, (11, ctNew0 err) :: (8, ctRef4 err) :: l⟩
def ENl1 (P : Program) (err : Cfg -> Int) (l : List (FuncId × CtF)) : Env := ⟨P, (11, ctNew1 err) :: (8, ctRef4 err) :: l⟩
theorem hENl0 {l : List (FuncId × CtF)} (hl : ∀ f g, (f, g) ∈ l -> CtOk Tryz.prog f g) : EnvOk (ENl0 Tryz.prog cfgErr l) := by
 refine jj3w (fun f g h => ?_) (by kernel_rfl) (by kernel_rfl); rcases List.mem_cons.1 h with h | h
 . cases h; exact jjil
 rcases List.mem_cons.1 h with h | h
 . cases h; exact jjdu
 . exact hl f g h
theorem hENl1 {l : List (FuncId × CtF)} (hl : ∀ f g, (f, g) ∈ l -> CtOk Tryz.prog f g) : EnvOk (ENl1 Tryz.prog cfgErr l) := by
 refine jj3w (fun f g h => ?_) (by kernel_rfl) (by kernel_rfl); rcases List.mem_cons.1 h with h | h
 . cases h; exact jjik
 rcases List.mem_cons.1 h with h | h
 . cases h; exact jjdu
 . exact hl f g h
structure CfgGood (c : Cfg) : Prop where
 n4 : 4 <= c.nodes
 n16 : c.nodes <= 16
 p2 : 2 <= c.np
 p8 : c.np <= 8
 s1 : 1 <= c.ns
 s16 : c.ns <= 16
 l1 : c.nodes + 116 <= c.long
 l2 : 3 * c.nodes + 1 <= c.long
 l4 : c.long <= 4096
 nb : (c.nb : Int) = c.nodes
 nt : c.nt <= 8
 miss : 1 <= c.miss /\ c.miss <= 100
 good : 1 <= c.good /\ c.good <= 100
 fresh : 1 <= c.fresh /\ c.fresh <= 100
 fp : ∀ p, p < c.np -> 0 <= c.fp p /\ c.fp p < c.nodes
 fs : ∀ i, i < c.ns -> 0 <= c.fs i /\ c.fs i < c.np
 has : ∀ p, p < c.np -> ∃ i, i < c.ns /\ c.fs i = p
theorem jjfx {c : Cfg} (h : cfgErr c = 0) : CfgGood c := by
 obtain ⟨h1, h2, h3, h4, h5, h6, h7, h8, h9, h10⟩ := jj5b h; have a1 := jja h1; have a2 := jja h2; have a4 := jja h4; have a6 := jja h6; have a8 := jja h8; unfold rule3 at h3; unfold rule5 all5 at h5; unfold rule7 at h7; unfold rule10 at h10
 have b3 : insideF c.fp c.np c.nodes = true := by
  split at h3
  . rename_i hh; simp only [Bool.and_eq_true] at hh; exact hh.1
  . cases h3
 split at h5
 . rename_i g5
   simp only [Bool.and_eq_true] at g5
   have b7 : (c.nb : Int) = c.nodes := by
    split at h7
    . assumption
    . cases h7
   have b10 : (1 <= c.miss /\ c.miss <= 100) /\ (1 <= c.good /\ c.good <= 100) /\ (1 <= c.fresh /\ c.fresh <= 100) := by
    split at h10
    . rename_i g; exact absurd h10 g
    . rename_i g
      split at h10
      . rename_i g'; exact absurd h10 g'
      . rename_i g'
        exact ⟨jja (by omega), jja (by omega), jja h10⟩
   refine ⟨a1.1, a1.2, by omega, by omega, by omega, by omega, by omega, by omega, a6.2, b7, by omega, b10.1, b10.2.1, b10.2.2, fun p hp => ?_, fun i hi => ?_, fun p hp => ?_⟩
   . have := List.all_eq_true.1 b3 p (by simpa using hp)
     simpa using this
   . have := List.all_eq_true.1 g5.1 i (by simpa using hi)
     simpa using this
   . have := List.all_eq_true.1 g5.2 p (by simpa using hp)
     obtain ⟨i, hi, he⟩ := List.any_eq_true.1 this; exact ⟨i, by simpa using hi, by simpa using he⟩
 . cases h5
theorem jj43 {c : Cfg} (g : CfgGood c) {nq : Nat} (hq : 0 < nq) (fq : Nat -> Int) (z : Int) : 0 <= headN c nq fq z ↔ 0 <= z /\ z < c.np := by
 constructor
 . exact jj4o
 . intro h
   unfold headN atF; rw [if_neg (by omega), if_pos h]; exact (g.fp z.toNat (by omega)).1
def insP (c : Cfg) (v : Vw) (p : Nat) : Prop := p < c.np /\ v.inn p = true
theorem jj5r {c : Cfg} (g : CfgGood c) {nq : Nat} (hq : 0 < nq) (fq : Nat -> Int) (v : Vw) (p : Nat) : inB c nq fq v p = true ↔ insP c v p := by
 unfold inB hasB insP; rw [Bool.and_eq_true, decide_eq_true_eq, jj43 g hq]; simp only [Int.ofNat_eq_natCast]; constructor
 . rintro ⟨⟨_, h⟩, h2⟩; exact ⟨by omega, h2⟩
 . rintro ⟨h, h2⟩; exact ⟨⟨by omega, by omega⟩, h2⟩
def staysP (c : Cfg) (v : Vw) : Prop := 0 <= v.command /\ v.command < c.np /\ v.inn v.command.toNat = true /\ v.score v.command.toNat < 64
theorem vw_at (v : Vw) (k : Nat) (h : k < 8) : asB ((vwL v).getD k nov) = v.inn k /\ asI ((vwL v).getD (24 + k) nov) = v.score k := by
 have a0 := jj4w v k h; have a4 := (jj16 v k h).1; simp only [Nat.zero_add, Nat.mul_one, Int.ofNat_eq_natCast, Int.toNat_natCast] at a0 a4; exact ⟨a0, a4⟩
theorem jjex (z : Int) : levZ z ≠ 2 ↔ z < 64 := by
 unfold levZ
 (repeat' split) <;> constructor <;> intro h <;> omega
theorem jj9q {c : Cfg} (g : CfgGood c) {nq : Nat} (hq : 0 < nq) (fq : Nat -> Int) (v : Vw) (hc : -128 <= v.command /\ v.command <= 127) : stayP (hlC c nq fq (vwL v) (IntKind.wrap .i64 v.command)) (levZ (asI ((vwL v).getD (24 + (IntKind.wrap .i64 v.command).toNat) nov))) ↔ staysP c v := by
 have p8 := g.p8
 have w : IntKind.wrap .i64 v.command = v.command := by
  simp only [IntKind.wrap, IntKind.bits, IntKind.signed]
  first | omega | (simp; omega)
 rw [w]; unfold stayP hlC staysP; rw [jjex]; constructor
 . rintro ⟨h1, h2⟩
   obtain ⟨q1, q2⟩ := jjj3 h1; obtain ⟨z0, z1⟩ := (jj43 g hq fq _).1 q1; obtain ⟨e1, e2⟩ := vw_at v v.command.toNat (by omega); rw [e1] at q2; rw [e2] at h2; exact ⟨z0, z1, q2, h2⟩
 . rintro ⟨z0, z1, q2, h2⟩
   obtain ⟨e1, e2⟩ := vw_at v v.command.toNat (by omega); rw [e1, e2]; refine ⟨?_, h2⟩; have hh := (jj43 g hq fq v.command).2 ⟨z0, z1⟩; by_cases h : hlZ (headN c nq fq v.command) (v.inn v.command.toNat) (v.score v.command.toNat) = 1
   . exact .inl h
   . by_cases h' : hlZ (headN c nq fq v.command) (v.inn v.command.toNat) (v.score v.command.toNat) = 2
     . exact .inr h'
     . exact absurd ⟨hh, q2⟩ (jji3 h h')
theorem jjl7 {c : Cfg} (g : CfgGood c) {nq : Nat} (hq : 0 < nq) (fq : Nat -> Int) (v : Vw) (hc : -128 <= v.command /\ v.command <= 127) : (staysP c v -> comN c nq fq (vwL v) = v.command) /\ (¬ staysP c v -> comN c nq fq (vwL v) = bestN v (inB c nq fq v)) := by
 have e : comN c nq fq (vwL v) = comZ c nq fq (vwL v) (IntKind.wrap .i64 v.command) v.command := rfl; rw [e]; unfold comZ; refine ⟨fun h => if_pos ((jj9q g hq fq v hc).2 h), fun h => ?_⟩; rw [if_neg fun x => h ((jj9q g hq fq v hc).1 x), mA_eq]; unfold bestN; by_cases h0 : cntF (inB c nq fq v) 8 = 0
 . rw [if_neg (by omega), if_pos h0]
 . rw [if_pos (by omega), if_neg h0, jjdq (by omega)]
theorem jjck {c : Cfg} (g : CfgGood c) {nq : Nat} (hq : 0 < nq) (fq : Nat -> Int) (v : Vw) : ((∀ p, ¬ insP c v p) -> bestN v (inB c nq fq v) = -1) /\ ((∃ p, insP c v p) -> ∃ b : Nat, insP c v b /\ bestN v (inB c nq fq v) = b /\ ∀ q, insP c v q -> v.score b <= v.score q) := by
 have p8 := g.p8; constructor
 . intro h
   refine jjcj fun p _ => ?_
   cases hx : inB c nq fq v p with
   | false => rfl
   | true => exact absurd ((jj5r g hq fq v p).1 hx) (h p)
 . rintro ⟨p, hp⟩
   obtain ⟨b, b1, b2, b3, b4⟩ := jjci (v := v) (t := inB c nq fq v) ⟨p, by have := hp.1; omega, (jj5r g hq fq v p).2 hp⟩; refine ⟨b, (jj5r g hq fq v b).1 b2, b3, fun q hq' => ?_⟩; have := b4 q (by have := hq'.1; omega) ((jj5r g hq fq v q).2 hq'); unfold kLt at this; simp only [decide_eq_false_iff_not] at this; omega
def anyF (f : Nat -> Bool) : Nat -> Bool
 | 0 => false
 | k + 1 => anyF f k || f k
theorem jjba {f : Nat -> Bool} : ∀ {n : Nat}, anyF f n = true ↔ ∃ p, p < n /\ f p = true
 | 0 => by simp [anyF]
 | n + 1 => by
  simp only [anyF, Bool.or_eq_true, jjba (n := n)]; constructor
  . rintro (⟨p, h1, h2⟩ | h)
    . exact ⟨p, by omega, h2⟩
    . exact ⟨n, by omega, h⟩
  . rintro ⟨p, h1, h2⟩
    by_cases e : p = n
    . exact .inr (e ▸ h2)
    . exact .inl ⟨p, by omega, h2⟩
theorem jjit {c : Cfg} (g : CfgGood c) {nq : Nat} (hq : 0 < nq) (fq : Nat -> Int) (u : Vw) (hc : -128 <= u.command /\ u.command <= 127) (T : Int) (hT : comN c nq fq (vwL u) = T) :
 (-1 <= T /\ T < 8) /\ (0 <= T ↔ anyF u.inn c.np = true) /\ (0 <= T -> T < c.np /\ u.inn T.toNat = true) := by
 have p8 := g.p8; obtain ⟨k1, k2⟩ := jjl7 g hq fq u hc; obtain ⟨b1, b2⟩ := jjck g hq fq u; rw [hT] at k1 k2; have hany : anyF u.inn c.np = true ↔ ∃ p, insP c u p := jjba
 by_cases hs : staysP c u
 . have e := k1 hs
   obtain ⟨s1, s2, s3, _⟩ := hs; rw [e]; refine ⟨by omega, ⟨fun _ => hany.2 ⟨u.command.toNat, by omega, s3⟩, fun _ => s1⟩, fun _ => ⟨s2, s3⟩⟩
 . have e := k2 hs
   by_cases hx : ∃ p, insP c u p
   . obtain ⟨b, q1, q2, _⟩ := b2 hx
     rw [e, q2]; refine ⟨by have := q1.1; omega, ⟨fun _ => hany.2 hx, fun _ => by omega⟩, fun _ => ⟨by have := q1.1; omega, by simpa using q1.2⟩⟩
   . have q2 := b1 fun p hp => hx ⟨p, hp⟩
     rw [e, q2]; refine ⟨by omega, ⟨fun h => by omega, fun h => absurd (hany.1 h) hx⟩, fun h => by omega⟩
def cdU (c : Cfg) (v : Vw) : Vw := rndV ⟨c.np, c.miss, c.good⟩ v
def cdC (c : Cfg) (v : Vw) : Int := comN c c.nodes.toNat (pairF c (2 * c.np)) (vwL (cdU c v))
def cdX (c : Cfg) (v : Vw) : Vw := { cdU c v with command := cdC c v, mode := nextZ (asksC c c.nodes.toNat (pairF c (2 * c.np)) (inL (cdU c v)) (cdC c v)) v.mode }
def keH (own : Int) (b : Bool) (u : Vw) : Vw := if b = true then hrdV true own u else u
structure KeI (c : Cfg) (v : Vw) (bit : Nat -> Bool) (r q : Nat) (u : Vw) : Prop where
 pos : ∀ p, p < 8 -> 0 <= u.miss p /\ 0 <= u.good p /\ 0 <= u.score p
 cmd : -128 <= u.command /\ u.command <= 127
 mode : 0 <= u.mode
 keep : ∀ p, p < c.np -> bit p = true -> v.inn p = true -> u.inn p = true
 good : ∀ p, p < c.np -> bit p = true -> (c.good <= (r : Int) -> u.inn p = true) /\ min (r : Int) 100 <= u.good p
 heard : ∀ p, p < c.np -> bit p = true -> ∀ j, j < q -> c.fs j = (p : Int) -> u.got p = true
 lost : ∀ p, p < c.np -> bit p = false -> 1 <= r -> u.got p = false /\ min ((r : Int) - 1) 100 <= u.miss p /\ (c.miss < (r : Int) -> u.inn p = false)
theorem jjhi {c : Cfg} {v : Vw} {bit : Nat -> Bool} (hg : 1 <= c.good) (h1 : ∀ p, p < 8 -> 0 <= v.miss p /\ 0 <= v.good p /\ 0 <= v.score p) (h2 : -128 <= v.command /\ v.command <= 127) (h3 : 0 <= v.mode) (h8 : c.np <= 8) : KeI c v bit 0 0 v :=
 ⟨h1, h2, h3, fun p _ _ h => h, fun p hp _ => ⟨fun h => by omega, by have := (h1 p (by omega)).2.1; omega⟩, fun p _ _ j h => by omega, fun p _ _ h => by omega⟩
theorem jjdh {c : Cfg} {v : Vw} {bit : Nat -> Bool} {r q : Nat} {u : Vw} (h : KeI c v bit r q u) (h0 : 0 <= c.fs q /\ c.fs q < c.np) : KeI c v bit r (q + 1) (keH (c.fs q) (bit (c.fs q).toNat) u) := by
 obtain ⟨h1, h2, h3, h4, h5, h6, h7⟩ := h; obtain ⟨o, ho⟩ := Int.eq_ofNat_of_zero_le h0.1; rw [ho, Int.toNat_natCast]; have hon : o < c.np := by omega
 unfold keH
 cases hb : bit o with
 | true =>
  rw [if_pos rfl]; refine ⟨h1, h2, h3, h4, h5, fun p hp hbp j hj he => ?_, fun p hp hbp hr => ?_⟩
  . show hGt true (o : Int) p (u.got p) = true
    unfold hGt; by_cases e : j = q
    . subst e
      have : (o : Int) = (p : Int) := by rw [<- ho, he]
      simp [this]
    . rw [h6 p hp hbp j (by omega) he]; simp
  . have e : o ≠ p := fun e => by rw [<- e, hb] at hbp; cases hbp
    obtain ⟨a, b⟩ := h7 p hp hbp hr; refine ⟨?_, b⟩; show hGt true (o : Int) p (u.got p) = false; unfold hGt; have : ¬ (o : Int) = (p : Int) := by omega
    rw [a]; simp [this]
 | false =>
  rw [if_neg (by simp)]; refine ⟨h1, h2, h3, h4, h5, fun p hp hbp j hj he => ?_, h7⟩; by_cases e : j = q
  . subst e
    have : o = p := by have : (o : Int) = (p : Int) := by rw [<- ho, he]
                       omega
    rw [this, hbp] at hb; cases hb
  . exact h6 p hp hbp j (by omega) he
section
variable {c : Cfg} (g : CfgGood c) {nq : Nat} {v : Vw} {bit : Nat -> Bool} {r : Nat} {u : Vw}
include g
theorem jjhm {p : Nat} (hp : p < c.np) (hg : u.got p = true) : (u.inn p = true -> (cdX c u).inn p = true) /\ (c.good <= upZ (u.good p) -> (cdX c u).inn p = true) /\ (cdX c u).good p = upZ (u.good p) /\ (cdX c u).miss p = 0 := by
 have m1 := g.miss.1; have e : (cdX c u).inn p = rIn ⟨c.np, c.miss, c.good⟩ p (u.inn p) (u.got p) (u.miss p) (u.good p) := rfl; have e2 : (cdX c u).good p = rGo ⟨c.np, c.miss, c.good⟩ p (u.got p) (u.good p) := rfl; have e3 : (cdX c u).miss p = rMi ⟨c.np, c.miss, c.good⟩ p (u.got p) (u.miss p) := rfl; rw [e, e2, e3]; unfold rIn rMi rGo; dsimp only; simp only [hp, hg, if_true]; refine ⟨fun h => ?_, fun h => ?_, trivial, trivial⟩
 . rw [if_pos h]; exact decide_eq_true (by omega)
 . split
   . exact decide_eq_true (by omega)
   . exact decide_eq_true h
theorem jjhl {p : Nat} (hp : p < c.np) (hg : u.got p = false) : (c.miss <= upZ (u.miss p) -> (cdX c u).inn p = false) /\ (cdX c u).miss p = upZ (u.miss p) := by
 have g1 := g.good.1; have e : (cdX c u).inn p = rIn ⟨c.np, c.miss, c.good⟩ p (u.inn p) (u.got p) (u.miss p) (u.good p) := rfl; have e3 : (cdX c u).miss p = rMi ⟨c.np, c.miss, c.good⟩ p (u.got p) (u.miss p) := rfl; rw [e, e3]; unfold rIn rMi rGo; dsimp only; simp only [hp, hg, if_true]; refine ⟨fun h => ?_, by simp⟩; by_cases hi : u.inn p = true
 . simp only [hi, if_true]; simp; omega
 . simp only [hi, if_false]; simp; omega
theorem jjhn (hns : c.ns <= 16) (h : KeI c v bit r c.ns u) {p : Nat} (hp : p < c.np) (hb : bit p = true) : u.got p = true := by
 obtain ⟨i, hi, e⟩ := g.has p hp; exact h.heard p hp hb i hi e
theorem jjfa (h : KeI c v bit r c.ns u) (hm : c.miss <= 12) (hgd : c.good <= 12) (hq : 0 < c.nodes.toNat) : KeI c v bit (r + 1) 0 (cdX c u) /\
 (∀ p, p < c.np -> bit p = true -> (u.inn p = true \/ c.good <= (r : Int) + 1 \/ v.inn p = true) -> (cdX c u).inn p = true) /\
 (∀ p, p < c.np -> bit p = false -> c.miss < (r : Int) + 1 -> (cdX c u).inn p = false) /\
 (-1 <= (cdX c u).command /\ (cdX c u).command < 8) /\ (0 <= (cdX c u).command ↔ anyF (cdX c u).inn c.np = true) /\ (0 <= (cdX c u).command -> (cdX c u).command < c.np /\ (cdX c u).inn (cdX c u).command.toNat = true) := by
 have hh := h; obtain ⟨h1, h2, h3, h4, h5, h6, h7⟩ := h; have p8 := g.p8; have s16 := g.s16; obtain ⟨m1, m2, m3⟩ := jjit g hq (pairF c (2 * c.np)) (cdU c u) h2 (cdC c u) rfl
 have yes : ∀ p, p < c.np -> bit p = true -> (u.inn p = true \/ c.good <= (r : Int) + 1 \/ v.inn p = true) -> (cdX c u).inn p = true := fun p hp hb hc => by
  have k1 := jjhn g s16 hh hp hb; obtain ⟨a1, a2, _, _⟩ := jjhm g hp k1; rcases hc with q | q | q
  . exact a1 q
  . have := (h5 p hp hb).2
    exact a2 (by unfold upZ; omega)
  . exact a1 (h4 p hp hb q)
 have no : ∀ p, p < c.np -> bit p = false -> c.miss < (r : Int) + 1 -> (cdX c u).inn p = false := fun p hp hb hc => by
  have q1 := g.miss.1; obtain ⟨a1, a2, _⟩ := h7 p hp hb (by omega); exact (jjhl g hp a1).1 (by unfold upZ; omega)
 refine ⟨⟨fun p hp => ?_, ⟨by have := m1.1; show -128 <= cdC c u; omega, by have := m1.2; show cdC c u <= 127; omega⟩, ?_, fun p hp hb hv => yes p hp hb (.inr (.inr hv)), fun p hp hb => ?_, fun p _ _ j hj => by omega, fun p hp hb hr => ?_⟩, yes, no, m1, m2, m3⟩
 . obtain ⟨a, b, d⟩ := h1 p hp
   have e1 : (cdX c u).miss p = rMi ⟨c.np, c.miss, c.good⟩ p (u.got p) (u.miss p) := rfl; have e2 : (cdX c u).good p = rGo ⟨c.np, c.miss, c.good⟩ p (u.got p) (u.good p) := rfl; have e3 : (cdX c u).score p = rSc ⟨c.np, c.miss, c.good⟩ p (u.got p) (u.score p) := rfl; rw [e1, e2, e3]; unfold rMi rGo rSc upZ rewZ penZ; refine ⟨?_, ?_, ?_⟩ <;> (repeat' split) <;> omega
 . have := jj8t c c.nodes.toNat (pairF c (2 * c.np)) (inL (cdU c u)) (cdC c u)
   show 0 <= nextZ _ _; unfold nextZ; split
   . omega
   . simp only [IntKind.wrap, IntKind.bits, IntKind.signed]
     first | omega | (simp; omega)
 . have k1 := jjhn g s16 hh hp hb
   obtain ⟨a1, a2, a3, _⟩ := jjhm g hp k1; refine ⟨fun q => yes p hp hb (.inr (.inl (by omega))), ?_⟩; rw [a3]; have := (h5 p hp hb).2; unfold upZ; omega
 . have gt : (cdX c u).got p = rGt ⟨c.np, c.miss, c.good⟩ p (u.got p) := rfl
   refine ⟨by rw [gt]; unfold rGt; rw [if_pos hp], ?_, fun q => no p hp hb (by omega)⟩; by_cases hr1 : 1 <= r
   . obtain ⟨a1, a2, _⟩ := h7 p hp hb hr1
     rw [(jjhl g hp a1).2]; unfold upZ; omega
   . have e1 : (cdX c u).miss p = rMi ⟨c.np, c.miss, c.good⟩ p (u.got p) (u.miss p) := rfl
     have := (h1 p (by omega)).1
     have h0 : 0 <= (cdX c u).miss p := by
      rw [e1]; unfold rMi upZ
      (repeat' split) <;> omega
     omega
end
end Go.Proofs.YtfohlkhfnogmdaaGreatDoor
end
section
namespace Go.Proofs.YtfohlkhfnogmdaaGreatDoor
open Go.RowKit
def stB (c : Cfg) (z : Int) : Bool := decide (0 <= z) && decide (z < c.nt)
def stN (c : Cfg) (z : Int) : Int := if stB c z = true then (c.ft z.toNat).node else 0
def stS (c : Cfg) (z : Int) : Int := if stB c z = true then (c.ft z.toNat).safe else 0
def stH' (c : Cfg) (z : Int) : Int := if stB c z = true then (c.ft z.toNat).hold else 0
def stPre (c : Cfg) (nq : Nat) : Bool := decide (0 < nq) && (decide (1 <= c.np /\ 1 <= c.ns /\ 1 <= c.nb) && (decide (c.np <= 1000) && (decide (c.ns <= 1000) && (decide (c.nb <= 1000) && decide (c.nt <= 1000)))))
def stnR : NetS -> AV
 | ⟨c, _, _, [.c (.v (.int .i64 z))]⟩ => .tup [.agg [.v (.int .i64 (stN c z)), .v (.int .u32 (stS c z)), .v (.int .i64 (stH' c z))], bo (stB c z)]
 | _ => i64 0
def stnQ : NetS -> Bool
 | ⟨c, nq, _, [.c (.v (.int .i64 _))]⟩ => stPre c nq
 | _ => false
theorem jj53 (c : Cfg) (nq : Nat) (fq : Nat -> Int) (z : Int) : stnQ ⟨c, nq, fq, [.c (.v (.int .i64 z))]⟩ = stPre c nq := rfl
def ctStation : CtF := ctRd netRd stnR stnQ
set_option maxRecDepth 100000 in
theorem jjaz : CtOk Tryz.prog 110 ctStation := by
 refine jj1e (E := ENst Tryz.prog) hENst netRd (fuel := 300) (str := nSt) ⟨_, _, Tryz.func110, rfl⟩ (fun s => by unfold stnR; split <;> rfl) fun s hs => ?_
 unfold stnQ at hs; split at hs
 . rename_i c nq fq z
   simp only [stPre, Bool.and_eq_true, decide_eq_true_eq] at hs; refine (?_ : (∃ p q, ntE (ENst Tryz.prog) 110 c nq fq [i64 z] p [] = some q /\ GoodF (.tup [.agg [.v (.int .i64 (stN c z)), .v (.int .u32 (stS c z)), .v (.int .i64 (stH' c z))], bo (stB c z)]) q) -> _) (anSt c nq fq z _ ?_)
   . rintro ⟨p, q, h1, h2⟩
     exact ⟨p, [], q, h1, h2⟩
   . have hno : ¬ (0 <= z /\ z < c.nt) -> stB c z = false := fun h => by simp [stB]; omega
     have hye : (0 <= z /\ z < c.nt) -> stB c z = true := fun h => by simp [stB]; omega
     (repeat' (first | refine ⟨fun h => ?_, fun h => ?_⟩ | fail))
     all_goals (refine ⟨?_, (by first | (unfold lim; omega) | (dsimp only; unfold lim; omega)), ?_, by simp⟩)
     . have := hno (by simp at h; omega)
       simp [stN, stS, stH', this, bo]
     . simp [allT, jjj, jji, jj0, jj1, jj3, jjb, slC, slRow, jj2]
       simp at h; omega
     . have := hno (by simp at h; omega)
       simp [stN, stS, stH', this, bo]
     . simp [allT, jjj, jji, jj0, jj1, jj3, jjb, slC, slRow, jj2]
       simp at *; omega
     . have := hye (by simp at *; omega)
       simp [stN, stS, stH', this, bo, stOf, asI]
     . simp [allT, jjj, jji, jj0, jj1, jj3, jjb, slC, slRow, jj2, jj8]
       simp at *; omega
 . cases hs
def ctRounds : CtF
 | [.c (.v (.int .i64 a)), .c (.v (.int .i64 h))], _, ib => some (.c (.sl ib 0 0 (lenR a h.toNat) none), [(ib, i64sB a (lenR a h.toNat))], 1, [decide (0 <= h), decide (h <= 1000000), decide (-9223372036854775808 <= a), decide (a <= 9223372036854775807)])
 | _, _, _ => none
theorem jjb0 : CtOk Tryz.prog 117 ctRounds := by
 refine ⟨⟨_, _, Tryz.func117, rfl⟩, fun C β m m2 w args ib r news k' ob vs hct ho hs hr hfree hlim hv => ?_⟩; unfold ctRounds at hct; split at hct
 . rename_i a h
   simp only [Option.some.injEq, Prod.mk.injEq] at hct; obtain ⟨rfl, rfl, rfl, rfl⟩ := hct; simp only [allT, List.forall_mem_cons, decide_eq_true_eq] at ho; obtain ⟨o1, o2, o3, o4, _⟩ := ho; cases hv; obtain ⟨s', r1, r2, r3, r4⟩ := jjl (jjep a h)
   refine (jjz hE1 r1 ⟨by rw [r3]; simp [allT], by
    rw [r4]; intro q hq; rw [List.mem_singleton.1 hq]
    exact jjbo a h _ (by omega) (by omega) o1 o2 o3 o4⟩ (C := loneC w) (β := fun _ => none) (w := w) (vs := [.int .i64 a, .int .i64 h]) rfl (jj32 w) (fun _ _ _ => rfl)).mono ?_
   rintro e w' ⟨β', u, rfl, _, _, hu, hr'⟩; simp only [List.map_cons, List.map_nil, List.cons.injEq, and_true] at r2; obtain ⟨L, hL, hb⟩ := hr'.blk 2000 _ r2; have hid : β ib = none := hfree ib (Nat.le_refl _) (by omega); refine ⟨ext1 β ib L, u, rfl, jjd hid, fun id h => ?_, ?_, ?_⟩
   . unfold ext1
     rw [if_neg (by omega)]
   . simp only [γ, γ1, γc, hL] at hu
     simp only [γ, γ1, γc, jj7]; exact hu
   . refine jj1i hr ⟨hr'.os, hr'.tape, hr'.output, hr'.size, fun b hb => hr'.out b hb fun h => h⟩ hid (jj1j (by omega)) hr' r2 rfl rfl (fun k j _ => ?_) hL
     match j with
     | 0 => exact ⟨_, rfl⟩
     | j + 1 => exact ⟨_, rfl⟩
 . cases hct
def ctsAn : List (FuncId × CtF) := [(110, ctStation), (117, ctRounds), (116, ctContainsL)]
theorem jjfs : ∀ f g, (f, g) ∈ ctsAn -> CtOk Tryz.prog f g := by
 intro f g h; simp only [ctsAn, List.mem_cons, Prod.mk.injEq, List.not_mem_nil, or_false] at h; rcases h with ⟨rfl, rfl⟩ | ⟨rfl, rfl⟩ | ⟨rfl, rfl⟩
 . exact jjaz
 . exact jjb0
 . exact jj7j
def ENan (P : Program) : Env := ⟨P, ctsAn⟩
theorem hENan : EnvOk (ENan Tryz.prog) := jj3w jjfs (by kernel_rfl) (by kernel_rfl)
abbrev staA (y : Bool) (q u t : Int) : AV := .agg [.v (.bool y), .v (.int .u32 q), .v (.int .u32 u), .v (.int .i64 t)]
abbrev delA (b : Bool) (t k st q u pr cm rd : Int) : AV := .agg [.v (.bool b), .v (.int .i64 t), .v (.int .u8 k), .v (.int .u8 st), .v (.int .u32 q), .v (.int .u32 u), .v (.int .i64 pr), .v (.int .i64 cm), .v (.int .i64 rd)]
theorem anTk (c : Cfg) (nq : Nat) (fq : Nat -> Int) (z : Int) (y : Bool) (q u t : Int) (b : Bool) (dt k st dq du pr cm rd : Int) (Q : VF -> Prop) (H : let zI := fun z : Int => AC.v (Value.int .i64 z); let zW := fun z : Int => AC.v (Value.int .u32 z); let zB := fun z : Bool => AC.v (Value.bool z); let zN := Int.ofNat; let y3 := fun (l : List Bool) => true :: true :: true :: l; let zt : List Bool -> List Bool := fun l => y3 (y3 (true :: true :: l)); let zq0 : List Bool := zt (y3 (y3 (((netK c nq fq) :: (stnQ (NetS.mk c nq fq [.c (zI z)])) :: true :: true :: [])))); let zq1 : List Bool := true :: true :: (stB c z == true) :: zq0; let zq2 : List Bool := y3 (y3 (((!b) == false) :: zq1)); let zq3 : List Bool := y3 (true :: ((k == zN 2) == true) :: zq2); let zq4 : List Bool := y3 (y3 (((!IntKind.wrap .i64 st == z) == false) :: zq3)); let zq5 : List Bool := y3 (true :: (decide (cm ≥ zN 0) == true) :: zq4); let zq6 : List Bool := y3 (y3 (((!pr == cm) == false) :: zq5)); let zq7 : List Bool := true :: true :: (decide (rd ≥ zN 0) == true) :: zq6; let zq8 : List Bool := y3 (y3 (((!decide (rd <= zN 1099511627776)) == false) :: zq7)); let zq9 : List Bool := y3 (true :: ((!y) == false) :: zq8); (((stB c z) = true -> (((!b) = true -> Q (.tup [.agg [zB y, zW q, zW u, zI t], .c (zB false)], [], 1051, (zt (y3 ((((!b) == true) :: zq1)))), [])) /\ ((!b) = false -> (((k == zN 2) = true -> (((!IntKind.wrap .i64 st == z) = true -> Q (.tup [.agg [zB y, zW q, zW u, zI t], .c (zB false)], [], 1073, (zt (y3 ((((!IntKind.wrap .i64 st == z) == true) :: zq3)))), [])) /\ ((!IntKind.wrap .i64 st == z) = false -> (((decide (cm ≥ zN 0)) = true -> (((!pr == cm) = true -> Q (.tup [.agg [zB y, zW q, zW u, zI t], .c (zB false)], [], 1095, (zt (y3 ((((!pr == cm) == true) :: zq5)))), [])) /\ ((!pr == cm) = false -> (((decide (rd ≥ zN 0)) = true -> (((!decide (rd <= zN 1099511627776)) = true -> Q (.tup [.agg [zB y, zW q, zW u, zI t], .c (zB false)], [], 1115, (zt (y3 ((((!decide (rd <= zN 1099511627776)) == true) :: zq7)))), [])) /\ ((!decide (rd <= zN 1099511627776)) = false -> (((!y) = true -> Q (.tup [.agg [zB true, zW dq, zW du, zI rd], .c (zB true)], [], 1141, (zt (y3 (true :: (((!y) == true) :: zq8)))), [])) /\ ((!y) = false -> (((!decide (dq > q)) = true -> Q (.tup [.agg [zB y, zW q, zW u, zI t], .c (zB false)], [], 1137, (zt (y3 ((((!decide (dq > q)) == true) :: zq9)))), [])) /\ ((!decide (dq > q)) = false -> Q (.tup [.agg [zB true, zW dq, zW du, zI rd], .c (zB true)], [], 1146, (zt (y3 (true :: (((!decide (dq > q)) == false) :: zq9)))), [])))))))) /\ ((decide (rd ≥ zN 0)) = false -> Q (.tup [.agg [zB y, zW q, zW u, zI t], .c (zB false)], [], 1112, (zt (y3 (((decide (rd ≥ zN 0) == false) :: zq6)))), [])))))) /\ ((decide (cm ≥ zN 0)) = false -> Q (.tup [.agg [zB y, zW q, zW u, zI t], .c (zB false)], [], 1090, (zt (y3 (((decide (cm ≥ zN 0) == false) :: zq4)))), [])))))) /\ ((k == zN 2) = false -> Q (.tup [.agg [zB y, zW q, zW u, zI t], .c (zB false)], [], 1068, (zt (y3 ((((k == zN 2) == false) :: zq2)))), [])))))) /\ ((stB c z) = false -> Q (.tup [.agg [zB y, zW q, zW u, zI t], .c (zB false)], [], 1048, (zt (y3 (((stB c z == false) :: zq0)))), [])))) :
 ∃ p r, ntE (ENan Tryz.prog) 65 c nq fq [i64 z, staA y q u t, delA b dt k st dq du pr cm rd] p [] = some r /\ Q r :=
 two H (fun g1 => two g1 (fun g2 => ⟨pD 5 84, _, by kernel_rfl, g2⟩) (fun g2 => two g2 (fun g3 => two g3 (fun g4 => ⟨pD 12 178041, _, by kernel_rfl, g4⟩) (fun g4 => two g4 (fun g5 => two g5 (fun g6 => ⟨pD 19 389370000, _, by kernel_rfl, g6⟩) (fun g6 => two g6 (fun g7 => two g7 (fun g8 => ⟨pD 24 98406753717, _, by kernel_rfl, g8⟩) (fun g8 => two g8 (fun g9 => ⟨pD 32 1039838541987, _, by kernel_rfl, g9⟩) (fun g9 => two g9 (fun g10 => ⟨pD 31 207778259246079, _, by kernel_rfl, g10⟩) (fun g10 => ⟨pD 32 413669391340728, _, by kernel_rfl, g10⟩)))) (fun g7 => ⟨pD 24 7750359291, _, by kernel_rfl, g7⟩))) (fun g5 => ⟨pD 19 3543834, _, by kernel_rfl, g5⟩))) (fun g3 => ⟨pD 12 1623, _, by kernel_rfl, g3⟩))) (fun g1 => ⟨pD 5 6, _, by kernel_rfl, g1⟩)
theorem anOu (c : Cfg) (nq : Nat) (fq : Nat -> Int) (z : Int) (y : Bool) (q u t v : Int) (Q : VF -> Prop) (H : let zq0 : List Bool := [true, netK c nq fq, stnQ (NetS.mk c nq fq [.c (.v (.int .i64 z))])]; let zq1 : List Bool := true :: true :: ((!stB c z) == false) :: zq0; let zq2 : List Bool := (decide (0 + lenR t (Int.toNat (stH' c z)) <= lenR t (Int.toNat (stH' c z)))) :: (decide (lenR t (Int.toNat (stH' c z)) <= 1000000)) :: (intsOk (lenR t (Int.toNat (stH' c z))) fun k => List.map AC.v ((fun i => [Value.int .i64 (t + Int.ofNat i)]) k)) :: (decide (Int.ofNat 0 <= stH' c z)) :: (decide (stH' c z <= Int.ofNat 1000000)) :: (decide (Int.negSucc 9223372036854775807 <= t)) :: (decide (t <= Int.ofNat 9223372036854775807)) :: true :: true :: true :: true :: (y == true) :: zq1; (((!stB c z) = true -> Q (.c (.v (.int .u32 (Int.ofNat 0))), [], 1014, (((!stB c z) == true) :: zq0), [])) /\ ((!stB c z) = false -> (((y) = true -> (((hasF (fun i => t + Int.ofNat i) (lenR t (Int.toNat (stH' c z))) v) = true -> Q (.c (.v (.int .u32 u)), [], 1027, (true :: true :: (hasF (fun i => t + Int.ofNat i) (lenR t (Int.toNat (stH' c z))) v == true) :: zq2), [])) /\ ((hasF (fun i => t + Int.ofNat i) (lenR t (Int.toNat (stH' c z))) v) = false -> Q (.c (.v (.int .u32 (stS c z))), [], 1027, (true :: true :: (hasF (fun i => t + Int.ofNat i) (lenR t (Int.toNat (stH' c z))) v == false) :: zq2), [])))) /\ ((y) = false -> Q (.c (.v (.int .u32 (stS c z))), [], 1021, (true :: true :: (y == false) :: zq1), [])))))) :
 ∃ p r, ntE (ENan Tryz.prog) 66 c nq fq [i64 z, staA y q u t, i64 v] p [] = some r /\ Q r :=
 two H (fun g1 => ⟨pD 1 1, _, by kernel_rfl, g1⟩) (fun g1 => two g1 (fun g2 => two g2 (fun g3 => ⟨pD 9 6566, _, by kernel_rfl, g3⟩) (fun g3 => ⟨pD 9 13127, _, by kernel_rfl, g3⟩)) (fun g2 => ⟨pD 9 8, _, by kernel_rfl, g2⟩))
def tkB (c : Cfg) (z : Int) (y : Bool) (q : Int) (b : Bool) (k st dq pr cm rd : Int) : Bool := stB c z && (b && (decide (k = 2) && (decide (IntKind.wrap .i64 st = z) && (decide (0 <= cm) && (decide (pr = cm) && (decide (0 <= rd) && (decide (rd <= 1099511627776) && (!y || decide (q < dq)))))))))
def tkI (b : Bool) (x y : Int) : Int := if b = true then x else y
def ouB (c : Cfg) (z : Int) (y : Bool) (t v : Int) : Bool := y && (decide (t <= v) && decide (v - t < stH' c z))
def ouV (c : Cfg) (z : Int) (y : Bool) (u t v : Int) : Int := if stB c z = true then tkI (ouB c z y t v) u (stS c z) else 0
def holdsOk (c : Cfg) : Bool := (List.range c.nt).all fun i => decide (1 <= (c.ft i).hold /\ (c.ft i).hold <= 100)
def i64B (z : Int) : Bool := decide (-9223372036854775808 <= z) && decide (z <= 9223372036854775807)
theorem jji0 {c : Cfg} (h : holdsOk c = true) (z : Int) : 0 <= stH' c z /\ stH' c z <= 100 := by
 unfold stH'; split
 . rename_i hz
   simp [stB] at hz; have := List.all_eq_true.1 h z.toNat (by simp; omega); simp at this; omega
 . omega
theorem jj5s {t v : Int} {h : Nat} (h1 : v <= 9223372036854775807) : hasF (fun i => t + Int.ofNat i) (lenR t h) v = (decide (t <= v) && decide (v - t < h)) := by
 rw [Bool.eq_iff_iff]; unfold hasF; rw [List.any_eq_true]; constructor
 . rintro ⟨i, hi, he⟩
   simp at hi he; unfold lenR at hi; simp; omega
 . intro hh
   simp at hh; refine ⟨(v - t).toNat, ?_, ?_⟩
   . simp [lenR]; omega
   . simp; omega
def tkR (c : Cfg) (z : Int) : List AV -> AV
 | [.agg [.v (.bool y), .v (.int .u32 q), .v (.int .u32 u), .v (.int .i64 t)], .agg [.v (.bool b), .v (.int .i64 _), .v (.int .u8 k), .v (.int .u8 st), .v (.int .u32 dq), .v (.int .u32 du), .v (.int .i64 pr), .v (.int .i64 cm), .v (.int .i64 rd)]] =>
  .tup [.agg [.v (.bool (tkB c z y q b k st dq pr cm rd || y)), .v (.int .u32 (tkI (tkB c z y q b k st dq pr cm rd) dq q)), .v (.int .u32 (tkI (tkB c z y q b k st dq pr cm rd) du u)), .v (.int .i64 (tkI (tkB c z y q b k st dq pr cm rd) rd t))], bo (tkB c z y q b k st dq pr cm rd)]
 | _ => i64 0
def tkQ : List AV -> Bool
 | [.agg [.v (.bool _), .v (.int .u32 _), .v (.int .u32 _), .v (.int .i64 _)], .agg [.v (.bool _), .v (.int .i64 _), .v (.int .u8 _), .v (.int .u8 _), .v (.int .u32 _), .v (.int .u32 _), .v (.int .i64 _), .v (.int .i64 _), .v (.int .i64 _)]] => true
 | _ => false
def ntkR : NetS -> AV
 | ⟨c, _, _, .c (.v (.int .i64 z)) :: r⟩ => tkR c z r
 | _ => i64 0
def ntkQ : NetS -> Bool
 | ⟨c, nq, _, .c (.v (.int .i64 _)) :: r⟩ => stPre c nq && tkQ r
 | _ => false
theorem jjbj (c : Cfg) (z : Int) (r : List AV) : plainR (tkR c z r) = true := by unfold tkR; split <;> rfl
theorem jjgg {r : List AV} (h : tkQ r = true) : ∃ y q u t b dt k st dq du pr cm rd, r = [staA y q u t, delA b dt k st dq du pr cm rd] := by
 unfold tkQ at h; split at h
 . exact ⟨_, _, _, _, _, _, _, _, _, _, _, _, _, rfl⟩
 . cases h
theorem jjgf (c : Cfg) (z : Int) (y : Bool) (q u t : Int) (b : Bool) (dt k st dq du pr cm rd : Int) : tkR c z [staA y q u t, delA b dt k st dq du pr cm rd] = .tup [.agg [.v (.bool (tkB c z y q b k st dq pr cm rd || y)), .v (.int .u32 (tkI (tkB c z y q b k st dq pr cm rd) dq q)), .v (.int .u32 (tkI (tkB c z y q b k st dq pr cm rd) du u)), .v (.int .i64 (tkI (tkB c z y q b k st dq pr cm rd) rd t))], bo (tkB c z y q b k st dq pr cm rd)] := rfl
theorem tk_no {c : Cfg} {z : Int} {y : Bool} {q u t : Int} {b : Bool} {dt k st dq du pr cm rd : Int} (h : tkB c z y q b k st dq pr cm rd = false) : tkR c z [staA y q u t, delA b dt k st dq du pr cm rd] = .tup [staA y q u t, bo false] := by
 rw [jjgf, h]; simp [tkI]
theorem tk_ye {c : Cfg} {z : Int} {y : Bool} {q u t : Int} {b : Bool} {dt k st dq du pr cm rd : Int} (h : tkB c z y q b k st dq pr cm rd = true) : tkR c z [staA y q u t, delA b dt k st dq du pr cm rd] = .tup [staA true dq du rd, bo true] := by
 rw [jjgf, h]; simp [tkI]
def ctTake : CtF := ctRd netRd ntkR ntkQ
set_option maxRecDepth 100000 in
theorem jjig : CtOk Tryz.prog 65 ctTake := by
 refine jj1e (E := ENan Tryz.prog) hENan netRd (fuel := 300) (str := nSt) ⟨_, _, Tryz.func65, rfl⟩ (fun s => by unfold ntkR; split <;> first | exact jjbj _ _ _ | rfl) fun s hs => ?_
 unfold ntkQ at hs; split at hs
 . rename_i c nq fq z r
   rw [Bool.and_eq_true] at hs; obtain ⟨y, q, u, t, b, dt, k, st, dq, du, pr, cm, rd, rfl⟩ := jjgg hs.2; refine (?_ : (∃ p x, ntE (ENan Tryz.prog) 65 c nq fq [i64 z, staA y q u t, delA b dt k st dq du pr cm rd] p [] = some x /\ GoodF (tkR c z [staA y q u t, delA b dt k st dq du pr cm rd]) x) -> _) (anTk c nq fq z y q u t b dt k st dq du pr cm rd _ ?_)
   . rintro ⟨p, x, h1, h2⟩
     exact ⟨p, [], x, h1, h2⟩
   . have h1 := hs.1
     (repeat' (first | refine ⟨fun h => ?_, fun h => ?_⟩ | fail))
     all_goals (refine ⟨?_, (by first | (unfold lim; omega) | (dsimp only; unfold lim; omega)), ?_, by simp⟩)
     all_goals first
      | (have hn : tkB c z y q b k st dq pr cm rd = true := (by first | (simp_all [tkB]; done) | fail)
         rw [tk_ye hn]; rfl)
      | (have hn : tkB c z y q b k st dq pr cm rd = true := (by first | (simp_all [tkB]; omega) | fail)
         rw [tk_ye hn]; rfl)
      | (have hn : tkB c z y q b k st dq pr cm rd = false := (by first | (simp_all [tkB]; done) | fail)
         rw [tk_no hn]; rfl)
      | (have hn : tkB c z y q b k st dq pr cm rd = false := (by first | (simp_all [tkB]; intros; exfalso; omega) | fail)
         rw [tk_no hn]; rfl)
      | (simp_all [allT, jjj, jji, jj0, jj1, jj3, jjb, jj53]; done)
      | (simp_all [allT, jjj, jji, jj0, jj1, jj3, jjb, jj53]; omega)
 . cases hs
def nouR : NetS -> AV
 | ⟨c, _, _, [.c (.v (.int .i64 z)), .agg [.v (.bool y), .v (.int .u32 _), .v (.int .u32 u), .v (.int .i64 t)], .c (.v (.int .i64 v))]⟩ => .c (.v (.int .u32 (ouV c z y u t v)))
 | _ => i64 0
def nouQ : NetS -> Bool
 | ⟨c, nq, _, [.c (.v (.int .i64 _)), .agg [.v (.bool _), .v (.int .u32 _), .v (.int .u32 _), .v (.int .i64 t)], .c (.v (.int .i64 v))]⟩ => stPre c nq && (holdsOk c && (i64B t && i64B v))
 | _ => false
def ctOutput : CtF := ctRd netRd nouR nouQ
theorem jjh2 {c : Cfg} {z : Int} {y : Bool} {u t v : Int} (h : stB c z = false) : ouV c z y u t v = 0 := by simp [ouV, h]
theorem ou_no {c : Cfg} {z : Int} {y : Bool} {u t v : Int} (h : stB c z = true) (h2 : ¬ (y = true /\ t <= v /\ v - t < stH' c z)) : ouV c z y u t v = stS c z := by
 have : ouB c z y t v = false := by
  cases y
  . rfl
  . simp only [true_and] at h2
    simp [ouB]; omega
 simp [ouV, h, this, tkI]
theorem ou_ye {c : Cfg} {z : Int} {y : Bool} {u t v : Int} (h : stB c z = true) (h2 : y = true /\ t <= v /\ v - t < stH' c z) : ouV c z y u t v = u := by
 have : ouB c z y t v = true := by
  obtain ⟨rfl, g⟩ := h2; simp [ouB]; omega
 simp [ouV, h, this, tkI]
set_option maxRecDepth 100000 in
theorem jjce : CtOk Tryz.prog 66 ctOutput := by
 refine jj1e (E := ENan Tryz.prog) hENan netRd (fuel := 300) (str := nSt) ⟨_, _, Tryz.func66, rfl⟩ (fun s => by unfold nouR; split <;> rfl) fun s hs => ?_
 unfold nouQ at hs; split at hs
 . rename_i c nq fq z y q u t v
   simp only [i64B, Bool.and_eq_true, decide_eq_true_eq] at hs; obtain ⟨h1, h2, ⟨t0, t1⟩, v0, v1⟩ := hs; obtain ⟨g0, g1⟩ := jji0 h2 z; refine (?_ : (∃ p x, ntE (ENan Tryz.prog) 66 c nq fq [i64 z, staA y q u t, i64 v] p [] = some x /\ GoodF (.c (.v (.int .u32 (ouV c z y u t v)))) x) -> _) (anOu c nq fq z y q u t v _ ?_)
   . rintro ⟨p, x, h1, h2⟩
     exact ⟨p, [], x, h1, h2⟩
   . rw [jj5s v1]
     have hl : lenR t (stH' c z).toNat <= 1000000 := by unfold lenR; omega
     have eh : (((stH' c z).toNat : Nat) : Int) = stH' c z := Int.toNat_of_nonneg g0; simp only [eh]; have hb : ∀ x, (decide (t <= v) && decide (v - t < x)) = true ↔ t <= v /\ v - t < x := fun x => by simp
     have hb2 : ∀ x, (decide (t <= v) && decide (v - t < x)) = false ↔ ¬ (t <= v /\ v - t < x) := fun x => by rw [<- hb]; simp
     simp only [hb, hb2]
     (repeat' (first | refine ⟨fun h => ?_, fun h => ?_⟩ | fail))
     all_goals (refine ⟨?_, (by first | (unfold lim; omega) | (dsimp only; unfold lim; omega)), ?_, by simp⟩)
     . simp at h
       rw [jjh2 h]; rfl
     . simp_all [allT, jjj, jji, jj0, jj1, jj3, jjb, jj53]
     . rename_i g1 g2
       simp at g1; rw [ou_ye g1 ⟨g2, h⟩]
     . rename_i g1 g2
       simp only [allT, List.forall_mem_cons]; simp_all [jjj, jji, jj0, jj1, jj3, jjb, jj53, jj2, jj5s v1]
       try omega
     . rename_i g1 g2
       simp at g1; rw [ou_no g1 (fun e => h e.2)]
     . rename_i g1 g2
       simp only [allT, List.forall_mem_cons]; simp_all [jjj, jji, jj0, jj1, jj3, jjb, jj53, jj2, jj5s v1]
       try omega
     . rename_i g1
       simp at g1; rw [ou_no g1 (fun e => by rw [h] at e; exact absurd e.1 (by simp))]
     . rename_i g1
       simp only [allT, List.forall_mem_cons]; simp_all [jjj, jji, jj0, jj1, jj3, jjb, jj53]
 . cases hs
def lv28 (P : Program) : Option VF := viewF [] (fCallF (E1 P) (fC (E1 P) 300) 29 [] 10 nSt (stC mSE))
theorem jjew  : lv28 Tryz.prog =
 some (.c (.v (.bool true)), [], 410000000000000000000000000000000000000027, [], []) := by kernel_rfl
def ctsKe : List (FuncId × CtF) := [(28, ctMay), (63, ctHrd), (74, ctRnd), (75, ctCom), (76, ctNext), (12, ctRoundN), (14, ctNet1 ownerN), (65, ctTake), (66, ctOutput), (101, ctClnSt), (29, ctTG mSE), (61, ctClz)]
theorem jj1z : ∀ f g, (f, g) ∈ ctsKe -> CtOk Tryz.prog f g := by
 intro f g h; simp only [ctsKe, List.mem_cons, Prod.mk.injEq, List.not_mem_nil, or_false] at h; rcases h with ⟨rfl, rfl⟩ | ⟨rfl, rfl⟩ | ⟨rfl, rfl⟩ | ⟨rfl, rfl⟩ | ⟨rfl, rfl⟩ | ⟨rfl, rfl⟩ | ⟨rfl, rfl⟩ | ⟨rfl, rfl⟩ | ⟨rfl, rfl⟩ | ⟨rfl, rfl⟩ | ⟨rfl, rfl⟩ | ⟨rfl, rfl⟩
 . exact jjl0
 . exact jjl3
 . exact jjkv
 . exact jjl5
 . exact jjfu
 . exact jjb1
 . exact jjft
 . exact jjig
 . exact jjce
 . exact jj5w
 . exact jjip (E := E1 Tryz.prog) hE1 ⟨_, _, Tryz.func29, rfl⟩ (by kernel_rfl) (by unfold lim; omega) jjew
 . exact jjl6
def keR (P : Program) (err : Cfg -> Int) (c : Cfg) (v : Vw) (a b : Int) (path : List Dec) (lp : List (Option LSum)) : Option VF := lwR (ENl0 P err ctsKe) 4 mSE c [.agg (vwL v), .agg [.v (.int .u8 a), .v (.int .u8 b)]] path lp
abbrev keMI : Nat := 60000000900000000000000000000000000000197
abbrev keSI : Nat := 60000000700000000000000000000000000000197
abbrev keBI : Nat := 120000000000000000000000000000000000000052
abbrev keBB (I : Nat -> Bool) : ABlk := ⟨true, false, 53, 0, .lit [.v (.bool (I 0)), .v (.bool (I 1)), .v (.bool (I 2)), .v (.bool (I 3)), .v (.bool (I 4)), .v (.bool (I 5)), .v (.bool (I 6)), .v (.bool (I 7))]⟩
abbrev keSB (n : Nat) : ABlk := wBlk 86 4 n fun _ => [.bool false, .int .u32 0, .int .u32 0, .int .i64 0]
abbrev keMB (c : Cfg) (u : Vw) (i n : Nat) : ABlk := ⟨true, false, 122, 0, .lit ([.ptr 15 0 0, .v (.int .i64 (c.ns : Int)), .v (.int .i64 (Int.ofNat i))] ++ (vwL u ++ [.sl keSI 0 0 n none]))⟩
abbrev keI : List Nat := [gid 0, gid 1, 0, 1, 2, 3, 10, 11, 12, 15, 16, 17, 18, 19, 20, keMI, keSI, keBI]
abbrev keK (c : Cfg) (v u : Vw) (a b : Int) (i : Nat) (I : Nat -> Bool) : List ABlk := [signB, edgeB, ints 3 c.np c.fp, ints 3 c.ns c.fs, ints 3 c.nb c.fb, sts c.nt c.ft, cfgB c, vwB v, ⟨true, false, 60, 0, .lit [.v (.int .u8 a), .v (.int .u8 b)]⟩, netY 15 c, intsW c.nodes.toNat (pairF c (2 * c.np)), intsW c.np c.fp, intsW c.ns c.fs, intsW c.nb c.fb, stsW c.nt c.ft, keMB c u i c.nt, keSB c.nt, keBB I]
abbrev keHs : List Nat := [3, 4, 5, 7, 9, 11, 12, 13]
abbrev keVs (R : Int) (i : Nat) : List AV := [.c (.ptr 10 0 0), .c (.ptr 11 0 0), .c (.ptr 12 0 0), .c (.ptr 15 0 0), .c (.ptr keMI 0 0), i64 R, .c (.ptr keBI 0 0), i64 (Int.ofNat i)]
def EKe (P : Program) : Env := ⟨P, ctsKe⟩
def keRR (P : Program) (c : Cfg) (v u : Vw) (a b R : Int) (i : Nat) (I : Nat -> Bool) (path : List Dec) (lp : List (Option LSum)) : Option VC :=
 view keHs keI (fC (EKe P) 100 (loopAt P 4 0) 1000000000000000000000000000000000000000000 nSt ⟨mkFr 211 (keHs.zip (keVs R i)), keI.zip (keK c v u a b i I), 0, 0, false, path, [], [], [], none, lp⟩)
abbrev kePL (at_ q : Int) : List AC := [.v (.bool true), .v (.int .i64 at_), .v (.int .u8 (Int.ofNat 1)), .v (.int .u8 (Int.ofNat 0)), .v (.int .u32 (Int.ofNat 0)), .v (.int .u32 q)]
abbrev kePB (at_ q : Int) : ABlk := ⟨true, false, 70, 0, .lit (kePL at_ q)⟩
abbrev keS0 : List AC := [.v (.bool false), .v (.int .i64 (Int.ofNat 0)), .v (.int .u8 (Int.ofNat 0)), .v (.int .u8 (Int.ofNat 0)), .v (.int .u32 (Int.ofNat 0)), .v (.int .u32 (Int.ofNat 0))]
abbrev kePt (ty p : Nat) : ABlk := ⟨true, false, ty, 0, .lit [.ptr p 0 0]⟩
abbrev keNm (ty : Nat) (z : Int) : ABlk := ⟨true, false, ty, 0, .lit [.v (.int .i64 z)]⟩
abbrev keE0 : ABlk := ⟨true, false, 73, 0, .lit ([.v (.int .i64 (Int.ofNat 0))] ++ (keS0 ++ (List.replicate 8 (.v (.bool false)) ++ (List.replicate 16 (.v (.int .u8 (Int.ofNat 0))) ++ (List.replicate 8 (.v (.int .u16 (Int.ofNat 0))) ++ (List.replicate 8 (.v (.bool false)) ++ [.v (.int .i8 (Int.ofNat 0)), .v (.int .u8 (Int.ofNat 0)), .v (.slice none 0 0)]))))))⟩
abbrev ktF (i : Nat) : List AV := mkFr 169 [(2, .c (.ptr 1100000000000000000000000000000000000000023 0 0)), (3, .c (.ptr 1100000000000000000000000000000000000000024 0 0)), (4, .c (.ptr 1100000000000000000000000000000000000000025 0 0)), (6, i64 (Int.ofNat i)), (7, .c (.ptr 1270000000000000000000000000000000000000071 0 0)), (8, .c (.ptr 1280000000000000000000000000000000000000071 0 0))]
abbrev ktI : List Nat := keI ++ [1100000000000000000000000000000000000000008, 1100000000000000000000000000000000000000023, 1100000000000000000000000000000000000000024, 1100000000000000000000000000000000000000025, 1270000000000000000000000000000000000000071, 1280000000000000000000000000000000000000071, 1440000000000000000000000000000000000000078, 1440000000000000000000000000000000000000082, 1440000000000000000000000000000000000000083]
abbrev ktK (P : Program) (c : Cfg) (v u : Vw) (a b : Int) (i : Nat) (I : Nat -> Bool) (q o rr : Int) : List ABlk := keK c v u a b (i + 1) I ++ [kePB (Int.ofNat 0) q, kePt 62 keMI, kePB (Int.ofNat i) q, keE0, keNm 3 o, keNm 2 rr, kePt 62 keMI, oblk (.dfr true), oblk (.loop .ready none (ktF i) #[81, 82] (rfA P 31 0) (rfB P 31 0) 1440000000000000000000000000000000000000082)]
abbrev ktH : List Nat := [0, 1, 8, 9]
abbrev ktV (n k : Nat) : List AV := [.c (.yld 1440000000000000000000000000000000000000083), .c (.ptr 1440000000000000000000000000000000000000078 0 0), i64 (n : Int), i64 (Int.ofNat k)]
def ktR (P : Program) (c : Cfg) (v u : Vw) (a b : Int) (i : Nat) (I : Nat -> Bool) (q o rr : Int) (k : Nat) (path : List Dec) : Option VC :=
 view (ktH ++ []) ktI (fC (EKe P) 100 (loopAt P 109 0) 100000000000000000000000000000000000000000000000000 nSt (stH 23 ktH ktI (ktV c.nt k) (ktK P c v u a b i I q o rr) path []))
abbrev ktS (P : Program) (c : Cfg) (v u : Vw) (a b : Int) (i : Nat) (I : Nat -> Bool) (q o rr : Int) : LSum := ⟨ktH, ktI, mkFr 23 [], ktI.zip (ktK P c v u a b i I q o rr), 1000000000000000000000000000000000000000000000000000, .exit 0⟩
abbrev koSB (l : List AC) : ABlk := ⟨true, false, 70, 0, .lit l⟩
abbrev koO (n : Nat) (g : Nat -> Int) : ABlk := wBlk 49 1 n fun j => [.int .u32 (g j)]
abbrev koE (i : Nat) (l : List AC) (w : Vw) (o n : Nat) : ABlk := ⟨true, false, 73, 0, .lit (.v (.int .i64 (Int.ofNat i)) :: (l ++ (vwL w ++ [.sl o 0 0 n none])))⟩
abbrev koH : List Nat := [0, 1, 8, 9]
abbrev koYNF : List AV := mkFr 169 [(2, .c (.ptr 1100000000000000000000000000000000000000023 0 0)), (4, .c (.ptr 1100000000000000000000000000000000000000025 0 0)), (11, .c (.ptr 1000000000230000000000000000000000000000000000000000 0 0))]
abbrev koYNO : Nat := 1000000000210000000000000000000000000000000000000000
abbrev koYNJ : List Nat := keI ++ [1100000000000000000000000000000000000000008, 1100000000000000000000000000000000000000023, 1100000000000000000000000000000000000000024, 1100000000000000000000000000000000000000025, 1000000000230000000000000000000000000000000000000000, 1000000000240000000000000000000000000000000000000002, 1000000000240000000000000000000000000000000000000006, 1000000000240000000000000000000000000000000000000007, 1440000000000000000000000000000000000000082]
abbrev koYNI : List Nat := koYNO :: koYNJ
abbrev koYNL (P : Program) (c : Cfg) (v w : Vw) (a b q : Int) (i : Nat) (I : Nat -> Bool) : List ABlk := keK c v w a b (i + 1) I ++ [koSB (kePL (Int.ofNat 0) q), kePt 62 keMI, koSB (kePL (Int.ofNat i) q), keE0, koE i (kePL (Int.ofNat i) q) w koYNO c.nt, kePt 62 keMI, oblk (.dfr true), oblk (.loop .ready none koYNF #[144, 145] (rfA P 31 1) (rfB P 31 1) 1000000000240000000000000000000000000000000000000006), oblk (.dfr true)]
abbrev koYNV (n k : Nat) : List AV := [.c (.yld 1000000000240000000000000000000000000000000000000007), .c (.ptr 1000000000240000000000000000000000000000000000000002 0 0), i64 (n : Int), i64 (Int.ofNat k)]
def koYNR (P : Program) (c : Cfg) (v w : Vw) (a b q : Int) (i : Nat) (I : Nat -> Bool) (g : Nat -> Int) (k : Nat) (path : List Dec) : Option VC :=
 view (koH ++ []) koYNI (fC (EKe P) 100 (loopAt P 109 0) 10000000000000000000000000000000000000000000000000000 nSt (stH 23 koH koYNI (koYNV c.nt k) (koO c.nt g :: koYNL P c v w a b q i I) path []))
abbrev koYNS (P : Program) (c : Cfg) (v w : Vw) (a b q : Int) (i : Nat) (I : Nat -> Bool) (g : Nat -> Int) : LSum := ⟨koH, koYNI, mkFr 23 [], koYNI.zip (koO c.nt g :: koYNL P c v w a b q i I), 100000000000000000000000000000000000000000000000000000, .exit 0⟩
abbrev koYNN : Nat := 1000000000240000000000000000000000000000000000000014
abbrev koYBF : List AV := mkFr 169 [(2, .c (.ptr 1100000000000000000000000000000000000000023 0 0)), (4, .c (.ptr 1100000000000000000000000000000000000000025 0 0)), (11, .c (.ptr 1000000000350000000000000000000000000000000000000001 0 0))]
abbrev koYBO : Nat := 1000000000330000000000000000000000000000000000000001
abbrev koYBJ : List Nat := keI ++ [1100000000000000000000000000000000000000008, 1100000000000000000000000000000000000000023, 1100000000000000000000000000000000000000024, 1100000000000000000000000000000000000000025, 1000000000350000000000000000000000000000000000000001, 1000000000360000000000000000000000000000000000000003, 1000000000360000000000000000000000000000000000000007, 1000000000360000000000000000000000000000000000000008, 1440000000000000000000000000000000000000082]
abbrev koYBI : List Nat := koYBO :: koYBJ
abbrev koYBL (P : Program) (c : Cfg) (v w : Vw) (a b q : Int) (i : Nat) (I : Nat -> Bool) : List ABlk := keK c v w a b (i + 1) I ++ [koSB (kePL (Int.ofNat 0) q), kePt 62 keMI, koSB (kePL (Int.ofNat i) q), keE0, koE i (kePL (Int.ofNat i) q) w koYBO c.nt, kePt 62 keMI, oblk (.dfr true), oblk (.loop .ready none koYBF #[144, 145] (rfA P 31 1) (rfB P 31 1) 1000000000360000000000000000000000000000000000000007), oblk (.dfr true)]
abbrev koYBV (n k : Nat) : List AV := [.c (.yld 1000000000360000000000000000000000000000000000000008), .c (.ptr 1000000000360000000000000000000000000000000000000003 0 0), i64 (n : Int), i64 (Int.ofNat k)]
def koYBR (P : Program) (c : Cfg) (v w : Vw) (a b q : Int) (i : Nat) (I : Nat -> Bool) (g : Nat -> Int) (k : Nat) (path : List Dec) : Option VC :=
 view (koH ++ []) koYBI (fC (EKe P) 100 (loopAt P 109 0) 10000000000000000000000000000000000000000000000000000 nSt (stH 23 koH koYBI (koYBV c.nt k) (koO c.nt g :: koYBL P c v w a b q i I) path []))
abbrev koYBS (P : Program) (c : Cfg) (v w : Vw) (a b q : Int) (i : Nat) (I : Nat -> Bool) (g : Nat -> Int) : LSum := ⟨koH, koYBI, mkFr 23 [], koYBI.zip (koO c.nt g :: koYBL P c v w a b q i I), 100000000000000000000000000000000000000000000000000000, .exit 0⟩
abbrev koYBN : Nat := 1000000000360000000000000000000000000000000000000015
abbrev koNNF : List AV := mkFr 169 [(2, .c (.ptr 1100000000000000000000000000000000000000018 0 0)), (4, .c (.ptr 1100000000000000000000000000000000000000020 0 0)), (11, .c (.ptr 1540000000000000000000000000000000000000064 0 0))]
abbrev koNNO : Nat := 1520000000000000000000000000000000000000064
abbrev koNNJ : List Nat := keI ++ [1100000000000000000000000000000000000000008, 1100000000000000000000000000000000000000018, 1100000000000000000000000000000000000000019, 1100000000000000000000000000000000000000020, 1540000000000000000000000000000000000000064, 1550000000000000000000000000000000000000066, 1550000000000000000000000000000000000000070, 1550000000000000000000000000000000000000071]
abbrev koNNI : List Nat := koNNO :: koNNJ
abbrev koNNL (P : Program) (c : Cfg) (v w : Vw) (a b : Int) (i : Nat) (I : Nat -> Bool) : List ABlk := keK c v w a b (i + 1) I ++ [koSB keS0, kePt 62 keMI, koSB keS0, keE0, koE i keS0 w koNNO c.nt, kePt 62 keMI, oblk (.dfr true), oblk (.loop .ready none koNNF #[144, 145] (rfA P 31 1) (rfB P 31 1) 1550000000000000000000000000000000000000070)]
abbrev koNNV (n k : Nat) : List AV := [.c (.yld 1550000000000000000000000000000000000000071), .c (.ptr 1550000000000000000000000000000000000000066 0 0), i64 (n : Int), i64 (Int.ofNat k)]
def koNNR (P : Program) (c : Cfg) (v w : Vw) (a b : Int) (i : Nat) (I : Nat -> Bool) (g : Nat -> Int) (k : Nat) (path : List Dec) : Option VC :=
 view (koH ++ []) koNNI (fC (EKe P) 100 (loopAt P 109 0) 10000000000000000000000000000000000000000000000000000 nSt (stH 23 koH koNNI (koNNV c.nt k) (koO c.nt g :: koNNL P c v w a b  i I) path []))
abbrev koNNS (P : Program) (c : Cfg) (v w : Vw) (a b : Int) (i : Nat) (I : Nat -> Bool) (g : Nat -> Int) : LSum := ⟨koH, koNNI, mkFr 23 [], koNNI.zip (koO c.nt g :: koNNL P c v w a b  i I), 100000000000000000000000000000000000000000000000000000, .exit 0⟩
abbrev koNNN : Nat := 1550000000000000000000000000000000000000078
abbrev koNBF : List AV := mkFr 169 [(2, .c (.ptr 1100000000000000000000000000000000000000018 0 0)), (4, .c (.ptr 1100000000000000000000000000000000000000020 0 0)), (11, .c (.ptr 1660000000000000000000000000000000000000065 0 0))]
abbrev koNBO : Nat := 1640000000000000000000000000000000000000065
abbrev koNBJ : List Nat := keI ++ [1100000000000000000000000000000000000000008, 1100000000000000000000000000000000000000018, 1100000000000000000000000000000000000000019, 1100000000000000000000000000000000000000020, 1660000000000000000000000000000000000000065, 1670000000000000000000000000000000000000067, 1670000000000000000000000000000000000000071, 1670000000000000000000000000000000000000072]
abbrev koNBI : List Nat := koNBO :: koNBJ
abbrev koNBL (P : Program) (c : Cfg) (v w : Vw) (a b : Int) (i : Nat) (I : Nat -> Bool) : List ABlk := keK c v w a b (i + 1) I ++ [koSB keS0, kePt 62 keMI, koSB keS0, keE0, koE i keS0 w koNBO c.nt, kePt 62 keMI, oblk (.dfr true), oblk (.loop .ready none koNBF #[144, 145] (rfA P 31 1) (rfB P 31 1) 1670000000000000000000000000000000000000071)]
abbrev koNBV (n k : Nat) : List AV := [.c (.yld 1670000000000000000000000000000000000000072), .c (.ptr 1670000000000000000000000000000000000000067 0 0), i64 (n : Int), i64 (Int.ofNat k)]
def koNBR (P : Program) (c : Cfg) (v w : Vw) (a b : Int) (i : Nat) (I : Nat -> Bool) (g : Nat -> Int) (k : Nat) (path : List Dec) : Option VC :=
 view (koH ++ []) koNBI (fC (EKe P) 100 (loopAt P 109 0) 10000000000000000000000000000000000000000000000000000 nSt (stH 23 koH koNBI (koNBV c.nt k) (koO c.nt g :: koNBL P c v w a b  i I) path []))
abbrev koNBS (P : Program) (c : Cfg) (v w : Vw) (a b : Int) (i : Nat) (I : Nat -> Bool) (g : Nat -> Int) : LSum := ⟨koH, koNBI, mkFr 23 [], koNBI.zip (koO c.nt g :: koNBL P c v w a b  i I), 100000000000000000000000000000000000000000000000000000, .exit 0⟩
abbrev koNBN : Nat := 1670000000000000000000000000000000000000079
theorem ktT (c : Cfg) (v u : Vw) (a b : Int) (i : Nat) (I : Nat -> Bool) (q o rr : Int) (k : Nat) (Q : VC -> Prop) (H : let zI := fun z : Int => AC.v (Value.int .i64 z); let zU := fun z : Int => AC.v (Value.int .u8 z); let zH := fun z : Int => AC.v (Value.int .u16 z); let zW := fun z : Int => AC.v (Value.int .u32 z); let zB := fun z : Bool => AC.v (Value.bool z); let zA := AV.any; let zN := Int.ofNat; let zM := ABlk.mk; let yO := fun (t s : Nat) (c : Cs) => some (ABlk.mk true true t s c); let yR := fun (t s : Nat) (c : Cs) => some (ABlk.mk true false t s c); let yF := fun (t s : Nat) (c : Cs) => some (ABlk.mk false false t s c); let z8 := fun (f : Nat -> AC) (l : List AC) => f 0 :: f 1 :: f 2 :: f 3 :: f 4 :: f 5 :: f 6 :: f 7 :: l; let z9 := fun (a : AV) (l : List AV) => a :: a :: a :: a :: a :: a :: a :: a :: l; let zz0 := (zM true false 73 0 (Cs.lit (zI (zN 0) :: zB false :: zI (zN 0) :: zU (zN 0) :: zU (zN 0) :: zW (zN 0) :: zW (zN 0) :: z8 (fun zk => zB false) (z8 (fun zk => zU (zN 0)) (z8 (fun zk => zU (zN 0)) (z8 (fun zk => zH (zN 0)) (z8 (fun zk => zB false) [AC.v (Value.int IntKind.i8 (zN 0)), zU (zN 0), AC.v (Value.slice none 0 0)]))))))); let zz1 := (zM true false 122 0 (Cs.lit (AC.ptr 15 0 0 :: AC.v (Value.int IntKind.i64 ↑(Cfg.ns c)) :: zI (zN (i + 1)) :: z8 (fun zk => zB (Vw.inn u zk)) (z8 (fun zk => zU (Vw.miss u zk)) (z8 (fun zk => zU (Vw.good u zk)) (z8 (fun zk => zH (Vw.score u zk)) (z8 (fun zk => zB (Vw.got u zk)) [AC.v (Value.int IntKind.i8 (Vw.command u)), zU (Vw.mode u), AC.sl 60000000700000000000000000000000000000197 0 0 (Cfg.nt c) none]))))))); let zz2 := (zM false false 0 0 (Cs.obj (AObj.loop LoopState.ready none (zA :: zA :: AV.c (AC.ptr 1100000000000000000000000000000000000000023 0 0) :: AV.c (AC.ptr 1100000000000000000000000000000000000000024 0 0) :: AV.c (AC.ptr 1100000000000000000000000000000000000000025 0 0) :: zA :: AV.c (zI (zN i)) :: AV.c (AC.ptr 1270000000000000000000000000000000000000071 0 0) :: AV.c (AC.ptr 1280000000000000000000000000000000000000071 0 0) :: z9 zA (z9 zA (z9 zA (z9 zA (z9 zA (z9 zA (z9 zA (z9 zA (z9 zA (z9 zA (z9 zA (z9 zA (z9 zA (z9 zA (z9 zA (z9 zA (z9 zA (z9 zA (z9 zA (z9 zA [])))))))))))))))))))) (Array.mk [81, 82]) (rfA Tryz.prog 31 0) (rfB Tryz.prog 31 0) 1440000000000000000000000000000000000000082))); let zz3 := (zM false false 237 0 (Cs.lit [zB true, zB true, zB true, zB true, zB true, zB false, zB true, zB true, zB true, zB true, zB false, zB true, zB true, zB true, zB true, zB false, zB false, zB true, zB true, zB true, zB false, zB false, zB false, zB true, zB true])); let zz4 := (yT c); let zz5 := (zM true false 105 0 (Cs.lit [zI (Cfg.nodes c), AC.sl 17 0 0 (Cfg.np c) (some (Cfg.np c)), AC.sl 18 0 0 (Cfg.ns c) (some (Cfg.ns c)), zI (Cfg.long c), AC.sl 19 0 0 (Cfg.nb c) (some (Cfg.nb c)), AC.sl 20 0 0 (Cfg.nt c) (some (Cfg.nt c)), zI (Cfg.miss c), zI (Cfg.good c), zI (Cfg.fresh c), AC.sl 16 0 0 (Int.toNat (Cfg.nodes c)) none])); let zz6 := (zM true false 25 0 (Cs.lit [zI (Cfg.nodes c), AC.sl 0 0 0 (Cfg.np c) none, AC.sl 1 0 0 (Cfg.ns c) none, zI (Cfg.long c), AC.sl 2 0 0 (Cfg.nb c) none, AC.sl 3 0 0 (Cfg.nt c) none, zI (Cfg.miss c), zI (Cfg.good c), zI (Cfg.fresh c)])); let zz7 := [Value.bool false, Value.int IntKind.u32 0, Value.int IntKind.u32 0, Value.int IntKind.i64 0]; let zz8 := (yP c); let zz9 := (yS c); let zz10 := (yB c); let zz11 := (zM true false 70 0 (Cs.lit [zB true, zI (zN 0), zU (zN 1), zU (zN 0), zW (zN 0), zW q])); let zz12 := (zM true false 70 0 (Cs.lit [zB true, zI (zN i), zU (zN 1), zU (zN 0), zW (zN 0), zW q])); let zz13 := (tkB c (zN k) false (zN 0) true (zN 1) (zN 0) (zN 0) o (IntKind.wrap IntKind.i64 (Vw.command u)) rr); let zz14 := (zM true false 62 0 (Cs.lit [AC.ptr 60000000900000000000000000000000000000197 0 0])); let zz15 := (zM true false 53 0 (Cs.lit (z8 (fun zk => zB (I zk)) []))); (((decide (zN k < ↑(c.nt))) = true -> Q (Exit.normal, [some (lkA (List.zip ktH (ktV (c.nt) k)) 0), some (lkA (List.zip ktH (ktV (c.nt) k)) 1), some (lkA (List.zip ktH (ktV (c.nt) k)) 8), some (.c (zI (IntKind.wrap .i64 (zN k + zN 1))))], [yF 26 0 (Cs.lit [zI (zN 1), zI (Int.negSucc 0)]), some zz3, yF 3 1 zz8, yF 3 1 zz9, yF 3 1 zz10, yF 51 3 zz4, some zz6, yR 59 0 (Cs.lit (vwL v)), yR 60 0 (Cs.lit [zU a, zU b]), some zz5, yO 3 1 (Cs.arr (Int.toNat (c.nodes)) fun k => List.map AC.v ((fun i => [Value.int .i64 (pairF c (2 * c.np) i)]) k)), yO 3 1 zz8, yO 3 1 zz9, yO 3 1 zz10, yO 51 3 zz4, some zz1, yO 86 4 (Cs.arr (c.nt) fun i => if i = 0 + Int.toNat (zN k) then setL ((fun k => List.map AC.v ((fun x => zz7) k)) i) 0 [zB (tkB c (zN k) false (zN 0) true (zN 1) (zN 0) (zN 0) o (IntKind.wrap .i64 (Vw.command u)) rr || false), zW (tkI zz13 (zN 0) (zN 0)), zW (tkI zz13 q (zN 0)), zI (tkI zz13 rr (zN 0))] else List.map AC.v ((fun x => zz7) i)), some zz15, some zz11, some zz14, some zz12, some zz0, yR 3 0 (Cs.lit [zI o]), yR 2 0 (Cs.lit [zI rr]), some zz14, yF 0 0 (Cs.obj (AObj.dfr true)), some zz2], 23, 100000000250000000000000000000000000000000000000016, [ABlk.inb (zM true true 86 4 (Cs.arr (c.nt) fun k => List.map AC.v ((fun x => zz7) k))) (0 + Int.toNat (zN k)) 4, netK c (Int.toNat (c.nodes)) (pairF c (2 * c.np)), ntkQ (NetS.mk c (Int.toNat (c.nodes)) (pairF c (2 * c.np)) [.c (zI (zN k)), .agg [zB false, zW (zN 0), zW (zN 0), zI (zN 0)], .agg [zB true, zI (zN i), zU (zN 1), zU (zN 0), zW (zN 0), zW q, zI o, zI (IntKind.wrap .i64 (Vw.command u)), zI rr]]), true, true, true, true, true, true, true, true, true, true, true, true, true, true, ABlk.inb (zM true true 86 4 (Cs.arr (c.nt) fun k => List.map AC.v ((fun x => zz7) k))) (0 + Int.toNat (zN k)) 4, true, true, true, true, true, true, decide (zN 0 <= zN k /\ zN k < ↑(c.nt)), true, true, decide (zN k < ↑(c.nt)) == true], [])) /\ ((decide (zN k < ↑(c.nt))) = false -> Q (Exit.exit 0, [some (lkA (List.zip ktH (ktV (c.nt) k)) 0), some (lkA (List.zip ktH (ktV (c.nt) k)) 1), some (lkA (List.zip ktH (ktV (c.nt) k)) 8), some (lkA (List.zip ktH (ktV (c.nt) k)) 9)], [yF 26 0 (Cs.lit [zI (zN 1), zI (Int.negSucc 0)]), some zz3, yF 3 1 zz8, yF 3 1 zz9, yF 3 1 zz10, yF 51 3 zz4, some zz6, yR 59 0 (Cs.lit (vwL v)), yR 60 0 (Cs.lit [zU a, zU b]), some zz5, yO 3 1 (Cs.arr (Int.toNat (c.nodes)) fun k => List.map AC.v ((fun i => [Value.int .i64 (pairF c (2 * c.np) i)]) k)), yO 3 1 zz8, yO 3 1 zz9, yO 3 1 zz10, yO 51 3 zz4, some zz1, yO 86 4 (Cs.arr (c.nt) fun k => List.map AC.v ((fun x => zz7) k)), some zz15, some zz11, some zz14, some zz12, some zz0, yR 3 0 (Cs.lit [zI o]), yR 2 0 (Cs.lit [zI rr]), some zz14, yF 0 0 (Cs.obj (AObj.dfr true)), some zz2], 23, 100000000000000000000000000000000000000000000000001, [decide (zN k < ↑(c.nt)) == false], [])))) :
 ∃ p r, ktR Tryz.prog c v u a b i I q o rr k p = some r /\ Q r :=
 two H (fun g1 => ⟨pD 2 1, _, by kernel_rfl, g1⟩) (fun g1 => ⟨pD 1 2, _, by kernel_rfl, g1⟩)
theorem koYNT (c : Cfg) (v w : Vw) (a b q : Int) (i : Nat) (I : Nat -> Bool) (g : Nat -> Int) (k : Nat) (Q : VC -> Prop) (H : let zI := fun z : Int => AC.v (Value.int .i64 z); let zU := fun z : Int => AC.v (Value.int .u8 z); let zH := fun z : Int => AC.v (Value.int .u16 z); let zW := fun z : Int => AC.v (Value.int .u32 z); let zB := fun z : Bool => AC.v (Value.bool z); let zA := AV.any; let zN := Int.ofNat; let zM := ABlk.mk; let yO := fun (t s : Nat) (c : Cs) => some (ABlk.mk true true t s c); let yF := fun (t s : Nat) (c : Cs) => some (ABlk.mk false false t s c); let z8 := fun (f : Nat -> AC) (l : List AC) => f 0 :: f 1 :: f 2 :: f 3 :: f 4 :: f 5 :: f 6 :: f 7 :: l; let z9 := fun (a : AV) (l : List AV) => a :: a :: a :: a :: a :: a :: a :: a :: l; let zz0 := (zM true false 73 0 (Cs.lit (zI (zN i) :: zB true :: zI (zN i) :: zU (zN 1) :: zU (zN 0) :: zW (zN 0) :: zW q :: z8 (fun zk => zB (Vw.inn w zk)) (z8 (fun zk => zU (Vw.miss w zk)) (z8 (fun zk => zU (Vw.good w zk)) (z8 (fun zk => zH (Vw.score w zk)) (z8 (fun zk => zB (Vw.got w zk)) [AC.v (Value.int IntKind.i8 (Vw.command w)), zU (Vw.mode w), AC.sl 1000000000210000000000000000000000000000000000000000 0 0 (Cfg.nt c) none]))))))); let zz1 := (zM true false 73 0 (Cs.lit (zI (zN 0) :: zB false :: zI (zN 0) :: zU (zN 0) :: zU (zN 0) :: zW (zN 0) :: zW (zN 0) :: z8 (fun zk => zB false) (z8 (fun zk => zU (zN 0)) (z8 (fun zk => zU (zN 0)) (z8 (fun zk => zH (zN 0)) (z8 (fun zk => zB false) [AC.v (Value.int IntKind.i8 (zN 0)), zU (zN 0), AC.v (Value.slice none 0 0)]))))))); let zz2 := (zM true false 122 0 (Cs.lit (AC.ptr 15 0 0 :: AC.v (Value.int IntKind.i64 ↑(Cfg.ns c)) :: zI (zN (i + 1)) :: z8 (fun zk => zB (Vw.inn w zk)) (z8 (fun zk => zU (Vw.miss w zk)) (z8 (fun zk => zU (Vw.good w zk)) (z8 (fun zk => zH (Vw.score w zk)) (z8 (fun zk => zB (Vw.got w zk)) [AC.v (Value.int IntKind.i8 (Vw.command w)), zU (Vw.mode w), AC.sl 60000000700000000000000000000000000000197 0 0 (Cfg.nt c) none]))))))); let zz3 := (zM false false 0 0 (Cs.obj (AObj.loop LoopState.ready none (zA :: zA :: AV.c (AC.ptr 1100000000000000000000000000000000000000023 0 0) :: zA :: AV.c (AC.ptr 1100000000000000000000000000000000000000025 0 0) :: zA :: zA :: zA :: zA :: zA :: zA :: AV.c (AC.ptr 1000000000230000000000000000000000000000000000000000 0 0) :: z9 zA (z9 zA (z9 zA (z9 zA (z9 zA (z9 zA (z9 zA (z9 zA (z9 zA (z9 zA (z9 zA (z9 zA (z9 zA (z9 zA (z9 zA (z9 zA (z9 zA (z9 zA (z9 zA [zA, zA, zA, zA, zA]))))))))))))))))))) (Array.mk [144, 145]) (rfA Tryz.prog 31 1) (rfB Tryz.prog 31 1) 1000000000240000000000000000000000000000000000000006))); let zz4 := (zM false false 237 0 (Cs.lit [zB true, zB true, zB true, zB true, zB true, zB false, zB true, zB true, zB true, zB true, zB false, zB true, zB true, zB true, zB true, zB false, zB false, zB true, zB true, zB true, zB false, zB false, zB false, zB true, zB true])); let zz5 := (yT c); let zz6 := (zM true false 105 0 (Cs.lit [zI (Cfg.nodes c), AC.sl 17 0 0 (Cfg.np c) (some (Cfg.np c)), AC.sl 18 0 0 (Cfg.ns c) (some (Cfg.ns c)), zI (Cfg.long c), AC.sl 19 0 0 (Cfg.nb c) (some (Cfg.nb c)), AC.sl 20 0 0 (Cfg.nt c) (some (Cfg.nt c)), zI (Cfg.miss c), zI (Cfg.good c), zI (Cfg.fresh c), AC.sl 16 0 0 (Int.toNat (Cfg.nodes c)) none])); let zz7 := (zM true false 25 0 (Cs.lit [zI (Cfg.nodes c), AC.sl 0 0 0 (Cfg.np c) none, AC.sl 1 0 0 (Cfg.ns c) none, zI (Cfg.long c), AC.sl 2 0 0 (Cfg.nb c) none, AC.sl 3 0 0 (Cfg.nt c) none, zI (Cfg.miss c), zI (Cfg.good c), zI (Cfg.fresh c)])); let zz8 := (zM true true 86 4 (Cs.arr (Cfg.nt c) fun k => List.map AC.v ((fun x => [Value.bool false, Value.int IntKind.u32 0, Value.int IntKind.u32 0, Value.int IntKind.i64 0]) k))); let zz9 := (yP c); let zz10 := (yS c); let zz11 := (yB c); let zz12 := (zM true false 70 0 (Cs.lit [zB true, zI (zN 0), zU (zN 1), zU (zN 0), zW (zN 0), zW q])); let zz13 := (zM true false 70 0 (Cs.lit [zB true, zI (zN i), zU (zN 1), zU (zN 0), zW (zN 0), zW q])); let zz14 := (zM true false 62 0 (Cs.lit [AC.ptr 60000000900000000000000000000000000000197 0 0])); let zz15 := (zM true false 53 0 (Cs.lit (z8 (fun zk => zB (I zk)) []))); (((decide (zN k < ↑(c.nt))) = true -> Q (Exit.normal, [some (lkA (List.zip koH (koYNV (c.nt) k)) 0), some (lkA (List.zip koH (koYNV (c.nt) k)) 1), some (lkA (List.zip koH (koYNV (c.nt) k)) 8), some (.c (zI (IntKind.wrap .i64 (zN k + zN 1))))], [yO 49 1 (Cs.arr (c.nt) fun i_1 => if i_1 = 0 + Int.toNat (zN k) then setL ((fun k => List.map AC.v ((fun j => [Value.int .u32 (g j)]) k)) i_1) 0 [zW (ouV c (zN k) false (zN 0) (zN 0) (IntKind.wrap .i64 (Int.tdiv (zN (i + 1)) ↑(c.ns))))] else List.map AC.v ((fun j => [Value.int .u32 (g j)]) i_1)), yF 26 0 (Cs.lit [zI (zN 1), zI (Int.negSucc 0)]), some zz4, yF 3 1 zz9, yF 3 1 zz10, yF 3 1 zz11, yF 51 3 zz5, some zz7, some (zM true false 59 0 (Cs.lit (vwL v))), some (zM true false 60 0 (Cs.lit [zU a, zU b])), some zz6, yO 3 1 (Cs.arr (Int.toNat (c.nodes)) fun k => List.map AC.v ((fun i => [Value.int .i64 (pairF c (2 * c.np) i)]) k)), yO 3 1 zz9, yO 3 1 zz10, yO 3 1 zz11, yO 51 3 zz5, some zz2, some zz8, some zz15, some zz12, some zz14, some zz13, some zz1, some zz0, some zz14, yF 0 0 (Cs.obj (AObj.dfr true)), some zz3, yF 0 0 (Cs.obj (AObj.dfr true))], 23, 10000000000220000000000000000000000000000000000000017, [ABlk.inb (zM true true 49 1 (Cs.arr (c.nt) fun k => List.map AC.v ((fun j => [Value.int .u32 (g j)]) k))) (0 + Int.toNat (zN k)) 1, decide (zN 0 <= zN k /\ zN k < ↑(c.nt)), netK c (Int.toNat (c.nodes)) (pairF c (2 * c.np)), nouQ (NetS.mk c (Int.toNat (c.nodes)) (pairF c (2 * c.np)) [.c (zI (zN k)), .agg [zB false, zW (zN 0), zW (zN 0), zI (zN 0)], .c (zI (IntKind.wrap .i64 (Int.tdiv (zN (i + 1)) ↑(c.ns))))]), decide (↑(c.ns) ≠ zN 0), true, true, true, true, true, true, ABlk.inb zz8 (0 + Int.toNat (zN k)) 4, true, true, true, true, true, true, true, decide (zN 0 <= zN k /\ zN k < ↑(c.nt)), true, true, decide (zN k < ↑(c.nt)) == true], [])) /\ ((decide (zN k < ↑(c.nt))) = false -> Q (Exit.exit 0, [some (lkA (List.zip koH (koYNV (c.nt) k)) 0), some (lkA (List.zip koH (koYNV (c.nt) k)) 1), some (lkA (List.zip koH (koYNV (c.nt) k)) 8), some (lkA (List.zip koH (koYNV (c.nt) k)) 9)], [yO 49 1 (Cs.arr (c.nt) fun k => List.map AC.v ((fun j => [Value.int .u32 (g j)]) k)), yF 26 0 (Cs.lit [zI (zN 1), zI (Int.negSucc 0)]), some zz4, yF 3 1 zz9, yF 3 1 zz10, yF 3 1 zz11, yF 51 3 zz5, some zz7, some (zM true false 59 0 (Cs.lit (vwL v))), some (zM true false 60 0 (Cs.lit [zU a, zU b])), some zz6, yO 3 1 (Cs.arr (Int.toNat (c.nodes)) fun k => List.map AC.v ((fun i => [Value.int .i64 (pairF c (2 * c.np) i)]) k)), yO 3 1 zz9, yO 3 1 zz10, yO 3 1 zz11, yO 51 3 zz5, some zz2, some zz8, some zz15, some zz12, some zz14, some zz13, some zz1, some zz0, some zz14, yF 0 0 (Cs.obj (AObj.dfr true)), some zz3, yF 0 0 (Cs.obj (AObj.dfr true))], 23, 10000000000000000000000000000000000000000000000000001, [decide (zN k < ↑(c.nt)) == false], [])))) :
 ∃ p r, koYNR Tryz.prog c v w a b q i I g k p = some r /\ Q r :=
 two H (fun g1 => ⟨pD 2 1, _, by kernel_rfl, g1⟩) (fun g1 => ⟨pD 1 2, _, by kernel_rfl, g1⟩)
theorem koYBT (c : Cfg) (v w : Vw) (a b q : Int) (i : Nat) (I : Nat -> Bool) (g : Nat -> Int) (k : Nat) (Q : VC -> Prop) (H : let zI := fun z : Int => AC.v (Value.int .i64 z); let zU := fun z : Int => AC.v (Value.int .u8 z); let zH := fun z : Int => AC.v (Value.int .u16 z); let zW := fun z : Int => AC.v (Value.int .u32 z); let zB := fun z : Bool => AC.v (Value.bool z); let zA := AV.any; let zN := Int.ofNat; let zM := ABlk.mk; let yO := fun (t s : Nat) (c : Cs) => some (ABlk.mk true true t s c); let yF := fun (t s : Nat) (c : Cs) => some (ABlk.mk false false t s c); let z8 := fun (f : Nat -> AC) (l : List AC) => f 0 :: f 1 :: f 2 :: f 3 :: f 4 :: f 5 :: f 6 :: f 7 :: l; let z9 := fun (a : AV) (l : List AV) => a :: a :: a :: a :: a :: a :: a :: a :: l; let zz0 := (zM true false 73 0 (Cs.lit (zI (zN i) :: zB true :: zI (zN i) :: zU (zN 1) :: zU (zN 0) :: zW (zN 0) :: zW q :: z8 (fun zk => zB (Vw.inn w zk)) (z8 (fun zk => zU (Vw.miss w zk)) (z8 (fun zk => zU (Vw.good w zk)) (z8 (fun zk => zH (Vw.score w zk)) (z8 (fun zk => zB (Vw.got w zk)) [AC.v (Value.int IntKind.i8 (Vw.command w)), zU (Vw.mode w), AC.sl 1000000000330000000000000000000000000000000000000001 0 0 (Cfg.nt c) none]))))))); let zz1 := (zM true false 73 0 (Cs.lit (zI (zN 0) :: zB false :: zI (zN 0) :: zU (zN 0) :: zU (zN 0) :: zW (zN 0) :: zW (zN 0) :: z8 (fun zk => zB false) (z8 (fun zk => zU (zN 0)) (z8 (fun zk => zU (zN 0)) (z8 (fun zk => zH (zN 0)) (z8 (fun zk => zB false) [AC.v (Value.int IntKind.i8 (zN 0)), zU (zN 0), AC.v (Value.slice none 0 0)]))))))); let zz2 := (zM true false 122 0 (Cs.lit (AC.ptr 15 0 0 :: AC.v (Value.int IntKind.i64 ↑(Cfg.ns c)) :: zI (zN (i + 1)) :: z8 (fun zk => zB (Vw.inn w zk)) (z8 (fun zk => zU (Vw.miss w zk)) (z8 (fun zk => zU (Vw.good w zk)) (z8 (fun zk => zH (Vw.score w zk)) (z8 (fun zk => zB (Vw.got w zk)) [AC.v (Value.int IntKind.i8 (Vw.command w)), zU (Vw.mode w), AC.sl 60000000700000000000000000000000000000197 0 0 (Cfg.nt c) none]))))))); let zz3 := (zM false false 0 0 (Cs.obj (AObj.loop LoopState.ready none (zA :: zA :: AV.c (AC.ptr 1100000000000000000000000000000000000000023 0 0) :: zA :: AV.c (AC.ptr 1100000000000000000000000000000000000000025 0 0) :: zA :: zA :: zA :: zA :: zA :: zA :: AV.c (AC.ptr 1000000000350000000000000000000000000000000000000001 0 0) :: z9 zA (z9 zA (z9 zA (z9 zA (z9 zA (z9 zA (z9 zA (z9 zA (z9 zA (z9 zA (z9 zA (z9 zA (z9 zA (z9 zA (z9 zA (z9 zA (z9 zA (z9 zA (z9 zA [zA, zA, zA, zA, zA]))))))))))))))))))) (Array.mk [144, 145]) (rfA Tryz.prog 31 1) (rfB Tryz.prog 31 1) 1000000000360000000000000000000000000000000000000007))); let zz4 := (zM false false 237 0 (Cs.lit [zB true, zB true, zB true, zB true, zB true, zB false, zB true, zB true, zB true, zB true, zB false, zB true, zB true, zB true, zB true, zB false, zB false, zB true, zB true, zB true, zB false, zB false, zB false, zB true, zB true])); let zz5 := (yT c); let zz6 := (zM true false 105 0 (Cs.lit [zI (Cfg.nodes c), AC.sl 17 0 0 (Cfg.np c) (some (Cfg.np c)), AC.sl 18 0 0 (Cfg.ns c) (some (Cfg.ns c)), zI (Cfg.long c), AC.sl 19 0 0 (Cfg.nb c) (some (Cfg.nb c)), AC.sl 20 0 0 (Cfg.nt c) (some (Cfg.nt c)), zI (Cfg.miss c), zI (Cfg.good c), zI (Cfg.fresh c), AC.sl 16 0 0 (Int.toNat (Cfg.nodes c)) none])); let zz7 := (zM true false 25 0 (Cs.lit [zI (Cfg.nodes c), AC.sl 0 0 0 (Cfg.np c) none, AC.sl 1 0 0 (Cfg.ns c) none, zI (Cfg.long c), AC.sl 2 0 0 (Cfg.nb c) none, AC.sl 3 0 0 (Cfg.nt c) none, zI (Cfg.miss c), zI (Cfg.good c), zI (Cfg.fresh c)])); let zz8 := (zM true true 86 4 (Cs.arr (Cfg.nt c) fun k => List.map AC.v ((fun x => [Value.bool false, Value.int IntKind.u32 0, Value.int IntKind.u32 0, Value.int IntKind.i64 0]) k))); let zz9 := (yP c); let zz10 := (yS c); let zz11 := (yB c); let zz12 := (zM true false 70 0 (Cs.lit [zB true, zI (zN 0), zU (zN 1), zU (zN 0), zW (zN 0), zW q])); let zz13 := (zM true false 70 0 (Cs.lit [zB true, zI (zN i), zU (zN 1), zU (zN 0), zW (zN 0), zW q])); let zz14 := (zM true false 62 0 (Cs.lit [AC.ptr 60000000900000000000000000000000000000197 0 0])); let zz15 := (zM true false 53 0 (Cs.lit (z8 (fun zk => zB (I zk)) []))); (((decide (zN k < ↑(c.nt))) = true -> Q (Exit.normal, [some (lkA (List.zip koH (koYBV (c.nt) k)) 0), some (lkA (List.zip koH (koYBV (c.nt) k)) 1), some (lkA (List.zip koH (koYBV (c.nt) k)) 8), some (.c (zI (IntKind.wrap .i64 (zN k + zN 1))))], [yO 49 1 (Cs.arr (c.nt) fun i_1 => if i_1 = 0 + Int.toNat (zN k) then setL ((fun k => List.map AC.v ((fun j => [Value.int .u32 (g j)]) k)) i_1) 0 [zW (ouV c (zN k) false (zN 0) (zN 0) (IntKind.wrap .i64 (Int.tdiv (zN (i + 1)) ↑(c.ns))))] else List.map AC.v ((fun j => [Value.int .u32 (g j)]) i_1)), yF 26 0 (Cs.lit [zI (zN 1), zI (Int.negSucc 0)]), some zz4, yF 3 1 zz9, yF 3 1 zz10, yF 3 1 zz11, yF 51 3 zz5, some zz7, some (zM true false 59 0 (Cs.lit (vwL v))), some (zM true false 60 0 (Cs.lit [zU a, zU b])), some zz6, yO 3 1 (Cs.arr (Int.toNat (c.nodes)) fun k => List.map AC.v ((fun i => [Value.int .i64 (pairF c (2 * c.np) i)]) k)), yO 3 1 zz9, yO 3 1 zz10, yO 3 1 zz11, yO 51 3 zz5, some zz2, some zz8, some zz15, some zz12, some zz14, some zz13, some zz1, some zz0, some zz14, yF 0 0 (Cs.obj (AObj.dfr true)), some zz3, yF 0 0 (Cs.obj (AObj.dfr true))], 23, 10000000000220000000000000000000000000000000000000017, [ABlk.inb (zM true true 49 1 (Cs.arr (c.nt) fun k => List.map AC.v ((fun j => [Value.int .u32 (g j)]) k))) (0 + Int.toNat (zN k)) 1, decide (zN 0 <= zN k /\ zN k < ↑(c.nt)), netK c (Int.toNat (c.nodes)) (pairF c (2 * c.np)), nouQ (NetS.mk c (Int.toNat (c.nodes)) (pairF c (2 * c.np)) [.c (zI (zN k)), .agg [zB false, zW (zN 0), zW (zN 0), zI (zN 0)], .c (zI (IntKind.wrap .i64 (Int.tdiv (zN (i + 1)) ↑(c.ns))))]), decide (↑(c.ns) ≠ zN 0), true, true, true, true, true, true, ABlk.inb zz8 (0 + Int.toNat (zN k)) 4, true, true, true, true, true, true, true, decide (zN 0 <= zN k /\ zN k < ↑(c.nt)), true, true, decide (zN k < ↑(c.nt)) == true], [])) /\ ((decide (zN k < ↑(c.nt))) = false -> Q (Exit.exit 0, [some (lkA (List.zip koH (koYBV (c.nt) k)) 0), some (lkA (List.zip koH (koYBV (c.nt) k)) 1), some (lkA (List.zip koH (koYBV (c.nt) k)) 8), some (lkA (List.zip koH (koYBV (c.nt) k)) 9)], [yO 49 1 (Cs.arr (c.nt) fun k => List.map AC.v ((fun j => [Value.int .u32 (g j)]) k)), yF 26 0 (Cs.lit [zI (zN 1), zI (Int.negSucc 0)]), some zz4, yF 3 1 zz9, yF 3 1 zz10, yF 3 1 zz11, yF 51 3 zz5, some zz7, some (zM true false 59 0 (Cs.lit (vwL v))), some (zM true false 60 0 (Cs.lit [zU a, zU b])), some zz6, yO 3 1 (Cs.arr (Int.toNat (c.nodes)) fun k => List.map AC.v ((fun i => [Value.int .i64 (pairF c (2 * c.np) i)]) k)), yO 3 1 zz9, yO 3 1 zz10, yO 3 1 zz11, yO 51 3 zz5, some zz2, some zz8, some zz15, some zz12, some zz14, some zz13, some zz1, some zz0, some zz14, yF 0 0 (Cs.obj (AObj.dfr true)), some zz3, yF 0 0 (Cs.obj (AObj.dfr true))], 23, 10000000000000000000000000000000000000000000000000001, [decide (zN k < ↑(c.nt)) == false], [])))) :
 ∃ p r, koYBR Tryz.prog c v w a b q i I g k p = some r /\ Q r :=
 two H (fun g1 => ⟨pD 2 1, _, by kernel_rfl, g1⟩) (fun g1 => ⟨pD 1 2, _, by kernel_rfl, g1⟩)
theorem koNNT (c : Cfg) (v w : Vw) (a b : Int) (i : Nat) (I : Nat -> Bool) (g : Nat -> Int) (k : Nat) (Q : VC -> Prop) (H : let zI := fun z : Int => AC.v (Value.int .i64 z); let zU := fun z : Int => AC.v (Value.int .u8 z); let zH := fun z : Int => AC.v (Value.int .u16 z); let zW := fun z : Int => AC.v (Value.int .u32 z); let zB := fun z : Bool => AC.v (Value.bool z); let zA := AV.any; let zN := Int.ofNat; let zM := ABlk.mk; let yO := fun (t s : Nat) (c : Cs) => some (ABlk.mk true true t s c); let yF := fun (t s : Nat) (c : Cs) => some (ABlk.mk false false t s c); let z8 := fun (f : Nat -> AC) (l : List AC) => f 0 :: f 1 :: f 2 :: f 3 :: f 4 :: f 5 :: f 6 :: f 7 :: l; let z9 := fun (a : AV) (l : List AV) => a :: a :: a :: a :: a :: a :: a :: a :: l; let zz0 := (zM true false 73 0 (Cs.lit (zI (zN i) :: zB false :: zI (zN 0) :: zU (zN 0) :: zU (zN 0) :: zW (zN 0) :: zW (zN 0) :: z8 (fun zk => zB (Vw.inn w zk)) (z8 (fun zk => zU (Vw.miss w zk)) (z8 (fun zk => zU (Vw.good w zk)) (z8 (fun zk => zH (Vw.score w zk)) (z8 (fun zk => zB (Vw.got w zk)) [AC.v (Value.int IntKind.i8 (Vw.command w)), zU (Vw.mode w), AC.sl 1520000000000000000000000000000000000000064 0 0 (Cfg.nt c) none]))))))); let zz1 := (zM true false 73 0 (Cs.lit (zI (zN 0) :: zB false :: zI (zN 0) :: zU (zN 0) :: zU (zN 0) :: zW (zN 0) :: zW (zN 0) :: z8 (fun zk => zB false) (z8 (fun zk => zU (zN 0)) (z8 (fun zk => zU (zN 0)) (z8 (fun zk => zH (zN 0)) (z8 (fun zk => zB false) [AC.v (Value.int IntKind.i8 (zN 0)), zU (zN 0), AC.v (Value.slice none 0 0)]))))))); let zz2 := (zM true false 122 0 (Cs.lit (AC.ptr 15 0 0 :: AC.v (Value.int IntKind.i64 ↑(Cfg.ns c)) :: zI (zN (i + 1)) :: z8 (fun zk => zB (Vw.inn w zk)) (z8 (fun zk => zU (Vw.miss w zk)) (z8 (fun zk => zU (Vw.good w zk)) (z8 (fun zk => zH (Vw.score w zk)) (z8 (fun zk => zB (Vw.got w zk)) [AC.v (Value.int IntKind.i8 (Vw.command w)), zU (Vw.mode w), AC.sl 60000000700000000000000000000000000000197 0 0 (Cfg.nt c) none]))))))); let zz3 := (zM false false 0 0 (Cs.obj (AObj.loop LoopState.ready none (zA :: zA :: AV.c (AC.ptr 1100000000000000000000000000000000000000018 0 0) :: zA :: AV.c (AC.ptr 1100000000000000000000000000000000000000020 0 0) :: zA :: zA :: zA :: zA :: zA :: zA :: AV.c (AC.ptr 1540000000000000000000000000000000000000064 0 0) :: z9 zA (z9 zA (z9 zA (z9 zA (z9 zA (z9 zA (z9 zA (z9 zA (z9 zA (z9 zA (z9 zA (z9 zA (z9 zA (z9 zA (z9 zA (z9 zA (z9 zA (z9 zA (z9 zA [zA, zA, zA, zA, zA]))))))))))))))))))) (Array.mk [144, 145]) (rfA Tryz.prog 31 1) (rfB Tryz.prog 31 1) 1550000000000000000000000000000000000000070))); let zz4 := (zM true false 70 0 (Cs.lit [zB false, zI (zN 0), zU (zN 0), zU (zN 0), zW (zN 0), zW (zN 0)])); let zz5 := (zM false false 237 0 (Cs.lit [zB true, zB true, zB true, zB true, zB true, zB false, zB true, zB true, zB true, zB true, zB false, zB true, zB true, zB true, zB true, zB false, zB false, zB true, zB true, zB true, zB false, zB false, zB false, zB true, zB true])); let zz6 := (yT c); let zz7 := (zM true false 105 0 (Cs.lit [zI (Cfg.nodes c), AC.sl 17 0 0 (Cfg.np c) (some (Cfg.np c)), AC.sl 18 0 0 (Cfg.ns c) (some (Cfg.ns c)), zI (Cfg.long c), AC.sl 19 0 0 (Cfg.nb c) (some (Cfg.nb c)), AC.sl 20 0 0 (Cfg.nt c) (some (Cfg.nt c)), zI (Cfg.miss c), zI (Cfg.good c), zI (Cfg.fresh c), AC.sl 16 0 0 (Int.toNat (Cfg.nodes c)) none])); let zz8 := (zM true false 25 0 (Cs.lit [zI (Cfg.nodes c), AC.sl 0 0 0 (Cfg.np c) none, AC.sl 1 0 0 (Cfg.ns c) none, zI (Cfg.long c), AC.sl 2 0 0 (Cfg.nb c) none, AC.sl 3 0 0 (Cfg.nt c) none, zI (Cfg.miss c), zI (Cfg.good c), zI (Cfg.fresh c)])); let zz9 := (zM true true 86 4 (Cs.arr (Cfg.nt c) fun k => List.map AC.v ((fun x => [Value.bool false, Value.int IntKind.u32 0, Value.int IntKind.u32 0, Value.int IntKind.i64 0]) k))); let zz10 := (yP c); let zz11 := (yS c); let zz12 := (yB c); let zz13 := (zM true false 62 0 (Cs.lit [AC.ptr 60000000900000000000000000000000000000197 0 0])); let zz14 := (zM true false 53 0 (Cs.lit (z8 (fun zk => zB (I zk)) []))); (((decide (zN k < ↑(c.nt))) = true -> Q (Exit.normal, [some (lkA (List.zip koH (koNNV (c.nt) k)) 0), some (lkA (List.zip koH (koNNV (c.nt) k)) 1), some (lkA (List.zip koH (koNNV (c.nt) k)) 8), some (.c (zI (IntKind.wrap .i64 (zN k + zN 1))))], [yO 49 1 (Cs.arr (c.nt) fun i_1 => if i_1 = 0 + Int.toNat (zN k) then setL ((fun k => List.map AC.v ((fun j => [Value.int .u32 (g j)]) k)) i_1) 0 [zW (ouV c (zN k) false (zN 0) (zN 0) (IntKind.wrap .i64 (Int.tdiv (zN (i + 1)) ↑(c.ns))))] else List.map AC.v ((fun j => [Value.int .u32 (g j)]) i_1)), yF 26 0 (Cs.lit [zI (zN 1), zI (Int.negSucc 0)]), some zz5, yF 3 1 zz10, yF 3 1 zz11, yF 3 1 zz12, yF 51 3 zz6, some zz8, some (zM true false 59 0 (Cs.lit (vwL v))), some (zM true false 60 0 (Cs.lit [zU a, zU b])), some zz7, yO 3 1 (Cs.arr (Int.toNat (c.nodes)) fun k => List.map AC.v ((fun i => [Value.int .i64 (pairF c (2 * c.np) i)]) k)), yO 3 1 zz10, yO 3 1 zz11, yO 3 1 zz12, yO 51 3 zz6, some zz2, some zz9, some zz14, some zz4, some zz13, some zz4, some zz1, some zz0, some zz13, yF 0 0 (Cs.obj (AObj.dfr true)), some zz3], 23, 10000000000220000000000000000000000000000000000000017, [ABlk.inb (zM true true 49 1 (Cs.arr (c.nt) fun k => List.map AC.v ((fun j => [Value.int .u32 (g j)]) k))) (0 + Int.toNat (zN k)) 1, decide (zN 0 <= zN k /\ zN k < ↑(c.nt)), netK c (Int.toNat (c.nodes)) (pairF c (2 * c.np)), nouQ (NetS.mk c (Int.toNat (c.nodes)) (pairF c (2 * c.np)) [.c (zI (zN k)), .agg [zB false, zW (zN 0), zW (zN 0), zI (zN 0)], .c (zI (IntKind.wrap .i64 (Int.tdiv (zN (i + 1)) ↑(c.ns))))]), decide (↑(c.ns) ≠ zN 0), true, true, true, true, true, true, ABlk.inb zz9 (0 + Int.toNat (zN k)) 4, true, true, true, true, true, true, true, decide (zN 0 <= zN k /\ zN k < ↑(c.nt)), true, true, decide (zN k < ↑(c.nt)) == true], [])) /\ ((decide (zN k < ↑(c.nt))) = false -> Q (Exit.exit 0, [some (lkA (List.zip koH (koNNV (c.nt) k)) 0), some (lkA (List.zip koH (koNNV (c.nt) k)) 1), some (lkA (List.zip koH (koNNV (c.nt) k)) 8), some (lkA (List.zip koH (koNNV (c.nt) k)) 9)], [yO 49 1 (Cs.arr (c.nt) fun k => List.map AC.v ((fun j => [Value.int .u32 (g j)]) k)), yF 26 0 (Cs.lit [zI (zN 1), zI (Int.negSucc 0)]), some zz5, yF 3 1 zz10, yF 3 1 zz11, yF 3 1 zz12, yF 51 3 zz6, some zz8, some (zM true false 59 0 (Cs.lit (vwL v))), some (zM true false 60 0 (Cs.lit [zU a, zU b])), some zz7, yO 3 1 (Cs.arr (Int.toNat (c.nodes)) fun k => List.map AC.v ((fun i => [Value.int .i64 (pairF c (2 * c.np) i)]) k)), yO 3 1 zz10, yO 3 1 zz11, yO 3 1 zz12, yO 51 3 zz6, some zz2, some zz9, some zz14, some zz4, some zz13, some zz4, some zz1, some zz0, some zz13, yF 0 0 (Cs.obj (AObj.dfr true)), some zz3], 23, 10000000000000000000000000000000000000000000000000001, [decide (zN k < ↑(c.nt)) == false], [])))) :
 ∃ p r, koNNR Tryz.prog c v w a b i I g k p = some r /\ Q r :=
 two H (fun g1 => ⟨pD 2 1, _, by kernel_rfl, g1⟩) (fun g1 => ⟨pD 1 2, _, by kernel_rfl, g1⟩)
theorem koNBT (c : Cfg) (v w : Vw) (a b : Int) (i : Nat) (I : Nat -> Bool) (g : Nat -> Int) (k : Nat) (Q : VC -> Prop) (H : let zI := fun z : Int => AC.v (Value.int .i64 z); let zU := fun z : Int => AC.v (Value.int .u8 z); let zH := fun z : Int => AC.v (Value.int .u16 z); let zW := fun z : Int => AC.v (Value.int .u32 z); let zB := fun z : Bool => AC.v (Value.bool z); let zA := AV.any; let zN := Int.ofNat; let zM := ABlk.mk; let yO := fun (t s : Nat) (c : Cs) => some (ABlk.mk true true t s c); let yF := fun (t s : Nat) (c : Cs) => some (ABlk.mk false false t s c); let z8 := fun (f : Nat -> AC) (l : List AC) => f 0 :: f 1 :: f 2 :: f 3 :: f 4 :: f 5 :: f 6 :: f 7 :: l; let z9 := fun (a : AV) (l : List AV) => a :: a :: a :: a :: a :: a :: a :: a :: l; let zz0 := (zM true false 73 0 (Cs.lit (zI (zN i) :: zB false :: zI (zN 0) :: zU (zN 0) :: zU (zN 0) :: zW (zN 0) :: zW (zN 0) :: z8 (fun zk => zB (Vw.inn w zk)) (z8 (fun zk => zU (Vw.miss w zk)) (z8 (fun zk => zU (Vw.good w zk)) (z8 (fun zk => zH (Vw.score w zk)) (z8 (fun zk => zB (Vw.got w zk)) [AC.v (Value.int IntKind.i8 (Vw.command w)), zU (Vw.mode w), AC.sl 1640000000000000000000000000000000000000065 0 0 (Cfg.nt c) none]))))))); let zz1 := (zM true false 73 0 (Cs.lit (zI (zN 0) :: zB false :: zI (zN 0) :: zU (zN 0) :: zU (zN 0) :: zW (zN 0) :: zW (zN 0) :: z8 (fun zk => zB false) (z8 (fun zk => zU (zN 0)) (z8 (fun zk => zU (zN 0)) (z8 (fun zk => zH (zN 0)) (z8 (fun zk => zB false) [AC.v (Value.int IntKind.i8 (zN 0)), zU (zN 0), AC.v (Value.slice none 0 0)]))))))); let zz2 := (zM true false 122 0 (Cs.lit (AC.ptr 15 0 0 :: AC.v (Value.int IntKind.i64 ↑(Cfg.ns c)) :: zI (zN (i + 1)) :: z8 (fun zk => zB (Vw.inn w zk)) (z8 (fun zk => zU (Vw.miss w zk)) (z8 (fun zk => zU (Vw.good w zk)) (z8 (fun zk => zH (Vw.score w zk)) (z8 (fun zk => zB (Vw.got w zk)) [AC.v (Value.int IntKind.i8 (Vw.command w)), zU (Vw.mode w), AC.sl 60000000700000000000000000000000000000197 0 0 (Cfg.nt c) none]))))))); let zz3 := (zM false false 0 0 (Cs.obj (AObj.loop LoopState.ready none (zA :: zA :: AV.c (AC.ptr 1100000000000000000000000000000000000000018 0 0) :: zA :: AV.c (AC.ptr 1100000000000000000000000000000000000000020 0 0) :: zA :: zA :: zA :: zA :: zA :: zA :: AV.c (AC.ptr 1660000000000000000000000000000000000000065 0 0) :: z9 zA (z9 zA (z9 zA (z9 zA (z9 zA (z9 zA (z9 zA (z9 zA (z9 zA (z9 zA (z9 zA (z9 zA (z9 zA (z9 zA (z9 zA (z9 zA (z9 zA (z9 zA (z9 zA [zA, zA, zA, zA, zA]))))))))))))))))))) (Array.mk [144, 145]) (rfA Tryz.prog 31 1) (rfB Tryz.prog 31 1) 1670000000000000000000000000000000000000071))); let zz4 := (zM true false 70 0 (Cs.lit [zB false, zI (zN 0), zU (zN 0), zU (zN 0), zW (zN 0), zW (zN 0)])); let zz5 := (zM false false 237 0 (Cs.lit [zB true, zB true, zB true, zB true, zB true, zB false, zB true, zB true, zB true, zB true, zB false, zB true, zB true, zB true, zB true, zB false, zB false, zB true, zB true, zB true, zB false, zB false, zB false, zB true, zB true])); let zz6 := (yT c); let zz7 := (zM true false 105 0 (Cs.lit [zI (Cfg.nodes c), AC.sl 17 0 0 (Cfg.np c) (some (Cfg.np c)), AC.sl 18 0 0 (Cfg.ns c) (some (Cfg.ns c)), zI (Cfg.long c), AC.sl 19 0 0 (Cfg.nb c) (some (Cfg.nb c)), AC.sl 20 0 0 (Cfg.nt c) (some (Cfg.nt c)), zI (Cfg.miss c), zI (Cfg.good c), zI (Cfg.fresh c), AC.sl 16 0 0 (Int.toNat (Cfg.nodes c)) none])); let zz8 := (zM true false 25 0 (Cs.lit [zI (Cfg.nodes c), AC.sl 0 0 0 (Cfg.np c) none, AC.sl 1 0 0 (Cfg.ns c) none, zI (Cfg.long c), AC.sl 2 0 0 (Cfg.nb c) none, AC.sl 3 0 0 (Cfg.nt c) none, zI (Cfg.miss c), zI (Cfg.good c), zI (Cfg.fresh c)])); let zz9 := (zM true true 86 4 (Cs.arr (Cfg.nt c) fun k => List.map AC.v ((fun x => [Value.bool false, Value.int IntKind.u32 0, Value.int IntKind.u32 0, Value.int IntKind.i64 0]) k))); let zz10 := (yP c); let zz11 := (yS c); let zz12 := (yB c); let zz13 := (zM true false 62 0 (Cs.lit [AC.ptr 60000000900000000000000000000000000000197 0 0])); let zz14 := (zM true false 53 0 (Cs.lit (z8 (fun zk => zB (I zk)) []))); (((decide (zN k < ↑(c.nt))) = true -> Q (Exit.normal, [some (lkA (List.zip koH (koNBV (c.nt) k)) 0), some (lkA (List.zip koH (koNBV (c.nt) k)) 1), some (lkA (List.zip koH (koNBV (c.nt) k)) 8), some (.c (zI (IntKind.wrap .i64 (zN k + zN 1))))], [yO 49 1 (Cs.arr (c.nt) fun i_1 => if i_1 = 0 + Int.toNat (zN k) then setL ((fun k => List.map AC.v ((fun j => [Value.int .u32 (g j)]) k)) i_1) 0 [zW (ouV c (zN k) false (zN 0) (zN 0) (IntKind.wrap .i64 (Int.tdiv (zN (i + 1)) ↑(c.ns))))] else List.map AC.v ((fun j => [Value.int .u32 (g j)]) i_1)), yF 26 0 (Cs.lit [zI (zN 1), zI (Int.negSucc 0)]), some zz5, yF 3 1 zz10, yF 3 1 zz11, yF 3 1 zz12, yF 51 3 zz6, some zz8, some (zM true false 59 0 (Cs.lit (vwL v))), some (zM true false 60 0 (Cs.lit [zU a, zU b])), some zz7, yO 3 1 (Cs.arr (Int.toNat (c.nodes)) fun k => List.map AC.v ((fun i => [Value.int .i64 (pairF c (2 * c.np) i)]) k)), yO 3 1 zz10, yO 3 1 zz11, yO 3 1 zz12, yO 51 3 zz6, some zz2, some zz9, some zz14, some zz4, some zz13, some zz4, some zz1, some zz0, some zz13, yF 0 0 (Cs.obj (AObj.dfr true)), some zz3], 23, 10000000000220000000000000000000000000000000000000017, [ABlk.inb (zM true true 49 1 (Cs.arr (c.nt) fun k => List.map AC.v ((fun j => [Value.int .u32 (g j)]) k))) (0 + Int.toNat (zN k)) 1, decide (zN 0 <= zN k /\ zN k < ↑(c.nt)), netK c (Int.toNat (c.nodes)) (pairF c (2 * c.np)), nouQ (NetS.mk c (Int.toNat (c.nodes)) (pairF c (2 * c.np)) [.c (zI (zN k)), .agg [zB false, zW (zN 0), zW (zN 0), zI (zN 0)], .c (zI (IntKind.wrap .i64 (Int.tdiv (zN (i + 1)) ↑(c.ns))))]), decide (↑(c.ns) ≠ zN 0), true, true, true, true, true, true, ABlk.inb zz9 (0 + Int.toNat (zN k)) 4, true, true, true, true, true, true, true, decide (zN 0 <= zN k /\ zN k < ↑(c.nt)), true, true, decide (zN k < ↑(c.nt)) == true], [])) /\ ((decide (zN k < ↑(c.nt))) = false -> Q (Exit.exit 0, [some (lkA (List.zip koH (koNBV (c.nt) k)) 0), some (lkA (List.zip koH (koNBV (c.nt) k)) 1), some (lkA (List.zip koH (koNBV (c.nt) k)) 8), some (lkA (List.zip koH (koNBV (c.nt) k)) 9)], [yO 49 1 (Cs.arr (c.nt) fun k => List.map AC.v ((fun j => [Value.int .u32 (g j)]) k)), yF 26 0 (Cs.lit [zI (zN 1), zI (Int.negSucc 0)]), some zz5, yF 3 1 zz10, yF 3 1 zz11, yF 3 1 zz12, yF 51 3 zz6, some zz8, some (zM true false 59 0 (Cs.lit (vwL v))), some (zM true false 60 0 (Cs.lit [zU a, zU b])), some zz7, yO 3 1 (Cs.arr (Int.toNat (c.nodes)) fun k => List.map AC.v ((fun i => [Value.int .i64 (pairF c (2 * c.np) i)]) k)), yO 3 1 zz10, yO 3 1 zz11, yO 3 1 zz12, yO 51 3 zz6, some zz2, some zz9, some zz14, some zz4, some zz13, some zz4, some zz1, some zz0, some zz13, yF 0 0 (Cs.obj (AObj.dfr true)), some zz3], 23, 10000000000000000000000000000000000000000000000000001, [decide (zN k < ↑(c.nt)) == false], [])))) :
 ∃ p r, koNBR Tryz.prog c v w a b i I g k p = some r /\ Q r :=
 two H (fun g1 => ⟨pD 2 1, _, by kernel_rfl, g1⟩) (fun g1 => ⟨pD 1 2, _, by kernel_rfl, g1⟩)
theorem jj8g (k : Nat) : 0 + Int.toNat (Int.ofNat k) = k := by simp
theorem jjf9 {k : Nat} (h : k < 9223372036854775807) : IntKind.wrap IntKind.i64 (Int.ofNat k + Int.ofNat 1) = Int.ofNat (k + 1) := by rw [jj6 _ (by simp; omega) (by simp; omega)]; rfl
theorem jj6p {N : Nat} (hN : 120000000000000000000000000000000000000054 <= N) (i : Nat) (h : Nat.blt i 120000000000000000000000000000000000000054 = true) : Nat.blt i N = true := by
 rw [Nat.blt_eq] at h ⊢; exact Nat.lt_of_lt_of_le h hN
theorem jjd0 {N : Nat} {u : Vw} : (vwL u).all (lowC N) = true := rfl
theorem jjfb {N : Nat} (hN : 120000000000000000000000000000000000000054 <= N) {c : Cfg} {u : Vw} {i n : Nat} : lowB N (keMB c u i n) := by
 refine jjc ?_; rw [List.all_append, List.all_append, jjd0]; simp [lowC, jj6p hN 15 rfl, jj6p hN keSI rfl]
theorem jjev {N : Nat} (hN : 120000000000000000000000000000000000000054 <= N) {c : Cfg} : lowB N (netY 15 c) := by
 refine jjc ?_; simp [netC, lowC, jj6p hN 15 rfl, jj6p hN 16 rfl, jj6p hN 17 rfl, jj6p hN 18 rfl, jj6p hN 19 rfl, jj6p hN 20 rfl]
theorem jj4m {N : Nat} (hN : 120000000000000000000000000000000000000054 <= N) {c : Cfg} {v u : Vw} {a b : Int} {i : Nat} {I : Nat -> Bool} : ∀ x ∈ keK c v u a b i I, lowB N x := by
 intro x hx; simp only [List.mem_cons, List.not_mem_nil, or_false] at hx; rcases hx with rfl | rfl | rfl | rfl | rfl | rfl | rfl | rfl | rfl | rfl | rfl | rfl | rfl | rfl | rfl | rfl | rfl | rfl
 . exact jjc rfl
 . exact jjc rfl
 . exact jje
 . exact jje
 . exact jje
 . exact jje
 . exact jj1g (Nat.le_trans (by decide) hN)
 . exact jj24
 . exact jjc rfl
 . exact jjev hN
 . exact jjg
 . exact jjg
 . exact jjg
 . exact jjg
 . exact jjg
 . exact jjfb hN
 . exact jjg
 . exact jjc rfl
theorem jjho {n : Nat} {f : Nat -> List AC} (h : ∀ i, i < n -> f i = [.v (.bool false), .v (.int .u32 0), .v (.int .u32 0), .v (.int .i64 0)]) : BEq (ABlk.mk true true 86 4 (.arr n f)) (keSB n) := ⟨rfl, rfl, rfl, rfl, .inr (.inl ⟨n, _, _, rfl, rfl, fun i hi => h i hi⟩)⟩
theorem ke_tk (c : Cfg) (z st dq pr cm rd : Int) : tkB c z false (Int.ofNat 0) true (Int.ofNat 1) st dq pr cm rd = false := by
 unfold tkB; simp
abbrev ktN : Nat := 1440000000000000000000000000000000000000090
theorem jjdf {P : Program} {c : Cfg} {v u : Vw} {a b : Int} {i : Nat} {I : Nat -> Bool} {q o rr : Int} : ∀ x ∈ ktK P c v u a b i I q o rr, lowB ktN x := by
 intro x hx; rcases List.mem_append.1 hx with hx | hx
 . exact jj4m (by decide) x hx
 simp only [List.mem_cons, List.not_mem_nil, or_false] at hx; rcases hx with rfl | rfl | rfl | rfl | rfl | rfl | rfl | rfl | rfl
 . exact jjc rfl
 . exact jjc rfl
 . exact jjc rfl
 . exact jjc rfl
 . exact jjc rfl
 . exact jjc rfl
 . exact jjc rfl
 . exact jj22 rfl
 . exact jj22 rfl
def leL : List AV -> List AV -> Prop
 | [], [] => True
 | x :: xs, y :: ys => (y = .any \/ x = y) /\ leL xs ys
 | _, _ => False
theorem jjhe : ∀ {l k : List AV}, leL l k -> tmLe l k
 | [], [], _ => tmLe.refl _
 | [], _ :: _, h => h.elim
 | _ :: _, [], h => h.elim
 | x :: xs, y :: ys, h => by
  obtain ⟨h1, h2⟩ := h; obtain ⟨q1, q2⟩ := jjhe h2; refine ⟨by simp [q1], fun t av ht => ?_⟩
  cases t with
  | zero =>
   simp only [List.getElem?_cons_zero, Option.some.injEq] at ht ⊢; subst ht; rcases h1 with h | h
   . exact .inl h
   . exact .inr h
  | succ t =>
   simp only [List.getElem?_cons_succ] at ht ⊢; exact q2 t av ht
theorem jj59 {st : LoopState} {pd : Option Code} {tm tm' : List AV} {ps : Array Tmp} {a1 bd : Code} {dn : Nat} (h : leL tm tm') : BEq (oblk (.loop st pd tm ps a1 bd dn)) (oblk (.loop st pd tm' ps a1 bd dn)) := ⟨rfl, rfl, rfl, rfl, .inr (.inr ⟨_, _, rfl, rfl, rfl, rfl, jjhe h, rfl, rfl, rfl, rfl⟩)⟩
theorem jjeh {E : Env} (hE : EnvOk E) {fuel : Nat} {body : Code} (hs xs ids : List Nat) (vals : Nat -> List AV) (blks : List ABlk) {eb : List (Option ABlk)} (heb : BL blks eb) {N n nh n' str : Nat} {e : Exit} {out : List (Nat × AV)} {mF : AMem} (j : Nat)
 (hn1 : n <= nh) (hn2 : nh <= n') (hn3 : n' <= lim) (he : e ≠ .normal) (hlen : ∀ k, hs.length = (vals k).length /\ ids.length = blks.length) (hids : ids.all (keptB n n') = true) (hlow : ∀ k, k <= j -> ((vals k).all (okV n)) = true) (hb : ∀ b ∈ blks, lowB n b)
 (step : ∀ k, k < j -> ∃ p r, view (hs ++ xs) ids (fC E fuel body nh str (stH N hs ids (vals k) blks p [])) = some r /\ NextV n' N hs.length (vals (k + 1)) blks r)
 (stop : ∃ p r, view (hs ++ xs) ids (fC E fuel body nh str (stH N hs ids (vals j) blks p [])) = some r /\ EndV n n' N (hs ++ xs) ids e out mF r) :
 LoopV E.P body hs ids ((vals 0).map some) eb N n (mkFr N out) mF n' e none := by
 refine jjn hE (fuel := fuel) (nh := nh) (str := str) (S := Nat) (fun k => k <= j) (fun k => j - k) hs xs ids vals (fun _ => blks) hn1 hn2 hn3 (s0 := 0) (Nat.zero_le _) hlen hids heb (fun k hk => ⟨hlow k hk, hb⟩) fun k hk => ?_
 rcases Nat.lt_or_ge k j with h | h
 . obtain ⟨p, r, h1, ⟨g1, g2, g3, g4⟩, h3, h4, h5⟩ := step k h
   exact ⟨p, [], r, h1, g1, g2, g3, g4, .inl ⟨h3, k + 1, h, by show j - (k + 1) < j - k; omega, h4, h5⟩⟩
 . obtain rfl : k = j := by omega
   obtain ⟨p, r, h1, ⟨g1, g2, g3, g4⟩, h3, h4, h5⟩ := stop; exact ⟨p, [], r, h1, g1, g2, g3, g4, .inr ⟨by rw [h3]; exact he, h3, h4, h5⟩⟩
set_option maxRecDepth 100000 in
theorem jjhf (c : Cfg) (v u : Vw) (a b : Int) (i : Nat) (I : Nat -> Bool) (q o rr : Int) (hn : c.nt <= 8) (hst : stPre c c.nodes.toNat = true) {eb : List (Option ABlk)} (hL : BL (ktK Tryz.prog c v u a b i I q o rr) eb) :
 LoopV Tryz.prog (loopAt Tryz.prog 109 0) ktH ktI ((ktV c.nt 0).map some) eb 23 ktN (mkFr 23 []) (ktI.zip (ktK Tryz.prog c v u a b i I q o rr)) 1000000000000000000000000000000000000000000000000000 (.exit 0) none := by
 have hE : EnvOk (EKe Tryz.prog) := jj3w jj1z (by kernel_rfl) (by kernel_rfl); refine jjeh hE (fuel := 100) (str := nSt) (nh := 100000000000000000000000000000000000000000000000000) (n' := 1000000000000000000000000000000000000000000000000000) ktH [] ktI (fun k => ktV c.nt k) (ktK Tryz.prog c v u a b i I q o rr) hL c.nt (by decide) (by decide) (by unfold lim; omega) (by simp) (fun _ => ⟨rfl, rfl⟩) (by kernel_rfl) (fun _ _ => rfl) jjdf ?_ ?_
 . intro k hk
   refine ktT c v u a b i I q o rr k _ ⟨fun c1 => ?_, fun c1 => ?_⟩
   . have hq : ntkQ (NetS.mk c c.nodes.toNat (pairF c (2 * c.np)) [.c (.v (.int .i64 (Int.ofNat k))), .agg [.v (.bool false), .v (.int .u32 (Int.ofNat 0)), .v (.int .u32 (Int.ofNat 0)), .v (.int .i64 (Int.ofNat 0))], .agg [.v (.bool true), .v (.int .i64 (Int.ofNat i)), .v (.int .u8 (Int.ofNat 1)), .v (.int .u8 (Int.ofNat 0)), .v (.int .u32 (Int.ofNat 0)), .v (.int .u32 q), .v (.int .i64 o), .v (.int .i64 (IntKind.wrap .i64 (Vw.command u))), .v (.int .i64 rr)]]) = true := by
      show (stPre c c.nodes.toNat && true) = true; rw [hst]; rfl
     refine ⟨⟨?_, rfl, by dsimp only; omega, rfl⟩, rfl, ?_, ?_⟩
     . simp only [allT, List.forall_mem_cons, jj8g, hq, jji]
       simp [jj2]; omega
     . dsimp only; rw [jjf9 (show k < 9223372036854775807 by omega)]; rfl
     . refine ⟨BEq.refl _, BEq.refl _, BEq.refl _, BEq.refl _, BEq.refl _, BEq.refl _, BEq.refl _, BEq.refl _, BEq.refl _, BEq.refl _, BEq.refl _, BEq.refl _, BEq.refl _, BEq.refl _, BEq.refl _, BEq.refl _, jjho (fun j hj => ?_), BEq.refl _, BEq.refl _, BEq.refl _, BEq.refl _, BEq.refl _, BEq.refl _, BEq.refl _, BEq.refl _, BEq.refl _, BEq.refl _, trivial⟩
       by_cases e : j = 0 + Int.toNat (Int.ofNat k)
       . rw [if_pos e, ke_tk]
         simp [tkI, setL, setS, pickC]
       . rw [if_neg e]; rfl
   . simp at c1; omega
 . refine ktT c v u a b i I q o rr c.nt _ ⟨fun c1 => ?_, fun c1 => ?_⟩
   . simp at c1
   . exact ⟨⟨by simp only [allT, List.forall_mem_cons, c1]; simp, rfl, by dsimp only; omega, rfl⟩, rfl, (fun _ h => by cases h), jj95 (by kernel_rfl) jjdf rfl⟩
def koG (c : Cfg) (i k j : Nat) : Int := if j < k then ouV c (Int.ofNat j) false (Int.ofNat 0) (Int.ofNat 0) (IntKind.wrap .i64 (Int.tdiv (Int.ofNat (i + 1)) c.ns)) else 0
theorem jjc2 {c : Cfg} {i n k : Nat} {f : Nat -> List AC} (h : ∀ j, j < n -> f j = [.v (.int .u32 (koG c i k j))]) : BEq (ABlk.mk true true 49 1 (.arr n f)) (koO n (koG c i k)) := ⟨rfl, rfl, rfl, rfl, .inr (.inl ⟨n, _, _, rfl, rfl, fun j hj => h j hj⟩)⟩
theorem jjc3 {n : Nat} {f g : Nat -> Int} {y : ABlk} (hy : BEq y (koO n f)) (h : ∀ j, j < n -> f j = g j) : BEq y (koO n g) := by
 obtain ⟨h1, h2, h3, h4, h5⟩ := hy; refine ⟨h1, h2, h3, h4, ?_⟩; rcases h5 with ⟨l, e1, e2⟩ | ⟨q, u, w, e1, e2, e3⟩ | ⟨o, o', e1, e2, _⟩
 . cases e2
 . cases e2
   exact .inr (.inl ⟨_, u, _, e1, rfl, fun j hj => by rw [e3 j hj]; dsimp only; rw [h j hj]⟩)
 . cases e2
theorem jjf2 {c : Cfg} {v w : Vw} {a b q : Int} {i : Nat} {I : Nat -> Bool} : ∀ x ∈ koYNL Tryz.prog c v w a b q i I, lowB koYNN x := by
 intro x hx; rcases List.mem_append.1 hx with hx | hx
 . exact jj4m (by decide) x hx
 simp only [List.mem_cons, List.not_mem_nil, or_false] at hx; rcases hx with rfl | rfl | rfl | rfl | rfl | rfl | rfl | rfl | rfl
 . exact jjc rfl
 . exact jjc rfl
 . exact jjc rfl
 . exact jjc rfl
 . exact jjc rfl
 . exact jjc rfl
 . exact jj22 rfl
 . exact jj22 rfl
 . exact jj22 rfl
set_option maxRecDepth 100000 in
theorem jjf1 (c : Cfg) (v w : Vw) (a b q : Int) (i : Nat) (I : Nat -> Bool) (hn : c.nt <= 8) (hns : c.ns ≠ 0) (hst : stPre c c.nodes.toNat = true) (hh : holdsOk c = true) (hv : i64B (IntKind.wrap .i64 (Int.tdiv (Int.ofNat (i + 1)) c.ns)) = true) {eb : List (Option ABlk)} (hL : BL (koYNL Tryz.prog c v w a b q i I) eb) {y : ABlk} (hy : BEq y (koO c.nt fun _ => 0)) :
 LoopV Tryz.prog (loopAt Tryz.prog 109 0) koH koYNI ((koYNV c.nt 0).map some) (some y :: eb) 23 koYNN (mkFr 23 []) (koYNI.zip (koO c.nt (koG c i c.nt) :: koYNL Tryz.prog c v w a b q i I)) 100000000000000000000000000000000000000000000000000000 (.exit 0) none := by
 have hE : EnvOk (EKe Tryz.prog) := jj3w jj1z (by kernel_rfl) (by kernel_rfl)
 have lo : ∀ k, ∀ x ∈ koO c.nt (koG c i k) :: koYNL Tryz.prog c v w a b q i I, lowB koYNN x := fun k x hx => by
  rcases List.mem_cons.1 hx with rfl | hx
  . exact jjg
  . exact jjf2 x hx
 refine jjn hE (fuel := 100) (str := nSt) (nh := 10000000000000000000000000000000000000000000000000000) (S := Nat) (fun k => k <= c.nt) (fun k => c.nt - k) koH [] koYNI (fun k => koYNV c.nt k) (fun k => koO c.nt (koG c i k) :: koYNL Tryz.prog c v w a b q i I) (by decide) (by decide) (by unfold lim; omega) (s0 := 0) (Nat.zero_le _) (fun _ => ⟨rfl, rfl⟩) (by kernel_rfl) ⟨jjc3 hy (fun j _ => by unfold koG; rw [if_neg (Nat.not_lt_zero _)]), hL⟩ (fun k _ => ⟨rfl, lo k⟩) ?_; intro k hk; refine (?_ : (∃ p r, koYNR Tryz.prog c v w a b q i I (koG c i k) k p = some r /\ _) -> _) (koYNT c v w a b q i I (koG c i k) k (StepV koYNN 100000000000000000000000000000000000000000000000000000 23 koH [] koYNI (fun k => k <= c.nt) (fun k => c.nt - k) (fun k => koYNV c.nt k) (fun k => koO c.nt (koG c i k) :: koYNL Tryz.prog c v w a b q i I) (.exit 0) [] (koYNI.zip (koO c.nt (koG c i c.nt) :: koYNL Tryz.prog c v w a b q i I)) k) ?_)
 . rintro ⟨p, r, h1, h2⟩
   exact ⟨p, [], r, h1, h2⟩
 . refine ⟨fun c1 => ?_, fun c1 => ?_⟩
   . have hlt : k < c.nt := by simpa using c1
     have hq : nouQ (NetS.mk c c.nodes.toNat (pairF c (2 * c.np)) [.c (.v (.int .i64 (Int.ofNat k))), .agg [.v (.bool false), .v (.int .u32 (Int.ofNat 0)), .v (.int .u32 (Int.ofNat 0)), .v (.int .i64 (Int.ofNat 0))], .c (.v (.int .i64 (IntKind.wrap .i64 (Int.tdiv (Int.ofNat (i + 1)) c.ns))))]) = true := by
      show (stPre c c.nodes.toNat && (holdsOk c && (i64B 0 && i64B (IntKind.wrap .i64 (Int.tdiv (Int.ofNat (i + 1)) c.ns))))) = true; rw [hst, hh, hv]; rfl
     refine ⟨?_, rfl, by dsimp only; omega, rfl, .inl ⟨rfl, k + 1, hlt, by show c.nt - (k + 1) < c.nt - k; omega, ?_, ⟨jjc2 fun j hj => ?_, BL.refl (koYNL Tryz.prog c v w a b q i I)⟩⟩⟩
     . simp only [allT, List.forall_mem_cons, jj8g, hq, jji]
       simp [jj2, hns]; omega
     . dsimp only; rw [jjf9 (show k < 9223372036854775807 by omega)]; rfl
     . by_cases e : j = 0 + Int.toNat (Int.ofNat k)
       . have e2 : j = k := by rw [e, jj8g]
         rw [if_pos e]; subst e2; have : koG c i (j + 1) j = ouV c (Int.ofNat j) false (Int.ofNat 0) (Int.ofNat 0) (IntKind.wrap .i64 (Int.tdiv (Int.ofNat (i + 1)) c.ns)) := if_pos (Nat.lt_succ_self j); rw [this]; simp [setL, setS, pickC]
       . rw [if_neg e]
         rw [jj8g] at e
         have : koG c i (k + 1) j = koG c i k j := by
          unfold koG; by_cases h : j < k
          . rw [if_pos h, if_pos (by omega)]
          . rw [if_neg h, if_neg (by omega)]
         rw [this]; rfl
   . obtain rfl : k = c.nt := by have : ¬ k < c.nt := by simpa using c1
                                 omega
     exact ⟨by simp only [allT, List.forall_mem_cons, c1]; simp, rfl, by dsimp only; omega, rfl, .inr ⟨by simp, rfl, (fun _ h => by cases h), jj95 (by kernel_rfl) (lo c.nt) rfl⟩⟩
theorem jjf4 {c : Cfg} {v w : Vw} {a b q : Int} {i : Nat} {I : Nat -> Bool} : ∀ x ∈ koYBL Tryz.prog c v w a b q i I, lowB koYBN x := by
 intro x hx; rcases List.mem_append.1 hx with hx | hx
 . exact jj4m (by decide) x hx
 simp only [List.mem_cons, List.not_mem_nil, or_false] at hx; rcases hx with rfl | rfl | rfl | rfl | rfl | rfl | rfl | rfl | rfl
 . exact jjc rfl
 . exact jjc rfl
 . exact jjc rfl
 . exact jjc rfl
 . exact jjc rfl
 . exact jjc rfl
 . exact jj22 rfl
 . exact jj22 rfl
 . exact jj22 rfl
set_option maxRecDepth 100000 in
theorem jjf3 (c : Cfg) (v w : Vw) (a b q : Int) (i : Nat) (I : Nat -> Bool) (hn : c.nt <= 8) (hns : c.ns ≠ 0) (hst : stPre c c.nodes.toNat = true) (hh : holdsOk c = true) (hv : i64B (IntKind.wrap .i64 (Int.tdiv (Int.ofNat (i + 1)) c.ns)) = true) {eb : List (Option ABlk)} (hL : BL (koYBL Tryz.prog c v w a b q i I) eb) {y : ABlk} (hy : BEq y (koO c.nt fun _ => 0)) :
 LoopV Tryz.prog (loopAt Tryz.prog 109 0) koH koYBI ((koYBV c.nt 0).map some) (some y :: eb) 23 koYBN (mkFr 23 []) (koYBI.zip (koO c.nt (koG c i c.nt) :: koYBL Tryz.prog c v w a b q i I)) 100000000000000000000000000000000000000000000000000000 (.exit 0) none := by
 have hE : EnvOk (EKe Tryz.prog) := jj3w jj1z (by kernel_rfl) (by kernel_rfl)
 have lo : ∀ k, ∀ x ∈ koO c.nt (koG c i k) :: koYBL Tryz.prog c v w a b q i I, lowB koYBN x := fun k x hx => by
  rcases List.mem_cons.1 hx with rfl | hx
  . exact jjg
  . exact jjf4 x hx
 refine jjn hE (fuel := 100) (str := nSt) (nh := 10000000000000000000000000000000000000000000000000000) (S := Nat) (fun k => k <= c.nt) (fun k => c.nt - k) koH [] koYBI (fun k => koYBV c.nt k) (fun k => koO c.nt (koG c i k) :: koYBL Tryz.prog c v w a b q i I) (by decide) (by decide) (by unfold lim; omega) (s0 := 0) (Nat.zero_le _) (fun _ => ⟨rfl, rfl⟩) (by kernel_rfl) ⟨jjc3 hy (fun j _ => by unfold koG; rw [if_neg (Nat.not_lt_zero _)]), hL⟩ (fun k _ => ⟨rfl, lo k⟩) ?_; intro k hk; refine (?_ : (∃ p r, koYBR Tryz.prog c v w a b q i I (koG c i k) k p = some r /\ _) -> _) (koYBT c v w a b q i I (koG c i k) k (StepV koYBN 100000000000000000000000000000000000000000000000000000 23 koH [] koYBI (fun k => k <= c.nt) (fun k => c.nt - k) (fun k => koYBV c.nt k) (fun k => koO c.nt (koG c i k) :: koYBL Tryz.prog c v w a b q i I) (.exit 0) [] (koYBI.zip (koO c.nt (koG c i c.nt) :: koYBL Tryz.prog c v w a b q i I)) k) ?_)
 . rintro ⟨p, r, h1, h2⟩
   exact ⟨p, [], r, h1, h2⟩
 . refine ⟨fun c1 => ?_, fun c1 => ?_⟩
   . have hlt : k < c.nt := by simpa using c1
     have hq : nouQ (NetS.mk c c.nodes.toNat (pairF c (2 * c.np)) [.c (.v (.int .i64 (Int.ofNat k))), .agg [.v (.bool false), .v (.int .u32 (Int.ofNat 0)), .v (.int .u32 (Int.ofNat 0)), .v (.int .i64 (Int.ofNat 0))], .c (.v (.int .i64 (IntKind.wrap .i64 (Int.tdiv (Int.ofNat (i + 1)) c.ns))))]) = true := by
      show (stPre c c.nodes.toNat && (holdsOk c && (i64B 0 && i64B (IntKind.wrap .i64 (Int.tdiv (Int.ofNat (i + 1)) c.ns))))) = true; rw [hst, hh, hv]; rfl
     refine ⟨?_, rfl, by dsimp only; omega, rfl, .inl ⟨rfl, k + 1, hlt, by show c.nt - (k + 1) < c.nt - k; omega, ?_, ⟨jjc2 fun j hj => ?_, BL.refl (koYBL Tryz.prog c v w a b q i I)⟩⟩⟩
     . simp only [allT, List.forall_mem_cons, jj8g, hq, jji]
       simp [jj2, hns]; omega
     . dsimp only; rw [jjf9 (show k < 9223372036854775807 by omega)]; rfl
     . by_cases e : j = 0 + Int.toNat (Int.ofNat k)
       . have e2 : j = k := by rw [e, jj8g]
         rw [if_pos e]; subst e2; have : koG c i (j + 1) j = ouV c (Int.ofNat j) false (Int.ofNat 0) (Int.ofNat 0) (IntKind.wrap .i64 (Int.tdiv (Int.ofNat (i + 1)) c.ns)) := if_pos (Nat.lt_succ_self j); rw [this]; simp [setL, setS, pickC]
       . rw [if_neg e]
         rw [jj8g] at e
         have : koG c i (k + 1) j = koG c i k j := by
          unfold koG; by_cases h : j < k
          . rw [if_pos h, if_pos (by omega)]
          . rw [if_neg h, if_neg (by omega)]
         rw [this]; rfl
   . obtain rfl : k = c.nt := by have : ¬ k < c.nt := by simpa using c1
                                 omega
     exact ⟨by simp only [allT, List.forall_mem_cons, c1]; simp, rfl, by dsimp only; omega, rfl, .inr ⟨by simp, rfl, (fun _ h => by cases h), jj95 (by kernel_rfl) (lo c.nt) rfl⟩⟩
theorem jjf6 {c : Cfg} {v w : Vw} {a b : Int} {i : Nat} {I : Nat -> Bool} : ∀ x ∈ koNNL Tryz.prog c v w a b i I, lowB koNNN x := by
 intro x hx; rcases List.mem_append.1 hx with hx | hx
 . exact jj4m (by decide) x hx
 simp only [List.mem_cons, List.not_mem_nil, or_false] at hx; rcases hx with rfl | rfl | rfl | rfl | rfl | rfl | rfl | rfl
 . exact jjc rfl
 . exact jjc rfl
 . exact jjc rfl
 . exact jjc rfl
 . exact jjc rfl
 . exact jjc rfl
 . exact jj22 rfl
 . exact jj22 rfl
set_option maxRecDepth 100000 in
theorem jjf5 (c : Cfg) (v w : Vw) (a b : Int) (i : Nat) (I : Nat -> Bool) (hn : c.nt <= 8) (hns : c.ns ≠ 0) (hst : stPre c c.nodes.toNat = true) (hh : holdsOk c = true) (hv : i64B (IntKind.wrap .i64 (Int.tdiv (Int.ofNat (i + 1)) c.ns)) = true) {eb : List (Option ABlk)} (hL : BL (koNNL Tryz.prog c v w a b i I) eb) {y : ABlk} (hy : BEq y (koO c.nt fun _ => 0)) :
 LoopV Tryz.prog (loopAt Tryz.prog 109 0) koH koNNI ((koNNV c.nt 0).map some) (some y :: eb) 23 koNNN (mkFr 23 []) (koNNI.zip (koO c.nt (koG c i c.nt) :: koNNL Tryz.prog c v w a b i I)) 100000000000000000000000000000000000000000000000000000 (.exit 0) none := by
 have hE : EnvOk (EKe Tryz.prog) := jj3w jj1z (by kernel_rfl) (by kernel_rfl)
 have lo : ∀ k, ∀ x ∈ koO c.nt (koG c i k) :: koNNL Tryz.prog c v w a b i I, lowB koNNN x := fun k x hx => by
  rcases List.mem_cons.1 hx with rfl | hx
  . exact jjg
  . exact jjf6 x hx
 refine jjn hE (fuel := 100) (str := nSt) (nh := 10000000000000000000000000000000000000000000000000000) (S := Nat) (fun k => k <= c.nt) (fun k => c.nt - k) koH [] koNNI (fun k => koNNV c.nt k) (fun k => koO c.nt (koG c i k) :: koNNL Tryz.prog c v w a b i I) (by decide) (by decide) (by unfold lim; omega) (s0 := 0) (Nat.zero_le _) (fun _ => ⟨rfl, rfl⟩) (by kernel_rfl) ⟨jjc3 hy (fun j _ => by unfold koG; rw [if_neg (Nat.not_lt_zero _)]), hL⟩ (fun k _ => ⟨rfl, lo k⟩) ?_; intro k hk; refine (?_ : (∃ p r, koNNR Tryz.prog c v w a b i I (koG c i k) k p = some r /\ _) -> _) (koNNT c v w a b i I (koG c i k) k (StepV koNNN 100000000000000000000000000000000000000000000000000000 23 koH [] koNNI (fun k => k <= c.nt) (fun k => c.nt - k) (fun k => koNNV c.nt k) (fun k => koO c.nt (koG c i k) :: koNNL Tryz.prog c v w a b i I) (.exit 0) [] (koNNI.zip (koO c.nt (koG c i c.nt) :: koNNL Tryz.prog c v w a b i I)) k) ?_)
 . rintro ⟨p, r, h1, h2⟩
   exact ⟨p, [], r, h1, h2⟩
 . refine ⟨fun c1 => ?_, fun c1 => ?_⟩
   . have hlt : k < c.nt := by simpa using c1
     have hq : nouQ (NetS.mk c c.nodes.toNat (pairF c (2 * c.np)) [.c (.v (.int .i64 (Int.ofNat k))), .agg [.v (.bool false), .v (.int .u32 (Int.ofNat 0)), .v (.int .u32 (Int.ofNat 0)), .v (.int .i64 (Int.ofNat 0))], .c (.v (.int .i64 (IntKind.wrap .i64 (Int.tdiv (Int.ofNat (i + 1)) c.ns))))]) = true := by
      show (stPre c c.nodes.toNat && (holdsOk c && (i64B 0 && i64B (IntKind.wrap .i64 (Int.tdiv (Int.ofNat (i + 1)) c.ns))))) = true; rw [hst, hh, hv]; rfl
     refine ⟨?_, rfl, by dsimp only; omega, rfl, .inl ⟨rfl, k + 1, hlt, by show c.nt - (k + 1) < c.nt - k; omega, ?_, ⟨jjc2 fun j hj => ?_, BL.refl (koNNL Tryz.prog c v w a b i I)⟩⟩⟩
     . simp only [allT, List.forall_mem_cons, jj8g, hq, jji]
       simp [jj2, hns]; omega
     . dsimp only; rw [jjf9 (show k < 9223372036854775807 by omega)]; rfl
     . by_cases e : j = 0 + Int.toNat (Int.ofNat k)
       . have e2 : j = k := by rw [e, jj8g]
         rw [if_pos e]; subst e2; have : koG c i (j + 1) j = ouV c (Int.ofNat j) false (Int.ofNat 0) (Int.ofNat 0) (IntKind.wrap .i64 (Int.tdiv (Int.ofNat (i + 1)) c.ns)) := if_pos (Nat.lt_succ_self j); rw [this]; simp [setL, setS, pickC]
       . rw [if_neg e]
         rw [jj8g] at e
         have : koG c i (k + 1) j = koG c i k j := by
          unfold koG; by_cases h : j < k
          . rw [if_pos h, if_pos (by omega)]
          . rw [if_neg h, if_neg (by omega)]
         rw [this]; rfl
   . obtain rfl : k = c.nt := by have : ¬ k < c.nt := by simpa using c1
                                 omega
     exact ⟨by simp only [allT, List.forall_mem_cons, c1]; simp, rfl, by dsimp only; omega, rfl, .inr ⟨by simp, rfl, (fun _ h => by cases h), jj95 (by kernel_rfl) (lo c.nt) rfl⟩⟩
theorem jjf8 {c : Cfg} {v w : Vw} {a b : Int} {i : Nat} {I : Nat -> Bool} : ∀ x ∈ koNBL Tryz.prog c v w a b i I, lowB koNBN x := by
 intro x hx; rcases List.mem_append.1 hx with hx | hx
 . exact jj4m (by decide) x hx
 simp only [List.mem_cons, List.not_mem_nil, or_false] at hx; rcases hx with rfl | rfl | rfl | rfl | rfl | rfl | rfl | rfl
 . exact jjc rfl
 . exact jjc rfl
 . exact jjc rfl
 . exact jjc rfl
 . exact jjc rfl
 . exact jjc rfl
 . exact jj22 rfl
 . exact jj22 rfl
set_option maxRecDepth 100000 in
theorem jjf7 (c : Cfg) (v w : Vw) (a b : Int) (i : Nat) (I : Nat -> Bool) (hn : c.nt <= 8) (hns : c.ns ≠ 0) (hst : stPre c c.nodes.toNat = true) (hh : holdsOk c = true) (hv : i64B (IntKind.wrap .i64 (Int.tdiv (Int.ofNat (i + 1)) c.ns)) = true) {eb : List (Option ABlk)} (hL : BL (koNBL Tryz.prog c v w a b i I) eb) {y : ABlk} (hy : BEq y (koO c.nt fun _ => 0)) :
 LoopV Tryz.prog (loopAt Tryz.prog 109 0) koH koNBI ((koNBV c.nt 0).map some) (some y :: eb) 23 koNBN (mkFr 23 []) (koNBI.zip (koO c.nt (koG c i c.nt) :: koNBL Tryz.prog c v w a b i I)) 100000000000000000000000000000000000000000000000000000 (.exit 0) none := by
 have hE : EnvOk (EKe Tryz.prog) := jj3w jj1z (by kernel_rfl) (by kernel_rfl)
 have lo : ∀ k, ∀ x ∈ koO c.nt (koG c i k) :: koNBL Tryz.prog c v w a b i I, lowB koNBN x := fun k x hx => by
  rcases List.mem_cons.1 hx with rfl | hx
  . exact jjg
  . exact jjf8 x hx
 refine jjn hE (fuel := 100) (str := nSt) (nh := 10000000000000000000000000000000000000000000000000000) (S := Nat) (fun k => k <= c.nt) (fun k => c.nt - k) koH [] koNBI (fun k => koNBV c.nt k) (fun k => koO c.nt (koG c i k) :: koNBL Tryz.prog c v w a b i I) (by decide) (by decide) (by unfold lim; omega) (s0 := 0) (Nat.zero_le _) (fun _ => ⟨rfl, rfl⟩) (by kernel_rfl) ⟨jjc3 hy (fun j _ => by unfold koG; rw [if_neg (Nat.not_lt_zero _)]), hL⟩ (fun k _ => ⟨rfl, lo k⟩) ?_; intro k hk; refine (?_ : (∃ p r, koNBR Tryz.prog c v w a b i I (koG c i k) k p = some r /\ _) -> _) (koNBT c v w a b i I (koG c i k) k (StepV koNBN 100000000000000000000000000000000000000000000000000000 23 koH [] koNBI (fun k => k <= c.nt) (fun k => c.nt - k) (fun k => koNBV c.nt k) (fun k => koO c.nt (koG c i k) :: koNBL Tryz.prog c v w a b i I) (.exit 0) [] (koNBI.zip (koO c.nt (koG c i c.nt) :: koNBL Tryz.prog c v w a b i I)) k) ?_)
 . rintro ⟨p, r, h1, h2⟩
   exact ⟨p, [], r, h1, h2⟩
 . refine ⟨fun c1 => ?_, fun c1 => ?_⟩
   . have hlt : k < c.nt := by simpa using c1
     have hq : nouQ (NetS.mk c c.nodes.toNat (pairF c (2 * c.np)) [.c (.v (.int .i64 (Int.ofNat k))), .agg [.v (.bool false), .v (.int .u32 (Int.ofNat 0)), .v (.int .u32 (Int.ofNat 0)), .v (.int .i64 (Int.ofNat 0))], .c (.v (.int .i64 (IntKind.wrap .i64 (Int.tdiv (Int.ofNat (i + 1)) c.ns))))]) = true := by
      show (stPre c c.nodes.toNat && (holdsOk c && (i64B 0 && i64B (IntKind.wrap .i64 (Int.tdiv (Int.ofNat (i + 1)) c.ns))))) = true; rw [hst, hh, hv]; rfl
     refine ⟨?_, rfl, by dsimp only; omega, rfl, .inl ⟨rfl, k + 1, hlt, by show c.nt - (k + 1) < c.nt - k; omega, ?_, ⟨jjc2 fun j hj => ?_, BL.refl (koNBL Tryz.prog c v w a b i I)⟩⟩⟩
     . simp only [allT, List.forall_mem_cons, jj8g, hq, jji]
       simp [jj2, hns]; omega
     . dsimp only; rw [jjf9 (show k < 9223372036854775807 by omega)]; rfl
     . by_cases e : j = 0 + Int.toNat (Int.ofNat k)
       . have e2 : j = k := by rw [e, jj8g]
         rw [if_pos e]; subst e2; have : koG c i (j + 1) j = ouV c (Int.ofNat j) false (Int.ofNat 0) (Int.ofNat 0) (IntKind.wrap .i64 (Int.tdiv (Int.ofNat (i + 1)) c.ns)) := if_pos (Nat.lt_succ_self j); rw [this]; simp [setL, setS, pickC]
       . rw [if_neg e]
         rw [jj8g] at e
         have : koG c i (k + 1) j = koG c i k j := by
          unfold koG; by_cases h : j < k
          . rw [if_pos h, if_pos (by omega)]
          . rw [if_neg h, if_neg (by omega)]
         rw [this]; rfl
   . obtain rfl : k = c.nt := by have : ¬ k < c.nt := by simpa using c1
                                 omega
     exact ⟨by simp only [allT, List.forall_mem_cons, c1]; simp, rfl, by dsimp only; omega, rfl, .inr ⟨by simp, rfl, (fun _ h => by cases h), jj95 (by kernel_rfl) (lo c.nt) rfl⟩⟩
abbrev kpQ : Nat := 100000000000000000000000000000000000000000000000000006
abbrev kpE (s0 s1 s2 s3 s4 s5 s6 : AC) (x : Vw) (e : AC) : ABlk := ⟨true, false, 73, 0, .lit (s0 :: s1 :: s2 :: s3 :: s4 :: s5 :: s6 :: (vwL x ++ [e]))⟩
abbrev kpI : List Nat := keI ++ [kpQ]
abbrev kpH : List Nat := keHs ++ [16, 18, 19, 20]
abbrev kpV (R : Int) (i : Nat) (rd : Int) (y : Bool) (p : Nat) : List AV := keVs R i ++ [.c (.ptr kpQ 0 0), i64 rd, bo y, i64 (Int.ofNat p)]
abbrev kpK (c : Cfg) (v x : Vw) (a b : Int) (i : Nat) (I : Nat -> Bool) (s0 s1 s2 s3 s4 s5 s6 e : AC) : List ABlk := keK c v x a b (i + 1) I ++ [kpE s0 s1 s2 s3 s4 s5 s6 x e]
def kpR (P : Program) (c : Cfg) (v x : Vw) (a b R : Int) (i : Nat) (I : Nat -> Bool) (s0 s1 s2 s3 s4 s5 s6 e : AC) (rd : Int) (y : Bool) (p : Nat) (path : List Dec) : Option VC :=
 view (kpH ++ []) kpI (fC (EKe P) 100 (loopAt P 4 1) 1000000000000000000000000000000000000000000000000000000 nSt (stH 211 kpH kpI (kpV R i rd y p) (kpK c v x a b i I s0 s1 s2 s3 s4 s5 s6 e) path []))
abbrev kpO (R : Int) (i : Nat) (y : Bool) : List (Nat × AV) := keHs.zip (keVs R i) ++ [(16, .c (.ptr kpQ 0 0)), (19, bo y)]
abbrev kpS (c : Cfg) (v x : Vw) (a b R : Int) (i : Nat) (I : Nat -> Bool) (s0 s1 s2 s3 s4 s5 s6 e : AC) (y : Bool) : LSum := ⟨kpH, kpI, mkFr 211 (kpO R i y), kpI.zip (kpK c v x a b i I s0 s1 s2 s3 s4 s5 s6 e), 10000000000000000000000000000000000000000000000000000000, .exit 2⟩
theorem kpY (c : Cfg) (v x : Vw) (a b R : Int) (i : Nat) (I : Nat -> Bool) (s0 s1 s2 s3 s4 s5 s6 e : AC) (rd : Int) (y : Bool) (k : Nat) (Q : VC -> Prop) (H : let zI := fun z : Int => AC.v (Value.int .i64 z); let zU := fun z : Int => AC.v (Value.int .u8 z); let zH := fun z : Int => AC.v (Value.int .u16 z); let zB := fun z : Bool => AC.v (Value.bool z); let zN := Int.ofNat; let zM := ABlk.mk; let zD := Int.toNat; let yO := fun (t s : Nat) (c : Cs) => some (ABlk.mk true true t s c); let yR := fun (t s : Nat) (c : Cs) => some (ABlk.mk true false t s c); let yF := fun (t s : Nat) (c : Cs) => some (ABlk.mk false false t s c); let z8 := fun (f : Nat -> AC) (l : List AC) => f 0 :: f 1 :: f 2 :: f 3 :: f 4 :: f 5 :: f 6 :: f 7 :: l; let zz0 := (s0 :: s1 :: s2 :: s3 :: s4 :: s5 :: s6 :: z8 (fun zk => zB (Vw.inn x zk)) (z8 (fun zk => zU (Vw.miss x zk)) (z8 (fun zk => zU (Vw.good x zk)) (z8 (fun zk => zH (Vw.score x zk)) (z8 (fun zk => zB (Vw.got x zk)) [AC.v (Value.int IntKind.i8 (Vw.command x)), zU (Vw.mode x), e]))))); let zz12 := (zM false false 237 0 (Cs.lit [zB true, zB true, zB true, zB true, zB true, zB false, zB true, zB true, zB true, zB true, zB false, zB true, zB true, zB true, zB true, zB false, zB false, zB true, zB true, zB true, zB false, zB false, zB false, zB true, zB true])); let zz17 := (yP c); let zz18 := (yS c); let zz19 := (yB c); let zz13 := (yT c); let zz16 := (zM true false 25 0 (Cs.lit [zI (Cfg.nodes c), AC.sl 0 0 0 (Cfg.np c) none, AC.sl 1 0 0 (Cfg.ns c) none, zI (Cfg.long c), AC.sl 2 0 0 (Cfg.nb c) none, AC.sl 3 0 0 (Cfg.nt c) none, zI (Cfg.miss c), zI (Cfg.good c), zI (Cfg.fresh c)])); let zz15 := (zM true false 105 0 (Cs.lit [zI (Cfg.nodes c), AC.sl 17 0 0 (Cfg.np c) (some (Cfg.np c)), AC.sl 18 0 0 (Cfg.ns c) (some (Cfg.ns c)), zI (Cfg.long c), AC.sl 19 0 0 (Cfg.nb c) (some (Cfg.nb c)), AC.sl 20 0 0 (Cfg.nt c) (some (Cfg.nt c)), zI (Cfg.miss c), zI (Cfg.good c), zI (Cfg.fresh c), AC.sl 16 0 0 (zD (Cfg.nodes c)) none])); let zz7 := (zM true false 122 0 (Cs.lit (AC.ptr 15 0 0 :: AC.v (Value.int IntKind.i64 ↑(Cfg.ns c)) :: zI (zN (i + 1)) :: z8 (fun zk => zB (Vw.inn x zk)) (z8 (fun zk => zU (Vw.miss x zk)) (z8 (fun zk => zU (Vw.good x zk)) (z8 (fun zk => zH (Vw.score x zk)) (z8 (fun zk => zB (Vw.got x zk)) [AC.v (Value.int IntKind.i8 (Vw.command x)), zU (Vw.mode x), AC.sl 60000000700000000000000000000000000000197 0 0 (Cfg.nt c) none]))))))); let zz8 := (List.getD zz0 (7 + zD (zN k) * 1) nov); let zz2 := [pickC (Nat.beq 0 (0 + zD (zN k) * 1)) (zB (asB zz8)) (zB (I 0)), pickC (Nat.beq 1 (0 + zD (zN k) * 1)) (zB (asB zz8)) (zB (I 1)), pickC (Nat.beq 2 (0 + zD (zN k) * 1)) (zB (asB zz8)) (zB (I 2)), pickC (Nat.beq 3 (0 + zD (zN k) * 1)) (zB (asB zz8)) (zB (I 3)), pickC (Nat.beq 4 (0 + zD (zN k) * 1)) (zB (asB zz8)) (zB (I 4)), pickC (Nat.beq 5 (0 + zD (zN k) * 1)) (zB (asB zz8)) (zB (I 5)), pickC (Nat.beq 6 (0 + zD (zN k) * 1)) (zB (asB zz8)) (zB (I 6)), pickC (Nat.beq 7 (0 + zD (zN k) * 1)) (zB (asB zz8)) (zB (I 7))]; let zz1 := [yF 26 0 (Cs.lit [zI (zN 1), zI (Int.negSucc 0)]), some zz12, yF 3 1 zz17, yF 3 1 zz18, yF 3 1 zz19, yF 51 3 zz13, some zz16, yR 59 0 (Cs.lit (vwL v)), yR 60 0 (Cs.lit [zU a, zU b]), some zz15, yO 3 1 (Cs.arr (zD (Cfg.nodes c)) fun k => List.map AC.v ((fun i => [Value.int IntKind.i64 (pairF c (2 * Cfg.np c) i)]) k)), yO 3 1 zz17, yO 3 1 zz18, yO 3 1 zz19, yO 51 3 zz13, some zz7, yO 86 4 (Cs.arr (Cfg.nt c) fun k => List.map AC.v ((fun x => [Value.bool false, Value.int IntKind.u32 0, Value.int IntKind.u32 0, Value.int IntKind.i64 0]) k)), yR 53 0 (Cs.lit zz2), yR 73 0 (Cs.lit zz0)]; let zz4 := (z8 (fun zk => zB (I zk)) []); let zz3 := [yF 26 0 (Cs.lit [zI (zN 1), zI (Int.negSucc 0)]), some zz12, yF 3 1 zz17, yF 3 1 zz18, yF 3 1 zz19, yF 51 3 zz13, some zz16, yR 59 0 (Cs.lit (vwL v)), yR 60 0 (Cs.lit [zU a, zU b]), some zz15, yO 3 1 (Cs.arr (zD (Cfg.nodes c)) fun k => List.map AC.v ((fun i => [Value.int IntKind.i64 (pairF c (2 * Cfg.np c) i)]) k)), yO 3 1 zz17, yO 3 1 zz18, yO 3 1 zz19, yO 51 3 zz13, some zz7, yO 86 4 (Cs.arr (Cfg.nt c) fun k => List.map AC.v ((fun x => [Value.bool false, Value.int IntKind.u32 0, Value.int IntKind.u32 0, Value.int IntKind.i64 0]) k)), yR 53 0 (Cs.lit zz4), yR 73 0 (Cs.lit zz0)]; let zz5 := (BitVec.toNat (BitVec.ofInt (IntKind.bits IntKind.u8) (Int.fdiv a (zN 2 ^ min (zD (zN k)) 8)) &&& BitVec.ofInt (IntKind.bits IntKind.u8) 1)); let zz20 := (List.getD zz2 (0 + zD (zN k) * 1) nov); let zz6 := [some (lkA (List.zip kpH (kpV R i rd y k)) 3), some (lkA (List.zip kpH (kpV R i rd y k)) 4), some (lkA (List.zip kpH (kpV R i rd y k)) 5), some (lkA (List.zip kpH (kpV R i rd y k)) 7), some (lkA (List.zip kpH (kpV R i rd y k)) 9), some (lkA (List.zip kpH (kpV R i rd y k)) 11), some (lkA (List.zip kpH (kpV R i rd y k)) 12), some (lkA (List.zip kpH (kpV R i rd y k)) 13), some (lkA (List.zip kpH (kpV R i rd y k)) 16), some (lkA (List.zip kpH (kpV R i rd y k)) 18), some (AV.c (zB (asB zz20))), some (AV.c (zI (IntKind.wrap IntKind.i64 (zN k + zN 1))))]; let zz9 := [some (lkA (List.zip kpH (kpV R i rd y k)) 3), some (lkA (List.zip kpH (kpV R i rd y k)) 4), some (lkA (List.zip kpH (kpV R i rd y k)) 5), some (lkA (List.zip kpH (kpV R i rd y k)) 7), some (lkA (List.zip kpH (kpV R i rd y k)) 9), some (lkA (List.zip kpH (kpV R i rd y k)) 11), some (lkA (List.zip kpH (kpV R i rd y k)) 12), some (lkA (List.zip kpH (kpV R i rd y k)) 13), some (lkA (List.zip kpH (kpV R i rd y k)) 16), some (lkA (List.zip kpH (kpV R i rd y k)) 18), some (AV.c (zB true)), some (AV.c (zI (IntKind.wrap IntKind.i64 (zN k + zN 1))))]; let zz10 := [some (lkA (List.zip kpH (kpV R i rd y k)) 3), some (lkA (List.zip kpH (kpV R i rd y k)) 4), some (lkA (List.zip kpH (kpV R i rd y k)) 5), some (lkA (List.zip kpH (kpV R i rd y k)) 7), some (lkA (List.zip kpH (kpV R i rd y k)) 9), some (lkA (List.zip kpH (kpV R i rd y k)) 11), some (lkA (List.zip kpH (kpV R i rd y k)) 12), some (lkA (List.zip kpH (kpV R i rd y k)) 13), some (lkA (List.zip kpH (kpV R i rd y k)) 16), some (lkA (List.zip kpH (kpV R i rd y k)) 18), some (lkA (List.zip kpH (kpV R i rd y k)) 19), some (lkA (List.zip kpH (kpV R i rd y k)) 20)]; let zz11 := (List.getD zz4 (0 + zD (zN k) * 1) nov); let zz14 := (List.getD (vwL v) (0 + zD (zN k) * 1) nov); let zq0 : List Bool := [ABlk.inb (zM true false 53 0 (Cs.lit zz4)) 0 (0 + zD (zN k) * 1 + 1), okl Kd.b zz11, decide (zN 0 <= zN k /\ zN k < zN 8), (IntKind.wrap .u8 ↑zz5 == zN 1) == true, true, true, true, true, decide (zN k < ↑(c.np)) == true, true]; let zq1 : List Bool := (ABlk.inb (zM true false 73 0 (Cs.lit zz0)) 0 (7 + zD (zN k) * 1 + 1)) :: (okl Kd.b zz8) :: (decide (zN 0 <= zN k /\ zN k < zN 8)) :: (asB zz11 == true) :: zq0; let zq2 : List Bool := (ABlk.inb (zM true false 53 0 (Cs.lit zz4)) 0 (0 + zD (zN k) * 1 + 1)) :: (decide (zN 0 <= zN k /\ zN k < zN 8)) :: (ABlk.inb (zM true false 73 0 (Cs.lit zz0)) 0 (7 + zD (zN k) * 1 + 1)) :: (okl Kd.b zz8) :: (decide (zN 0 <= zN k /\ zN k < zN 8)) :: ((!IntKind.wrap .u8 ↑zz5 == zN 1) == false) :: ((!asB zz8) == false) :: zq1; let zq3 : List Bool := true :: true :: (asB zz11 == false) :: zq0; let zq4 : List Bool := (ABlk.inb (zM true false 73 0 (Cs.lit zz0)) 0 (7 + zD (zN k) * 1 + 1)) :: (okl Kd.b zz8) :: (decide (zN 0 <= zN k /\ zN k < zN 8)) :: (decide (rd ≥ c.good) == true) :: zq3; let zq5 : List Bool := (ABlk.inb (zM true false 53 0 (Cs.lit zz4)) 0 (0 + zD (zN k) * 1 + 1)) :: (decide (zN 0 <= zN k /\ zN k < zN 8)) :: (ABlk.inb (zM true false 73 0 (Cs.lit zz0)) 0 (7 + zD (zN k) * 1 + 1)) :: (okl Kd.b zz8) :: (decide (zN 0 <= zN k /\ zN k < zN 8)) :: ((!IntKind.wrap .u8 ↑zz5 == zN 1) == false) :: ((!asB zz8) == false) :: zq4; let zq6 : List Bool := (ABlk.inb (zM true false 59 0 (Cs.lit (vwL v))) 0 (0 + zD (zN k) * 1 + 1)) :: (okl Kd.b zz14) :: (decide (zN 0 <= zN k /\ zN k < zN 8)) :: (decide (rd ≥ c.good) == false) :: zq3; let zq7 : List Bool := (ABlk.inb (zM true false 73 0 (Cs.lit zz0)) 0 (7 + zD (zN k) * 1 + 1)) :: (okl Kd.b zz8) :: (decide (zN 0 <= zN k /\ zN k < zN 8)) :: (asB zz14 == true) :: zq6; let zq8 : List Bool := (ABlk.inb (zM true false 53 0 (Cs.lit zz4)) 0 (0 + zD (zN k) * 1 + 1)) :: (decide (zN 0 <= zN k /\ zN k < zN 8)) :: (ABlk.inb (zM true false 73 0 (Cs.lit zz0)) 0 (7 + zD (zN k) * 1 + 1)) :: (okl Kd.b zz8) :: (decide (zN 0 <= zN k /\ zN k < zN 8)) :: ((!IntKind.wrap .u8 ↑zz5 == zN 1) == false) :: ((!asB zz8) == false) :: zq7; let zq9 : List Bool := (ABlk.inb (zM true false 53 0 (Cs.lit zz4)) 0 (0 + zD (zN k) * 1 + 1)) :: (decide (zN 0 <= zN k /\ zN k < zN 8)) :: (ABlk.inb (zM true false 73 0 (Cs.lit zz0)) 0 (7 + zD (zN k) * 1 + 1)) :: (okl Kd.b zz8) :: (decide (zN 0 <= zN k /\ zN k < zN 8)) :: ((!IntKind.wrap .u8 ↑zz5 == zN 1) == false) :: (asB zz14 == false) :: zq6; (((asB zz11) = true -> (((!asB zz8) = true -> Q (Exit.ret, zz10, zz3, 211, 1000000000000000000000000000000000000000000000000000033, (((!asB zz8) == true) :: zq1), [])) /\ ((!asB zz8) = false -> (((y) = true -> Q (Exit.normal, zz9, zz1, 211, 1000000000000000000000000000000000000000000000000000053, ((y == true) :: zq2), [])) /\ ((y) = false -> Q (Exit.normal, zz6, zz1, 211, 1000000000000000000000000000000000000000000000000000056, ((ABlk.inb (zM true false 53 0 (Cs.lit zz2)) 0 (0 + zD (zN k) * 1 + 1)) :: (okl Kd.b zz20) :: (decide (zN 0 <= zN k /\ zN k < zN 8)) :: (y == false) :: zq2), [])))))) /\ ((asB zz11) = false -> (((decide (rd ≥ c.good)) = true -> (((!asB zz8) = true -> Q (Exit.ret, zz10, zz3, 211, 1000000000000000000000000000000000000000000000000000037, (((!asB zz8) == true) :: zq4), [])) /\ ((!asB zz8) = false -> (((y) = true -> Q (Exit.normal, zz9, zz1, 211, 1000000000000000000000000000000000000000000000000000057, ((y == true) :: zq5), [])) /\ ((y) = false -> Q (Exit.normal, zz6, zz1, 211, 1000000000000000000000000000000000000000000000000000060, ((ABlk.inb (zM true false 53 0 (Cs.lit zz2)) 0 (0 + zD (zN k) * 1 + 1)) :: (okl Kd.b zz20) :: (decide (zN 0 <= zN k /\ zN k < zN 8)) :: (y == false) :: zq5), [])))))) /\ ((decide (rd ≥ c.good)) = false -> (((asB zz14) = true -> (((!asB zz8) = true -> Q (Exit.ret, zz10, zz3, 211, 1000000000000000000000000000000000000000000000000000041, (((!asB zz8) == true) :: zq7), [])) /\ ((!asB zz8) = false -> (((y) = true -> Q (Exit.normal, zz9, zz1, 211, 1000000000000000000000000000000000000000000000000000061, ((y == true) :: zq8), [])) /\ ((y) = false -> Q (Exit.normal, zz6, zz1, 211, 1000000000000000000000000000000000000000000000000000064, ((ABlk.inb (zM true false 53 0 (Cs.lit zz2)) 0 (0 + zD (zN k) * 1 + 1)) :: (okl Kd.b zz20) :: (decide (zN 0 <= zN k /\ zN k < zN 8)) :: (y == false) :: zq8), [])))))) /\ ((asB zz14) = false -> (((y) = true -> Q (Exit.normal, zz9, zz1, 211, 1000000000000000000000000000000000000000000000000000055, ((y == true) :: zq9), [])) /\ ((y) = false -> Q (Exit.normal, zz6, zz1, 211, 1000000000000000000000000000000000000000000000000000058, ((ABlk.inb (zM true false 53 0 (Cs.lit zz2)) 0 (0 + zD (zN k) * 1 + 1)) :: (okl Kd.b zz20) :: (decide (zN 0 <= zN k /\ zN k < zN 8)) :: (y == false) :: zq9), [])))))))))) :
 ∃ p r, kpR Tryz.prog c v x a b R i I s0 s1 s2 s3 s4 s5 s6 e rd y k p = some r /\ Q r :=
 two H (fun g1 => two g1 (fun g2 => ⟨pD 29 31381059856, _, by kernel_rfl, g2⟩) (fun g2 => two g2 (fun g3 => ⟨pD 41 1350853475012330440, _, by kernel_rfl, g3⟩) (fun g3 => ⟨pD 41 2701705192685322529, _, by kernel_rfl, g3⟩))) (fun g1 => two g1 (fun g2 => two g2 (fun g3 => ⟨pD 29 31381237246, _, by kernel_rfl, g3⟩) (fun g3 => two g3 (fun g4 => ⟨pD 41 1350853475012507830, _, by kernel_rfl, g4⟩) (fun g4 => ⟨pD 41 2701705192685499919, _, by kernel_rfl, g4⟩))) (fun g2 => two g2 (fun g3 => two g3 (fun g4 => ⟨pD 29 31424461114, _, by kernel_rfl, g4⟩) (fun g4 => two g4 (fun g5 => ⟨pD 41 1350853475055731698, _, by kernel_rfl, g5⟩) (fun g5 => ⟨pD 41 2701705192728723787, _, by kernel_rfl, g5⟩))) (fun g3 => two g3 (fun g4 => ⟨pD 41 1350853412336659201, _, by kernel_rfl, g4⟩) (fun g4 => ⟨pD 41 2701705130009651290, _, by kernel_rfl, g4⟩))))
theorem kpN (c : Cfg) (v x : Vw) (a b R : Int) (i : Nat) (I : Nat -> Bool) (s0 s1 s2 s3 s4 s5 s6 e : AC) (rd : Int) (y : Bool) (k : Nat) (Q : VC -> Prop) (H : let zI := fun z : Int => AC.v (Value.int .i64 z); let zU := fun z : Int => AC.v (Value.int .u8 z); let zH := fun z : Int => AC.v (Value.int .u16 z); let zB := fun z : Bool => AC.v (Value.bool z); let zN := Int.ofNat; let zM := ABlk.mk; let zD := Int.toNat; let yO := fun (t s : Nat) (c : Cs) => some (ABlk.mk true true t s c); let yR := fun (t s : Nat) (c : Cs) => some (ABlk.mk true false t s c); let yF := fun (t s : Nat) (c : Cs) => some (ABlk.mk false false t s c); let z8 := fun (f : Nat -> AC) (l : List AC) => f 0 :: f 1 :: f 2 :: f 3 :: f 4 :: f 5 :: f 6 :: f 7 :: l; let zz0 := (s0 :: s1 :: s2 :: s3 :: s4 :: s5 :: s6 :: z8 (fun zk => zB (Vw.inn x zk)) (z8 (fun zk => zU (Vw.miss x zk)) (z8 (fun zk => zU (Vw.good x zk)) (z8 (fun zk => zH (Vw.score x zk)) (z8 (fun zk => zB (Vw.got x zk)) [AC.v (Value.int IntKind.i8 (Vw.command x)), zU (Vw.mode x), e]))))); let zz8 := (zM false false 237 0 (Cs.lit [zB true, zB true, zB true, zB true, zB true, zB false, zB true, zB true, zB true, zB true, zB false, zB true, zB true, zB true, zB true, zB false, zB false, zB true, zB true, zB true, zB false, zB false, zB false, zB true, zB true])); let zz13 := (yP c); let zz14 := (yS c); let zz15 := (yB c); let zz9 := (yT c); let zz12 := (zM true false 25 0 (Cs.lit [zI (Cfg.nodes c), AC.sl 0 0 0 (Cfg.np c) none, AC.sl 1 0 0 (Cfg.ns c) none, zI (Cfg.long c), AC.sl 2 0 0 (Cfg.nb c) none, AC.sl 3 0 0 (Cfg.nt c) none, zI (Cfg.miss c), zI (Cfg.good c), zI (Cfg.fresh c)])); let zz11 := (zM true false 105 0 (Cs.lit [zI (Cfg.nodes c), AC.sl 17 0 0 (Cfg.np c) (some (Cfg.np c)), AC.sl 18 0 0 (Cfg.ns c) (some (Cfg.ns c)), zI (Cfg.long c), AC.sl 19 0 0 (Cfg.nb c) (some (Cfg.nb c)), AC.sl 20 0 0 (Cfg.nt c) (some (Cfg.nt c)), zI (Cfg.miss c), zI (Cfg.good c), zI (Cfg.fresh c), AC.sl 16 0 0 (zD (Cfg.nodes c)) none])); let zz3 := (zM true false 122 0 (Cs.lit (AC.ptr 15 0 0 :: AC.v (Value.int IntKind.i64 ↑(Cfg.ns c)) :: zI (zN (i + 1)) :: z8 (fun zk => zB (Vw.inn x zk)) (z8 (fun zk => zU (Vw.miss x zk)) (z8 (fun zk => zU (Vw.good x zk)) (z8 (fun zk => zH (Vw.score x zk)) (z8 (fun zk => zB (Vw.got x zk)) [AC.v (Value.int IntKind.i8 (Vw.command x)), zU (Vw.mode x), AC.sl 60000000700000000000000000000000000000197 0 0 (Cfg.nt c) none]))))))); let zz6 := (List.getD zz0 (7 + zD (zN k) * 1) nov); let zz2 := [pickC (Nat.beq 0 (0 + zD (zN k) * 1)) (zB (asB zz6)) (zB (I 0)), pickC (Nat.beq 1 (0 + zD (zN k) * 1)) (zB (asB zz6)) (zB (I 1)), pickC (Nat.beq 2 (0 + zD (zN k) * 1)) (zB (asB zz6)) (zB (I 2)), pickC (Nat.beq 3 (0 + zD (zN k) * 1)) (zB (asB zz6)) (zB (I 3)), pickC (Nat.beq 4 (0 + zD (zN k) * 1)) (zB (asB zz6)) (zB (I 4)), pickC (Nat.beq 5 (0 + zD (zN k) * 1)) (zB (asB zz6)) (zB (I 5)), pickC (Nat.beq 6 (0 + zD (zN k) * 1)) (zB (asB zz6)) (zB (I 6)), pickC (Nat.beq 7 (0 + zD (zN k) * 1)) (zB (asB zz6)) (zB (I 7))]; let zz1 := [yF 26 0 (Cs.lit [zI (zN 1), zI (Int.negSucc 0)]), some zz8, yF 3 1 zz13, yF 3 1 zz14, yF 3 1 zz15, yF 51 3 zz9, some zz12, yR 59 0 (Cs.lit (vwL v)), yR 60 0 (Cs.lit [zU a, zU b]), some zz11, yO 3 1 (Cs.arr (zD (Cfg.nodes c)) fun k => List.map AC.v ((fun i => [Value.int IntKind.i64 (pairF c (2 * Cfg.np c) i)]) k)), yO 3 1 zz13, yO 3 1 zz14, yO 3 1 zz15, yO 51 3 zz9, some zz3, yO 86 4 (Cs.arr (Cfg.nt c) fun k => List.map AC.v ((fun x => [Value.bool false, Value.int IntKind.u32 0, Value.int IntKind.u32 0, Value.int IntKind.i64 0]) k)), yR 53 0 (Cs.lit zz2), yR 73 0 (Cs.lit zz0)]; let zz4 := (BitVec.toNat (BitVec.ofInt (IntKind.bits IntKind.u8) (Int.fdiv a (zN 2 ^ min (zD (zN k)) 8)) &&& BitVec.ofInt (IntKind.bits IntKind.u8) 1)); let zz5 := (zM true false 53 0 (Cs.lit (z8 (fun zk => zB (I zk)) []))); let zz7 := [some (lkA (List.zip kpH (kpV R i rd y k)) 3), some (lkA (List.zip kpH (kpV R i rd y k)) 4), some (lkA (List.zip kpH (kpV R i rd y k)) 5), some (lkA (List.zip kpH (kpV R i rd y k)) 7), some (lkA (List.zip kpH (kpV R i rd y k)) 9), some (lkA (List.zip kpH (kpV R i rd y k)) 11), some (lkA (List.zip kpH (kpV R i rd y k)) 12), some (lkA (List.zip kpH (kpV R i rd y k)) 13), some (lkA (List.zip kpH (kpV R i rd y k)) 16), some (lkA (List.zip kpH (kpV R i rd y k)) 18), some (AV.c (zB (asB (List.getD zz2 (0 + zD (zN k) * 1) nov)))), some (AV.c (zI (IntKind.wrap IntKind.i64 (zN k + zN 1))))]; let zz10 := [some (lkA (List.zip kpH (kpV R i rd y k)) 3), some (lkA (List.zip kpH (kpV R i rd y k)) 4), some (lkA (List.zip kpH (kpV R i rd y k)) 5), some (lkA (List.zip kpH (kpV R i rd y k)) 7), some (lkA (List.zip kpH (kpV R i rd y k)) 9), some (lkA (List.zip kpH (kpV R i rd y k)) 11), some (lkA (List.zip kpH (kpV R i rd y k)) 12), some (lkA (List.zip kpH (kpV R i rd y k)) 13), some (lkA (List.zip kpH (kpV R i rd y k)) 16), some (lkA (List.zip kpH (kpV R i rd y k)) 18), some (AV.c (zB true)), some (AV.c (zI (IntKind.wrap IntKind.i64 (zN k + zN 1))))]; let zq0 : List Bool := [true, true, (!IntKind.wrap .u8 ↑zz4 == zN 1) == true, (IntKind.wrap .u8 ↑zz4 == zN 1) == false, true, true, true, true, decide (zN k < ↑(c.np)) == true, true]; let zq1 : List Bool := (ABlk.inb (zM true false 73 0 (Cs.lit zz0)) 0 (7 + zD (zN k) * 1 + 1)) :: (okl Kd.b zz6) :: (decide (zN 0 <= zN k /\ zN k < zN 8)) :: (decide (rd > c.miss) == true) :: zq0; let zq2 : List Bool := (ABlk.inb zz5 0 (0 + zD (zN k) * 1 + 1)) :: (decide (zN 0 <= zN k /\ zN k < zN 8)) :: (ABlk.inb (zM true false 73 0 (Cs.lit zz0)) 0 (7 + zD (zN k) * 1 + 1)) :: (okl Kd.b zz6) :: (decide (zN 0 <= zN k /\ zN k < zN 8)) :: (asB zz6 == false) :: zq1; let zq3 : List Bool := (ABlk.inb zz5 0 (0 + zD (zN k) * 1 + 1)) :: (decide (zN 0 <= zN k /\ zN k < zN 8)) :: (ABlk.inb (zM true false 73 0 (Cs.lit zz0)) 0 (7 + zD (zN k) * 1 + 1)) :: (okl Kd.b zz6) :: (decide (zN 0 <= zN k /\ zN k < zN 8)) :: (decide (rd > c.miss) == false) :: zq0; (((decide (rd > c.miss)) = true -> (((asB zz6) = true -> Q (Exit.ret, [some (lkA (List.zip kpH (kpV R i rd y k)) 3), some (lkA (List.zip kpH (kpV R i rd y k)) 4), some (lkA (List.zip kpH (kpV R i rd y k)) 5), some (lkA (List.zip kpH (kpV R i rd y k)) 7), some (lkA (List.zip kpH (kpV R i rd y k)) 9), some (lkA (List.zip kpH (kpV R i rd y k)) 11), some (lkA (List.zip kpH (kpV R i rd y k)) 12), some (lkA (List.zip kpH (kpV R i rd y k)) 13), some (lkA (List.zip kpH (kpV R i rd y k)) 16), some (lkA (List.zip kpH (kpV R i rd y k)) 18), some (lkA (List.zip kpH (kpV R i rd y k)) 19), some (lkA (List.zip kpH (kpV R i rd y k)) 20)], [yF 26 0 (Cs.lit [zI (zN 1), zI (Int.negSucc 0)]), some zz8, yF 3 1 zz13, yF 3 1 zz14, yF 3 1 zz15, yF 51 3 zz9, some zz12, yR 59 0 (Cs.lit (vwL v)), yR 60 0 (Cs.lit [zU a, zU b]), some zz11, yO 3 1 (Cs.arr (zD (c.nodes)) fun k => List.map AC.v ((fun i => [Value.int .i64 (pairF c (2 * c.np) i)]) k)), yO 3 1 zz13, yO 3 1 zz14, yO 3 1 zz15, yO 51 3 zz9, some zz3, yO 86 4 (Cs.arr (c.nt) fun k => List.map AC.v ((fun x => [Value.bool false, Value.int .u32 0, Value.int .u32 0, Value.int .i64 0]) k)), some zz5, yR 73 0 (Cs.lit zz0)], 211, 1000000000000000000000000000000000000000000000000000035, ((asB zz6 == true) :: zq1), [])) /\ ((asB zz6) = false -> (((y) = true -> Q (Exit.normal, zz10, zz1, 211, 1000000000000000000000000000000000000000000000000000049, ((y == true) :: zq2), [])) /\ ((y) = false -> Q (Exit.normal, zz7, zz1, 211, 1000000000000000000000000000000000000000000000000000052, ((ABlk.inb (zM true false 53 0 (Cs.lit zz2)) 0 (0 + zD (zN k) * 1 + 1)) :: (okl Kd.b (List.getD zz2 (0 + zD (zN k) * 1) nov)) :: (decide (zN 0 <= zN k /\ zN k < zN 8)) :: (y == false) :: zq2), [])))))) /\ ((decide (rd > c.miss)) = false -> (((y) = true -> Q (Exit.normal, zz10, zz1, 211, 1000000000000000000000000000000000000000000000000000044, ((y == true) :: zq3), [])) /\ ((y) = false -> Q (Exit.normal, zz7, zz1, 211, 1000000000000000000000000000000000000000000000000000047, ((ABlk.inb (zM true false 53 0 (Cs.lit zz2)) 0 (0 + zD (zN k) * 1 + 1)) :: (okl Kd.b (List.getD zz2 (0 + zD (zN k) * 1) nov)) :: (decide (zN 0 <= zN k /\ zN k < zN 8)) :: (y == false) :: zq3), [])))))) :
 ∃ p r, kpR Tryz.prog c v x a b R i I s0 s1 s2 s3 s4 s5 s6 e rd y k p = some r /\ Q r :=
 two H (fun g1 => two g1 (fun g2 => ⟨pD 30 68724649683880, _, by kernel_rfl, g2⟩) (fun g2 => two g2 (fun g3 => ⟨pD 33 343246159143412, _, by kernel_rfl, g3⟩) (fun g3 => ⟨pD 33 549137291238061, _, by kernel_rfl, g3⟩))) (fun g1 => two g1 (fun g2 => ⟨pD 33 206079547592473, _, by kernel_rfl, g2⟩) (fun g2 => ⟨pD 33 411970679687122, _, by kernel_rfl, g2⟩))
theorem kpX (c : Cfg) (v x : Vw) (a b R : Int) (i : Nat) (I : Nat -> Bool) (s0 s1 s2 s3 s4 s5 s6 e : AC) (rd : Int) (y : Bool) (k : Nat) (Q : VC -> Prop) (H : let zI := fun z : Int => AC.v (Value.int .i64 z); let zU := fun z : Int => AC.v (Value.int .u8 z); let zH := fun z : Int => AC.v (Value.int .u16 z); let zB := fun z : Bool => AC.v (Value.bool z); let zM := ABlk.mk; let yR := fun (t s : Nat) (c : Cs) => some (ABlk.mk true false t s c); let yF := fun (t s : Nat) (c : Cs) => some (ABlk.mk false false t s c); let z8 := fun (f : Nat -> AC) (l : List AC) => f 0 :: f 1 :: f 2 :: f 3 :: f 4 :: f 5 :: f 6 :: f 7 :: l; let zz0 := (yT c); Q (Exit.exit 2, [some (lkA (List.zip kpH (kpV R i rd y k)) 3), some (lkA (List.zip kpH (kpV R i rd y k)) 4), some (lkA (List.zip kpH (kpV R i rd y k)) 5), some (lkA (List.zip kpH (kpV R i rd y k)) 7), some (lkA (List.zip kpH (kpV R i rd y k)) 9), some (lkA (List.zip kpH (kpV R i rd y k)) 11), some (lkA (List.zip kpH (kpV R i rd y k)) 12), some (lkA (List.zip kpH (kpV R i rd y k)) 13), some (lkA (List.zip kpH (kpV R i rd y k)) 16), some (lkA (List.zip kpH (kpV R i rd y k)) 18), some (lkA (List.zip kpH (kpV R i rd y k)) 19), some (lkA (List.zip kpH (kpV R i rd y k)) 20)], [yF 26 0 (Cs.lit [zI (Int.ofNat 1), zI (Int.negSucc 0)]), yF 237 0 (Cs.lit [zB true, zB true, zB true, zB true, zB true, zB false, zB true, zB true, zB true, zB true, zB false, zB true, zB true, zB true, zB true, zB false, zB false, zB true, zB true, zB true, zB false, zB false, zB false, zB true, zB true]), yF 3 1 (yP c), yF 3 1 (yS c), yF 3 1 (yB c), yF 51 3 zz0, yR 25 0 (Cs.lit [zI (c.nodes), AC.sl 0 0 0 (c.np) none, AC.sl 1 0 0 (c.ns) none, zI (c.long), AC.sl 2 0 0 (c.nb) none, AC.sl 3 0 0 (c.nt) none, zI (c.miss), zI (c.good), zI (c.fresh)]), yR 59 0 (Cs.lit (vwL v)), yR 60 0 (Cs.lit [zU a, zU b]), yR 105 0 (Cs.lit [zI (c.nodes), AC.sl 17 0 0 (c.np) (some (c.np)), AC.sl 18 0 0 (c.ns) (some (c.ns)), zI (c.long), AC.sl 19 0 0 (c.nb) (some (c.nb)), AC.sl 20 0 0 (c.nt) (some (c.nt)), zI (c.miss), zI (c.good), zI (c.fresh), AC.sl 16 0 0 (Int.toNat (c.nodes)) none]), some (zM true true 3 1 (Cs.arr (Int.toNat (c.nodes)) fun k => List.map AC.v ((fun i => [Value.int .i64 (pairF c (2 * c.np) i)]) k))), some (zM true true 3 1 (yP c)), some (zM true true 3 1 (yS c)), some (zM true true 3 1 (yB c)), some (zM true true 51 3 zz0), yR 122 0 (Cs.lit (AC.ptr 15 0 0 :: .v (.int .i64 ↑(c.ns)) :: zI (Int.ofNat (i + 1)) :: z8 (fun zk => zB (Vw.inn x zk)) (z8 (fun zk => zU (Vw.miss x zk)) (z8 (fun zk => zU (Vw.good x zk)) (z8 (fun zk => zH (Vw.score x zk)) (z8 (fun zk => zB (Vw.got x zk)) [.v (.int .i8 (Vw.command x)), zU (Vw.mode x), AC.sl 60000000700000000000000000000000000000197 0 0 (c.nt) none])))))), some (zM true true 86 4 (Cs.arr (c.nt) fun k => List.map AC.v ((fun x => [Value.bool false, Value.int .u32 0, Value.int .u32 0, Value.int .i64 0]) k))), yR 53 0 (Cs.lit (z8 (fun zk => zB (I zk)) [])), yR 73 0 (Cs.lit (s0 :: s1 :: s2 :: s3 :: s4 :: s5 :: s6 :: z8 (fun zk => zB (Vw.inn x zk)) (z8 (fun zk => zU (Vw.miss x zk)) (z8 (fun zk => zU (Vw.good x zk)) (z8 (fun zk => zH (Vw.score x zk)) (z8 (fun zk => zB (Vw.got x zk)) [.v (.int .i8 (Vw.command x)), zU (Vw.mode x), e]))))))], 211, 1000000000000000000000000000000000000000000000000000005, [decide (Int.ofNat k < ↑(c.np)) == false, true], [])) :
 ∃ p r, kpR Tryz.prog c v x a b R i I s0 s1 s2 s3 s4 s5 s6 e rd y k p = some r /\ Q r :=
 ⟨pD 1 2, _, by kernel_rfl, H⟩
def kpG (x : Vw) (I : Nat -> Bool) (k p : Nat) : Bool := if p < k then x.inn p else I p
theorem jjez (x : Vw) (I : Nat -> Bool) (k p : Nat) : kpG x I (k + 1) p = if p = k then x.inn k else kpG x I k p := by
 unfold kpG; by_cases h : p = k
 . subst h; rw [if_pos (by omega), if_pos rfl]
 . rw [if_neg h]
   by_cases h2 : p < k
   . rw [if_pos (by omega), if_pos h2]
   . rw [if_neg (by omega), if_neg h2]
theorem jjk4 (x : Vw) (I : Nat -> Bool) (k : Nat) : kpG x I k k = I k := if_neg (by omega)
theorem jjf0 (x : Vw) (I : Nat -> Bool) (k : Nat) : kpG x I (k + 1) k = x.inn k := if_pos (by omega)
theorem jj6i {s0 s1 s2 s3 s4 s5 s6 e : AC} {x : Vw} {k : Nat} (hk : k < 8) : List.getD (s0 :: s1 :: s2 :: s3 :: s4 :: s5 :: s6 :: (vwL x ++ [e])) (7 + Int.toNat (Int.ofNat k) * 1) nov = .v (.bool (x.inn k)) := by
 match k, hk with
 | 0, _ => rfl
 | 1, _ => rfl
 | 2, _ => rfl
 | 3, _ => rfl
 | 4, _ => rfl
 | 5, _ => rfl
 | 6, _ => rfl
 | 7, _ => rfl
theorem jjhh {J : Nat -> Bool} {k : Nat} (hk : k < 8) : List.getD [.v (.bool (J 0)), .v (.bool (J 1)), .v (.bool (J 2)), .v (.bool (J 3)), .v (.bool (J 4)), .v (.bool (J 5)), .v (.bool (J 6)), .v (.bool (J 7))] (0 + Int.toNat (Int.ofNat k) * 1) nov = .v (.bool (J k)) := by
 match k, hk with
 | 0, _ => rfl
 | 1, _ => rfl
 | 2, _ => rfl
 | 3, _ => rfl
 | 4, _ => rfl
 | 5, _ => rfl
 | 6, _ => rfl
 | 7, _ => rfl
theorem kp_st {x : Vw} {I : Nat -> Bool} {k : Nat} (hk : k < 8) : ([pickC (Nat.beq 0 (0 + Int.toNat (Int.ofNat k) * 1)) (.v (.bool (x.inn k))) (.v (.bool (kpG x I k 0))), pickC (Nat.beq 1 (0 + Int.toNat (Int.ofNat k) * 1)) (.v (.bool (x.inn k))) (.v (.bool (kpG x I k 1))), pickC (Nat.beq 2 (0 + Int.toNat (Int.ofNat k) * 1)) (.v (.bool (x.inn k))) (.v (.bool (kpG x I k 2))), pickC (Nat.beq 3 (0 + Int.toNat (Int.ofNat k) * 1)) (.v (.bool (x.inn k))) (.v (.bool (kpG x I k 3))), pickC (Nat.beq 4 (0 + Int.toNat (Int.ofNat k) * 1)) (.v (.bool (x.inn k))) (.v (.bool (kpG x I k 4))), pickC (Nat.beq 5 (0 + Int.toNat (Int.ofNat k) * 1)) (.v (.bool (x.inn k))) (.v (.bool (kpG x I k 5))), pickC (Nat.beq 6 (0 + Int.toNat (Int.ofNat k) * 1)) (.v (.bool (x.inn k))) (.v (.bool (kpG x I k 6))), pickC (Nat.beq 7 (0 + Int.toNat (Int.ofNat k) * 1)) (.v (.bool (x.inn k))) (.v (.bool (kpG x I k 7)))] : List AC) = [.v (.bool (kpG x I (k + 1) 0)), .v (.bool (kpG x I (k + 1) 1)), .v (.bool (kpG x I (k + 1) 2)), .v (.bool (kpG x I (k + 1) 3)), .v (.bool (kpG x I (k + 1) 4)), .v (.bool (kpG x I (k + 1) 5)), .v (.bool (kpG x I (k + 1) 6)), .v (.bool (kpG x I (k + 1) 7))] := by
 simp only [jjez]
 match k, hk with
 | 0, _ => rfl
 | 1, _ => rfl
 | 2, _ => rfl
 | 3, _ => rfl
 | 4, _ => rfl
 | 5, _ => rfl
 | 6, _ => rfl
 | 7, _ => rfl
def keBt (a z : Int) : Bool := IntKind.wrap IntKind.u8 (BitVec.toNat (BitVec.ofInt (IntKind.bits IntKind.u8) (Int.fdiv a (Int.ofNat 2 ^ min (Int.toNat z) 8)) &&& BitVec.ofInt (IntKind.bits IntKind.u8) 1) : Int) == Int.ofNat 1
abbrev kpNN : Nat := 100000000000000000000000000000000000000000000000000035
theorem jjdg {c : Cfg} {v x : Vw} {a b : Int} {i : Nat} {I : Nat -> Bool} {s0 s1 s2 s3 s4 s5 s6 e : AC} (hs : [s0, s1, s2, s3, s4, s5, s6, e].all (lowC kpNN) = true) : ∀ y ∈ kpK c v x a b i I s0 s1 s2 s3 s4 s5 s6 e, lowB kpNN y := by
 intro y hy; rcases List.mem_append.1 hy with hy | hy
 . exact jj4m (by decide) y hy
 . rw [List.mem_singleton.1 hy]
   simp only [List.all_cons, List.all_nil, Bool.and_eq_true] at hs; obtain ⟨h0, h1, h2, h3, h4, h5, h6, h7, _⟩ := hs; refine jjc ?_; simp only [List.all_cons, List.all_append, jjd0, List.all_nil, h0, h1, h2, h3, h4, h5, h6, h7]; rfl
set_option maxRecDepth 100000 in
set_option maxHeartbeats 1000000 in
theorem jjhg (c : Cfg) (v x : Vw) (a b R : Int) (i : Nat) (I : Nat -> Bool) (s0 s1 s2 s3 s4 s5 s6 e : AC) (rd : Int) (h8 : c.np <= 8) (hs : [s0, s1, s2, s3, s4, s5, s6, e].all (lowC kpNN) = true)
 (hY : ∀ p : Nat, p < c.np -> keBt a (Int.ofNat p) = true -> (I p = true \/ c.good <= rd \/ v.inn p = true) -> x.inn p = true) (hN : ∀ p : Nat, p < c.np -> keBt a (Int.ofNat p) = false -> c.miss < rd -> x.inn p = false) :
 LoopV Tryz.prog (loopAt Tryz.prog 4 1) kpH kpI ((kpV R i rd false 0).map some) ((kpK c v x a b i I s0 s1 s2 s3 s4 s5 s6 e).map some) 211 kpNN (mkFr 211 (kpO R i (anyF x.inn c.np))) (kpI.zip (kpK c v x a b i (kpG x I c.np) s0 s1 s2 s3 s4 s5 s6 e)) 10000000000000000000000000000000000000000000000000000000 (.exit 2) none := by
 have hE : EnvOk (EKe Tryz.prog) := jj3w jj1z (by kernel_rfl) (by kernel_rfl); have hG0 : kpG x I 0 = I := by funext p; unfold kpG; rw [if_neg (Nat.not_lt_zero _)]
 refine jjn hE (fuel := 100) (str := nSt) (nh := 1000000000000000000000000000000000000000000000000000000) (S := Nat) (fun k => k <= c.np) (fun k => c.np - k) kpH [] kpI (fun k => kpV R i rd (anyF x.inn k) k) (fun k => kpK c v x a b i (kpG x I k) s0 s1 s2 s3 s4 s5 s6 e) (by decide) (by decide) (by unfold lim; omega) (s0 := 0) (Nat.zero_le _) (fun _ => ⟨rfl, rfl⟩) (by kernel_rfl) (by rw [hG0]; exact BL.refl (kpK c v x a b i I s0 s1 s2 s3 s4 s5 s6 e)) (fun k _ => ⟨rfl, jjdg hs⟩) ?_; intro k hk; rcases Nat.lt_or_ge k c.np with hlt | hge
 . have hk8 : k < 8 := by omega
   have w1 := jjf9 (show k < 9223372036854775807 by omega); have d0 : decide (Int.ofNat k < (c.np : Int)) = true := decide_eq_true (by simpa using hlt); have a0 := jj4w v k hk8; have b0 := jj52 v k hk8; have g1 := jj6i (s0 := s0) (s1 := s1) (s2 := s2) (s3 := s3) (s4 := s4) (s5 := s5) (s6 := s6) (e := e) (x := x) hk8; have g2 := jjhh (J := kpG x I k) hk8; have g3 := kp_st (x := x) (I := I) hk8; have g4 := jjhh (J := kpG x I (k + 1)) hk8; rw [jjk4] at g2; rw [jjf0] at g4; have ha : anyF x.inn (k + 1) = (anyF x.inn k || x.inn k) := rfl; obtain ⟨y, hy⟩ : ∃ y, anyF x.inn k = y := ⟨_, rfl⟩
   rw [hy] at ha
   have nx : ∀ {n1 : Nat} {ob : List Bool} {z : Bool}, n1 <= 10000000000000000000000000000000000000000000000000000000 -> allT ob -> z = anyF x.inn (k + 1) -> StepV kpNN 10000000000000000000000000000000000000000000000000000000 211 kpH [] kpI (fun k => k <= c.np) (fun k => c.np - k) (fun k => kpV R i rd (anyF x.inn k) k) (fun k => kpK c v x a b i (kpG x I k) s0 s1 s2 s3 s4 s5 s6 e) (.exit 2) (kpO R i (anyF x.inn c.np)) (kpI.zip (kpK c v x a b i (kpG x I c.np) s0 s1 s2 s3 s4 s5 s6 e)) k (.normal, (kpV R i rd z (k + 1)).map some, (kpK c v x a b i (kpG x I (k + 1)) s0 s1 s2 s3 s4 s5 s6 e).map some, 211, n1, ob, []) := by
    rintro n1 ob _ h1 h2 rfl; exact ⟨h2, rfl, h1, rfl, .inl ⟨rfl, k + 1, hlt, by show c.np - (k + 1) < c.np - k; omega, rfl, BL.refl _⟩⟩
   cases hb : keBt a (Int.ofNat k) with
   | true =>
    have hx := hY k hlt hb; unfold keBt at hb; refine (?_ : (∃ p r, kpR Tryz.prog c v x a b R i (kpG x I k) s0 s1 s2 s3 s4 s5 s6 e rd y k p = some r /\ _) -> _) (kpY c v x a b R i (kpG x I k) s0 s1 s2 s3 s4 s5 s6 e rd y k (StepV kpNN 10000000000000000000000000000000000000000000000000000000 211 kpH [] kpI (fun k => k <= c.np) (fun k => c.np - k) (fun k => kpV R i rd (anyF x.inn k) k) (fun k => kpK c v x a b i (kpG x I k) s0 s1 s2 s3 s4 s5 s6 e) (.exit 2) (kpO R i (anyF x.inn c.np)) (kpI.zip (kpK c v x a b i (kpG x I c.np) s0 s1 s2 s3 s4 s5 s6 e)) k) ?_)
    . rintro ⟨p, r, h1, h2⟩
      exact ⟨p, [], r, by rw [hy]; exact h1, h2⟩
    . simp only [vwL, Vw.cells, List.map_cons, List.map_nil, List.cons_append, List.nil_append] at g1
      simp only [g1, g2, g3, g4, w1, d0, hb, a0, b0]; simp only [asB, g3, g4]
      (repeat' (first | refine ⟨fun h => ?_, fun h => ?_⟩ | fail))
      all_goals rename_i h
      all_goals first
       | (rw [hx (by simp_all)] at h; simp at h; done)
       | (exfalso; clear nx g1 g2 g3 g4 hY hN hs; simp_all; done)
       | (refine nx (z := true) ?_ ?_ (by simp [ha, h])
          . (try dsimp only); omega
          . clear nx g1 g2 g3 g4 hY hN hs hx; simp only [allT, List.forall_mem_cons]; simp_all [jj8, okl, vwL, Vw.cells]; try omega)
       | (refine nx (z := x.inn k) ?_ ?_ (by simp [ha, h])
          . (try dsimp only); omega
          . clear nx g1 g2 g3 g4 hY hN hs hx; simp only [allT, List.forall_mem_cons]; simp_all [jj8, okl, vwL, Vw.cells]; try omega)
   | false =>
    have hx := hN k hlt hb; unfold keBt at hb; refine (?_ : (∃ p r, kpR Tryz.prog c v x a b R i (kpG x I k) s0 s1 s2 s3 s4 s5 s6 e rd y k p = some r /\ _) -> _) (kpN c v x a b R i (kpG x I k) s0 s1 s2 s3 s4 s5 s6 e rd y k (StepV kpNN 10000000000000000000000000000000000000000000000000000000 211 kpH [] kpI (fun k => k <= c.np) (fun k => c.np - k) (fun k => kpV R i rd (anyF x.inn k) k) (fun k => kpK c v x a b i (kpG x I k) s0 s1 s2 s3 s4 s5 s6 e) (.exit 2) (kpO R i (anyF x.inn c.np)) (kpI.zip (kpK c v x a b i (kpG x I c.np) s0 s1 s2 s3 s4 s5 s6 e)) k) ?_)
    . rintro ⟨p, r, h1, h2⟩
      exact ⟨p, [], r, by rw [hy]; exact h1, h2⟩
    . simp only [vwL, Vw.cells, List.map_cons, List.map_nil, List.cons_append, List.nil_append] at g1
      simp only [g1, g2, g3, g4, w1, d0, hb, a0, b0]; simp only [asB, g3, g4]
      (repeat' (first | refine ⟨fun h => ?_, fun h => ?_⟩ | fail))
      all_goals rename_i h
      all_goals first
       | (rw [hx (by simp_all)] at h; simp at h; done)
       | (exfalso; clear nx g1 g2 g3 g4 hY hN hs; simp_all; done)
       | (refine nx (z := true) ?_ ?_ (by simp [ha, h])
          . (try dsimp only); omega
          . clear nx g1 g2 g3 g4 hY hN hs hx; simp only [allT, List.forall_mem_cons]; simp_all [jj8, okl, vwL, Vw.cells]; try omega)
       | (refine nx (z := x.inn k) ?_ ?_ (by simp [ha, h])
          . (try dsimp only); omega
          . clear nx g1 g2 g3 g4 hY hN hs hx; simp only [allT, List.forall_mem_cons]; simp_all [jj8, okl, vwL, Vw.cells]; try omega)
 . obtain rfl : k = c.np := by omega
   refine (?_ : (∃ p r, kpR Tryz.prog c v x a b R i (kpG x I c.np) s0 s1 s2 s3 s4 s5 s6 e rd (anyF x.inn c.np) c.np p = some r /\ _) -> _) (kpX c v x a b R i (kpG x I c.np) s0 s1 s2 s3 s4 s5 s6 e rd (anyF x.inn c.np) c.np (StepV kpNN 10000000000000000000000000000000000000000000000000000000 211 kpH [] kpI (fun k => k <= c.np) (fun k => c.np - k) (fun k => kpV R i rd (anyF x.inn k) k) (fun k => kpK c v x a b i (kpG x I k) s0 s1 s2 s3 s4 s5 s6 e) (.exit 2) (kpO R i (anyF x.inn c.np)) (kpI.zip (kpK c v x a b i (kpG x I c.np) s0 s1 s2 s3 s4 s5 s6 e)) c.np) ?_)
   . rintro ⟨p, r, h1, h2⟩
     exact ⟨p, [], r, h1, h2⟩
   . refine ⟨by simp [allT], rfl, by dsimp only; omega, rfl, .inr ⟨by simp, rfl, ?_, jj95 (by kernel_rfl) (jjdg hs) rfl⟩⟩
     show ∀ q ∈ kpO R i (anyF x.inn c.np), _
     exact List.forall_mem_cons.2 ⟨⟨rfl, .head _⟩, List.forall_mem_cons.2 ⟨⟨rfl, .tail _ (.head _)⟩, List.forall_mem_cons.2 ⟨⟨rfl, .tail _ (.tail _ (.head _))⟩, List.forall_mem_cons.2 ⟨⟨rfl, .tail _ (.tail _ (.tail _ (.head _)))⟩, List.forall_mem_cons.2 ⟨⟨rfl, .tail _ (.tail _ (.tail _ (.tail _ (.head _))))⟩, List.forall_mem_cons.2 ⟨⟨rfl, .tail _ (.tail _ (.tail _ (.tail _ (.tail _ (.head _)))))⟩, List.forall_mem_cons.2 ⟨⟨rfl, .tail _ (.tail _ (.tail _ (.tail _ (.tail _ (.tail _ (.head _))))))⟩, List.forall_mem_cons.2 ⟨⟨rfl, .tail _ (.tail _ (.tail _ (.tail _ (.tail _ (.tail _ (.tail _ (.head _)))))))⟩, List.forall_mem_cons.2 ⟨⟨rfl, .tail _ (.tail _ (.tail _ (.tail _ (.tail _ (.tail _ (.tail _ (.tail _ (.head _))))))))⟩, List.forall_mem_cons.2 ⟨⟨rfl, .tail _ (.tail _ (.tail _ (.tail _ (.tail _ (.tail _ (.tail _ (.tail _ (.tail _ (.tail _ (.head _))))))))))⟩, fun _ h => (by cases h)⟩⟩⟩⟩⟩⟩⟩⟩⟩⟩
theorem ke_pX (c : Cfg) (nq : Nat) (fq : Nat -> Int) (l : List AC) : pX rndP ⟨c, nq, fq, [.agg l]⟩ = (isVw l && (decide (c.np <= 8) && (gvPre c nq && posL l))) := rfl
theorem ke_pW (c : Cfg) (nq : Nat) (fq : Nat -> Int) (l : List AC) : pW comP ⟨c, nq, fq, [.agg l]⟩ = (isVw l && (true && decide (c.np <= 8))) := rfl
theorem ke_pH (c : Cfg) (nq : Nat) (fq : Nat -> Int) (l : List AC) (z : Int) : pW hrdC ⟨c, nq, fq, [.agg l, .c (.v (.int .i64 z))]⟩ = (isVw l && decide (c.np <= 8)) := rfl
theorem ke_pV {c : Cfg} {nq : Nat} {fq : Nat -> Int} {l : List AC} {z : Int} (h1 : isVw l = true) (h2 : asI (l.getD 41 nov) = z) (hz : 0 <= z) : pV (fun l r => r.isEmpty && decide (0 <= asI (l.getD 41 nov))) ⟨c, nq, fq, [.agg l]⟩ = true := by
 show (isVw l && (true && decide (0 <= asI (l.getD 41 nov)))) = true; rw [h1, h2, decide_eq_true hz]; rfl
structure KeS where
 u : Vw
 I : Nat -> Bool
 i : Nat
structure KeInv (c : Cfg) (v : Vw) (a : Int) (T : Nat) (s : KeS) : Prop where
 le : s.i <= T
 ok : KeI c v (fun p => keBt a (Int.ofNat p)) (s.i / c.ns) (s.i % c.ns) s.u
 none : s.i / c.ns = 0 -> ∀ p, s.I p = false
 some : 1 <= s.i / c.ns -> ∀ p, p < c.np -> s.I p = s.u.inn p
abbrev keNn : Nat := 120000000000000000000000000000000000000054
abbrev keStep (c : Cfg) (v : Vw) (a b R : Int) (T : Nat) (s : KeS) (r : VC) : Prop := StepN keNn 100000000000000000000000000000000000000000000000000000000 211 keHs [] keI (KeInv c v a T) (fun s => T - s.i) (fun s => keVs R s.i) (fun s => keK c v s.u a b s.i s.I) (.exit 0) [] [] s r
structure KeF (c : Cfg) (R : Int) (T : Nat) : Prop where
 g : CfgGood c
 hm : c.miss <= 12
 hg : c.good <= 12
 hR : IntKind.wrap .i64 (R * (c.ns : Int)) = (T : Int)
 hT : T <= 1000
 hst : stPre c c.nodes.toNat = true
 hh : holdsOk c = true
abbrev keOw (c : Cfg) (i : Nat) : Int := ownerN c (Int.toNat (Cfg.nodes c)) (pairF c (2 * Cfg.np c)) (List.headD [Int.tmod (Int.ofNat i) (Cfg.ns c : Int)] (Int.ofNat 0))
abbrev keW (c : Cfg) (u : Vw) (i : Nat) : Vw := hrdV (decide (Int.ofNat 0 <= headN c (Int.toNat (Cfg.nodes c)) (pairF c (2 * Cfg.np c)) (keOw c i))) (keOw c i) u
theorem jjka {c : Cfg} {R : Int} {T : Nat} (f : KeF c R T) (i : Nat) : keOw c i = c.fs (i % c.ns) := by
 have := f.g.s1; have := f.g.n4; have hlt : i % c.ns < c.ns := Nat.mod_lt _ (by omega); show (if c.nodes.toNat = 0 then -1 else atF c.fs c.ns (Int.ofNat (i % c.ns))) = _; rw [if_neg (by omega)]; unfold atF; rw [if_pos ⟨Int.natCast_nonneg (i % c.ns), Int.ofNat_lt.2 hlt⟩]; rfl
theorem jjam {c : Cfg} {R : Int} {T : Nat} (f : KeF c R T) (u : Vw) (i : Nat) : keW c u i = keH (c.fs (i % c.ns)) true u := by
 have := f.g.s1; have := f.g.n4; have hlt : i % c.ns < c.ns := Nat.mod_lt _ (by omega); obtain ⟨a, b⟩ := f.g.fs _ hlt; unfold keW keH; rw [jjka f, if_pos rfl]; have e : decide (Int.ofNat 0 <= headN c c.nodes.toNat (pairF c (2 * c.np)) (c.fs (i % c.ns))) = true := decide_eq_true ((jj43 f.g (by omega) _ _).2 ⟨a, b⟩); rw [e]
theorem jjke {n i : Nat} (hn : 1 <= n) (h : (i + 1) % n = 0) : (i + 1) / n = i / n + 1 /\ i % n + 1 = n := by
 obtain ⟨k, hk⟩ := Nat.dvd_of_mod_eq_zero h; rw [hk, Nat.mul_div_cancel_left _ (by omega)]
 have hk1 : 1 <= k := by
  rcases Nat.eq_zero_or_pos k with e | e
  . rw [e] at hk; simp at hk
  . exact e
 obtain ⟨j, rfl⟩ : ∃ j, k = j + 1 := ⟨k - 1, by omega⟩
 have hi : i = n * j + (n - 1) := by rw [Nat.mul_add, Nat.mul_one] at hk; omega
 rw [hi, Nat.mul_add_div (by omega), Nat.mul_add_mod, Nat.div_eq_of_lt (by omega), Nat.mod_eq_of_lt (by omega)]; omega
theorem ke_in {n i : Nat} (hn : 1 <= n) (h : (i + 1) % n ≠ 0) : (i + 1) / n = i / n /\ (i + 1) % n = i % n + 1 := by
 have h1 := Nat.div_add_mod i n; have hlt := Nat.mod_lt i hn
 have hne : i % n + 1 ≠ n := fun e => h (by
  have : i + 1 = n * (i / n + 1) := by rw [Nat.mul_add, Nat.mul_one]; omega
  rw [this]; exact Nat.mul_mod_right _ _)
 have e : i + 1 = n * (i / n) + (i % n + 1) := by omega
 constructor
 . have q : (i % n + 1) / n = 0 := Nat.div_eq_of_lt (by omega)
   have q2 : (n * (i / n) + (i % n + 1)) / n = i / n + (i % n + 1) / n := Nat.mul_add_div (by omega) _ _; rw [q, <- e] at q2; exact q2
 . have q2 : (n * (i / n) + (i % n + 1)) % n = (i % n + 1) % n := Nat.mul_add_mod _ _ _
   have q3 : (i % n + 1) % n = i % n + 1 := Nat.mod_eq_of_lt (by omega); rw [q3, <- e] at q2; exact q2
theorem jjak {c : Cfg} {v : Vw} {a R : Int} {T : Nat} (f : KeF c R T) {s : KeS} (h : KeInv c v a T s) (hi : s.i < T) (hb : (s.i + 1) % c.ns ≠ 0) : KeInv c v a T ⟨keH (c.fs (s.i % c.ns)) (keBt a (c.fs (s.i % c.ns))) s.u, s.I, s.i + 1⟩ := by
 have s1 := f.g.s1; obtain ⟨e1, e2⟩ := ke_in (by omega) hb; have hlt : s.i % c.ns < c.ns := Nat.mod_lt _ (by omega); have h0 := f.g.fs _ hlt; have hk := jjdh h.ok h0; obtain ⟨o, ho⟩ := Int.eq_ofNat_of_zero_le h0.1; have eo : keBt a (Int.ofNat (c.fs (s.i % c.ns)).toNat) = keBt a (c.fs (s.i % c.ns)) := by rw [ho]; rfl
 rw [eo] at hk; refine ⟨by show s.i + 1 <= T; omega, by dsimp only; rw [e1, e2]; exact hk, fun q p => h.none (by rw [<- e1]; exact q) p, fun q p hp => ?_⟩; have := h.some (by rw [<- e1]; exact q) p hp; dsimp only at this ⊢; rw [this]; unfold keH hrdV; split <;> rfl
theorem jjal {c : Cfg} {v : Vw} {a R : Int} {T : Nat} (f : KeF c R T) {s : KeS} (h : KeInv c v a T s) (hi : s.i < T) (hb : (s.i + 1) % c.ns = 0) {w : Vw} (hw : w = keH (c.fs (s.i % c.ns)) (keBt a (c.fs (s.i % c.ns))) s.u) :
 KeInv c v a T ⟨cdX c w, kpG (cdX c w) s.I c.np, s.i + 1⟩ /\
 (∀ p, p < c.np -> keBt a (Int.ofNat p) = true -> (s.I p = true \/ c.good <= (((s.i + 1) / c.ns : Nat) : Int) \/ v.inn p = true) -> (cdX c w).inn p = true) /\
 (∀ p, p < c.np -> keBt a (Int.ofNat p) = false -> c.miss < (((s.i + 1) / c.ns : Nat) : Int) -> (cdX c w).inn p = false) /\
 (-1 <= (cdX c w).command /\ (cdX c w).command < 8) /\ (0 <= (cdX c w).command ↔ anyF (cdX c w).inn c.np = true) /\ (0 <= (cdX c w).command -> (cdX c w).command < c.np /\ (cdX c w).inn (cdX c w).command.toNat = true) /\ PosV w /\ 0 <= w.mode := by
 have s1 := f.g.s1; have n4 := f.g.n4; obtain ⟨e1, e2⟩ := jjke (by omega) hb; have hlt : s.i % c.ns < c.ns := Nat.mod_lt _ (by omega); have h0 := f.g.fs _ hlt; have hk := jjdh h.ok h0; obtain ⟨o, ho⟩ := Int.eq_ofNat_of_zero_le h0.1; have eo : keBt a (Int.ofNat (c.fs (s.i % c.ns)).toNat) = keBt a (c.fs (s.i % c.ns)) := by rw [ho]; rfl
 rw [eo, e2, <- hw] at hk
 have hinn : ∀ p, w.inn p = s.u.inn p := fun p => by
  rw [hw]; unfold keH hrdV
  split <;> rfl
 obtain ⟨r1, r2, r3, r4, r5, r6⟩ := jjfa f.g hk f.hm f.hg (by omega); have er : (((s.i + 1) / c.ns : Nat) : Int) = ((s.i / c.ns : Nat) : Int) + 1 := by rw [e1]; rfl
 rw [er]; refine ⟨⟨by show s.i + 1 <= T; omega, by dsimp only; rw [e1, hb]; exact r1, fun q => (by dsimp only at q; rw [e1] at q; exact absurd q (Nat.succ_ne_zero _)), fun _ p hp => if_pos hp⟩, fun p hp hbp hc => r2 p hp hbp ?_, r3, r4, r5, r6, hk.pos, hk.mode⟩; rcases hc with q | q | q
 . left
   rcases Nat.eq_zero_or_pos (s.i / c.ns) with z | z
   . rw [h.none z p] at q; cases q
   . rw [hinn, <- h.some z p hp]; exact q
 . exact .inr (.inl q)
 . exact .inr (.inr q)
structure KeO (c : Cfg) (R : Int) (T i : Nat) : Prop where
 ns : decide ((c.ns : Int) ≠ Int.ofNat 0) = true
 far : (decide (Int.ofNat i ≥ Int.ofNat 1099511627776) == false) = true
 nn : decide (Int.ofNat 0 <= (c.nt : Int) /\ Int.ofNat c.nt = (c.nt : Int) /\ (c.nt : Int) * Int.ofNat 4 <= Int.ofNat 140737488355328) = true
 rn : ((roundN c c.nodes.toNat == Int.ofNat 0) == false) = true
 own : decide (Int.ofNat 0 <= c.fs (0 + Int.toNat (Int.tmod (Int.ofNat i) (c.ns : Int)))) = true
 inb : ABlk.inb (ABlk.mk false false 3 1 (Cs.arr c.ns fun k => List.map AC.v [Value.int IntKind.i64 (c.fs k)])) (0 + Int.toNat (Int.tmod (Int.ofNat i) (c.ns : Int))) 1 = true
 lt : decide (Int.ofNat 0 <= Int.tmod (Int.ofNat i) (c.ns : Int) /\ Int.tmod (Int.ofNat i) (Int.ofNat c.ns) < (c.ns : Int)) = true
 go : (decide (Int.ofNat i < IntKind.wrap .i64 (R * (c.ns : Int))) == true) = true
 gp : gvPre c c.nodes.toNat = true
 at_ : 0 + Int.toNat (Int.tmod (Int.ofNat i) (c.ns : Int)) = i % c.ns
theorem jjc4 {c : Cfg} {R : Int} {T i : Nat} (f : KeF c R T) (hi : i < T) : KeO c R T i := by
 have g := f.g; have n4 := g.n4; have n16 := g.n16; have n8 := g.p8; have p2 := g.p2; have s1 := g.s1; have s16 := g.s16; have nt := g.nt; have nb := g.nb; have l1 := g.l1; have l4 := g.l4; have hT := f.hT; have hlt : i % c.ns < c.ns := Nat.mod_lt _ (by omega); have e : Int.tmod (Int.ofNat i) (c.ns : Int) = Int.ofNat (i % c.ns) := rfl; have e2 : 0 + Int.toNat (Int.tmod (Int.ofNat i) (c.ns : Int)) = i % c.ns := jj8g _; refine ⟨decide_eq_true fun h => ?_, ?_, decide_eq_true ⟨Int.natCast_nonneg _, rfl, ?_⟩, ?_, ?_, ?_, decide_eq_true ⟨Int.natCast_nonneg (i % c.ns), Int.ofNat_lt.2 hlt⟩, ?_, ?_, e2⟩
 . have : (c.ns : Int) = 0 := h
   omega
 . rw [decide_eq_false (fun h => by have : (1099511627776 : Int) <= (i : Int) := h
                                    omega)]; rfl
 . show (c.nt : Int) * 4 <= 140737488355328
   omega
 . have hp : ckPre c c.nodes.toNat = true := by
    simp [ckPre]; omega
   obtain ⟨e, r1, _⟩ := jjb5 hp; rw [e]; simp; omega
 . rw [e2]; exact decide_eq_true (g.fs _ hlt).1
 . rw [e2]
   simp [jj2]; omega
 . rw [f.hR, decide_eq_true (show Int.ofNat i < (T : Int) from Int.ofNat_lt.2 hi)]; rfl
 . simp [gvPre]
   omega
abbrev kx (i : Nat) : AC := .v (.int .i64 (Int.ofNat i))
abbrev kb (x : Bool) : AC := .v (.bool x)
abbrev k1 : AC := .v (.int .u8 (Int.ofNat 1))
abbrev k0 : AC := .v (.int .u8 (Int.ofNat 0))
abbrev kw (z : Int) : AC := .v (.int .u32 z)
abbrev kw0 : AC := .v (.int .u32 (Int.ofNat 0))
abbrev kq (i : Nat) : Int := IntKind.wrap .u32 (Int.ofNat i)
abbrev kr (c : Cfg) (i : Nat) : Int := IntKind.wrap .i64 (Int.tdiv (Int.ofNat i) (c.ns : Int))
abbrev kz (o : Nat) (c : Cfg) : AC := .sl o 0 0 (Int.toNat (c.nt : Int)) none
theorem jj8f {c : Cfg} {R : Int} {T i : Nat} (f : KeF c R T) (hi : i < T) : IntKind.wrap .i64 (Int.ofNat i + Int.ofNat 1) = Int.ofNat (i + 1) /\ kr c (i + 1) = (((i + 1) / c.ns : Nat) : Int) /\ i64B (kr c (i + 1)) = true := by
 have hT := f.hT; have rd : IntKind.wrap .i64 (Int.tdiv (Int.ofNat (i + 1)) (c.ns : Int)) = (((i + 1) / c.ns : Nat) : Int) := jj6 _ (Int.natCast_nonneg _) (Int.le_trans (Int.ofNat_le.2 (Nat.div_le_self (i + 1) c.ns)) (by omega)); refine ⟨jjf9 (by omega), rd, ?_⟩; show i64B (IntKind.wrap .i64 (Int.tdiv (Int.ofNat (i + 1)) (c.ns : Int))) = true; rw [rd]; unfold i64B; rw [decide_eq_true (Int.le_trans (show (-9223372036854775808 : Int) <= 0 by decide) (Int.natCast_nonneg _)), decide_eq_true (Int.le_trans (Int.ofNat_le.2 (Nat.div_le_self (i + 1) c.ns)) (by omega))]; rfl
theorem keYB (c : Cfg) (v u w x : Vw) (a b R q o rr : Int) (i : Nat) (I J : Nat -> Bool) (g : Nat -> Int) (s0 s1 s2 s3 s4 s5 s6 e : AC) (y : Bool) (Q : VC -> Prop) (H : let zI := fun z : Int => AC.v (Value.int .i64 z); let zU := fun z : Int => AC.v (Value.int .u8 z); let zH := fun z : Int => AC.v (Value.int .u16 z); let zW := fun z : Int => AC.v (Value.int .u32 z); let zB := fun z : Bool => AC.v (Value.bool z); let zT := AV.c (AC.v (Value.tuple (Array.mk []))); let zN := Int.ofNat; let zM := ABlk.mk; let zD := Int.toNat; let yO := fun (t s : Nat) (c : Cs) => some (ABlk.mk true true t s c); let yR := fun (t s : Nat) (c : Cs) => some (ABlk.mk true false t s c); let yF := fun (t s : Nat) (c : Cs) => some (ABlk.mk false false t s c); let y3 := fun (l : List Bool) => true :: true :: true :: l; let z8 := fun (f : Nat -> AC) (l : List AC) => f 0 :: f 1 :: f 2 :: f 3 :: f 4 :: f 5 :: f 6 :: f 7 :: l; let z9 := fun (a : AV) (l : List AV) => a :: a :: a :: a :: a :: a :: a :: a :: l; let zz0 := (RndG.mk (Cfg.np c) (Cfg.miss c) (Cfg.good c)); let zz16 := (ownerN c (zD (Cfg.nodes c)) (pairF c (2 * Cfg.np c)) (List.headD [Int.tmod (zN i) ↑(Cfg.ns c)] (zN 0))); let zz24 := (zN 0 <= headN c (zD (Cfg.nodes c)) (pairF c (2 * Cfg.np c)) zz16); let zz1 := (z8 (fun zk => zB (Vw.inn u zk)) (z8 (fun zk => zU (Vw.miss u zk)) (z8 (fun zk => zU (Vw.good u zk)) (z8 (fun zk => zH (Vw.score u zk)) (z8 (fun zk => zB (hGt (decide zz24) zz16 zk (Vw.got u zk))) [AC.v (Value.int IntKind.i8 (Vw.command u)), zU (Vw.mode u)]))))); let zz38 := (Value.bool (rIn zz0 0 (Vw.inn w 0) (Vw.got w 0) (Vw.miss w 0) (Vw.good w 0))); let zz39 := (Value.bool (rIn zz0 1 (Vw.inn w 1) (Vw.got w 1) (Vw.miss w 1) (Vw.good w 1))); let zz40 := (Value.bool (rIn zz0 2 (Vw.inn w 2) (Vw.got w 2) (Vw.miss w 2) (Vw.good w 2))); let zz41 := (Value.bool (rIn zz0 3 (Vw.inn w 3) (Vw.got w 3) (Vw.miss w 3) (Vw.good w 3))); let zz42 := (Value.bool (rIn zz0 4 (Vw.inn w 4) (Vw.got w 4) (Vw.miss w 4) (Vw.good w 4))); let zz43 := (Value.bool (rIn zz0 5 (Vw.inn w 5) (Vw.got w 5) (Vw.miss w 5) (Vw.good w 5))); let zz44 := (Value.bool (rIn zz0 6 (Vw.inn w 6) (Vw.got w 6) (Vw.miss w 6) (Vw.good w 6))); let zz45 := (Value.bool (rIn zz0 7 (Vw.inn w 7) (Vw.got w 7) (Vw.miss w 7) (Vw.good w 7))); let zz57 := (Value.int IntKind.u16 (rSc zz0 0 (Vw.got w 0) (Vw.score w 0))); let zz58 := (Value.int IntKind.u16 (rSc zz0 1 (Vw.got w 1) (Vw.score w 1))); let zz59 := (Value.int IntKind.u16 (rSc zz0 2 (Vw.got w 2) (Vw.score w 2))); let zz46 := (comN c (zD (Cfg.nodes c)) (pairF c (2 * Cfg.np c)) (vwL (rndV zz0 w))); let zz20 := (Value.int IntKind.u8 (nextZ (asksC c (zD (Cfg.nodes c)) (pairF c (2 * Cfg.np c)) [AC.v zz38, AC.v zz39, AC.v zz40, AC.v zz41, AC.v zz42, AC.v zz43, AC.v zz44, AC.v zz45] zz46) (Vw.mode w))); let zz2 := (zI (zN i) :: zB true :: zI (zN i) :: zU (zN 1) :: zU (zN 0) :: zW (zN 0) :: zW q :: AC.v zz38 :: AC.v zz39 :: AC.v zz40 :: AC.v zz41 :: AC.v zz42 :: AC.v zz43 :: AC.v zz44 :: AC.v zz45 :: z8 (fun zk => zU (rMi zz0 zk (Vw.got w zk) (Vw.miss w zk))) (z8 (fun zk => zU (rGo zz0 zk (Vw.got w zk) (Vw.good w zk))) (AC.v zz57 :: AC.v zz58 :: AC.v zz59 :: zH (rSc zz0 3 (Vw.got w 3) (Vw.score w 3)) :: zH (rSc zz0 4 (Vw.got w 4) (Vw.score w 4)) :: zH (rSc zz0 5 (Vw.got w 5) (Vw.score w 5)) :: zH (rSc zz0 6 (Vw.got w 6) (Vw.score w 6)) :: zH (rSc zz0 7 (Vw.got w 7) (Vw.score w 7)) :: z8 (fun zk => zB (rGt zz0 zk (Vw.got w zk))) [AC.v (Value.int IntKind.i8 zz46), AC.v zz20, AC.sl 1000000000330000000000000000000000000000000000000001 0 0 (zD ↑(Cfg.nt c)) none]))); let zz3 := (AC.v zz38 :: AC.v zz39 :: AC.v zz40 :: AC.v zz41 :: AC.v zz42 :: AC.v zz43 :: AC.v zz44 :: AC.v zz45 :: z8 (fun zk => zU (rMi zz0 zk (Vw.got w zk) (Vw.miss w zk))) (z8 (fun zk => zU (rGo zz0 zk (Vw.got w zk) (Vw.good w zk))) (AC.v zz57 :: AC.v zz58 :: AC.v zz59 :: zH (rSc zz0 3 (Vw.got w 3) (Vw.score w 3)) :: zH (rSc zz0 4 (Vw.got w 4) (Vw.score w 4)) :: zH (rSc zz0 5 (Vw.got w 5) (Vw.score w 5)) :: zH (rSc zz0 6 (Vw.got w 6) (Vw.score w 6)) :: zH (rSc zz0 7 (Vw.got w 7) (Vw.score w 7)) :: z8 (fun zk => zB (rGt zz0 zk (Vw.got w zk))) [AC.v (Value.int IntKind.i8 zz46), AC.v zz20]))); let zz36 := (zM false false 26 0 (Cs.lit [zI (zN 1), zI (Int.negSucc 0)])); let zz17 := (zM false false 237 0 (Cs.lit [zB true, zB true, zB true, zB true, zB true, zB false, zB true, zB true, zB true, zB true, zB false, zB true, zB true, zB true, zB true, zB false, zB false, zB true, zB true, zB true, zB false, zB false, zB false, zB true, zB true])); let zz28 := (yP c); let zz26 := (yS c); let zz29 := (yB c); let zz22 := (yT c); let zz25 := (zM true false 25 0 (Cs.lit [zI (Cfg.nodes c), AC.sl 0 0 0 (Cfg.np c) none, AC.sl 1 0 0 (Cfg.ns c) none, zI (Cfg.long c), AC.sl 2 0 0 (Cfg.nb c) none, AC.sl 3 0 0 (Cfg.nt c) none, zI (Cfg.miss c), zI (Cfg.good c), zI (Cfg.fresh c)])); let zz48 := (zM true false 60 0 (Cs.lit [zU a, zU b])); let zz23 := (zM true false 105 0 (Cs.lit [zI (Cfg.nodes c), AC.sl 17 0 0 (Cfg.np c) (some (Cfg.np c)), AC.sl 18 0 0 (Cfg.ns c) (some (Cfg.ns c)), zI (Cfg.long c), AC.sl 19 0 0 (Cfg.nb c) (some (Cfg.nb c)), AC.sl 20 0 0 (Cfg.nt c) (some (Cfg.nt c)), zI (Cfg.miss c), zI (Cfg.good c), zI (Cfg.fresh c), AC.sl 16 0 0 (zD (Cfg.nodes c)) none])); let zz33 := (zM true true 3 1 (Cs.arr (zD (Cfg.nodes c)) fun k => List.map AC.v ((fun i => [Value.int IntKind.i64 (pairF c (2 * Cfg.np c) i)]) k))); let zz19 := (zM true false 122 0 (Cs.lit (AC.ptr 15 0 0 :: AC.v (Value.int IntKind.i64 ↑(Cfg.ns c)) :: zI (zN (i + 1)) :: z8 (fun zk => zB (Vw.inn x zk)) (z8 (fun zk => zU (Vw.miss x zk)) (z8 (fun zk => zU (Vw.good x zk)) (z8 (fun zk => zH (Vw.score x zk)) (z8 (fun zk => zB (Vw.got x zk)) [AC.v (Value.int IntKind.i8 (Vw.command x)), zU (Vw.mode x), AC.sl 60000000700000000000000000000000000000197 0 0 (Cfg.nt c) none]))))))); let zz30 := (zM true true 86 4 (Cs.arr (Cfg.nt c) fun k => List.map AC.v ((fun x => [Value.bool false, Value.int IntKind.u32 0, Value.int IntKind.u32 0, Value.int IntKind.i64 0]) k))); let zz31 := (zM true false 53 0 (Cs.lit (z8 (fun zk => zB (I zk)) []))); let zz4 := [some zz36, some zz17, yF 3 1 zz28, yF 3 1 zz26, yF 3 1 zz29, yF 51 3 zz22, some zz25, yR 59 0 (Cs.lit (vwL v)), some zz48, some zz23, some zz33, yO 3 1 zz28, yO 3 1 zz26, yO 3 1 zz29, yO 51 3 zz22, some zz19, some zz30, some zz31, yR 73 0 (Cs.lit (zI (zN i) :: zB true :: zI (zN i) :: zU (zN 1) :: zU (zN 0) :: zW (zN 0) :: zW q :: z8 (fun zk => zB (Vw.inn x zk)) (z8 (fun zk => zU (Vw.miss x zk)) (z8 (fun zk => zU (Vw.good x zk)) (z8 (fun zk => zH (Vw.score x zk)) (z8 (fun zk => zB (Vw.got x zk)) [AC.v (Value.int IntKind.i8 (Vw.command x)), zU (Vw.mode x), AC.sl 1000000000330000000000000000000000000000000000000001 0 0 (Cfg.nt c) none]))))))]; let zz5 := [some zz36, some zz17, yF 3 1 zz28, yF 3 1 zz26, yF 3 1 zz29, yF 51 3 zz22, some zz25, yR 59 0 (Cs.lit (vwL v)), some zz48, some zz23, some zz33, yO 3 1 zz28, yO 3 1 zz26, yO 3 1 zz29, yO 51 3 zz22, some zz19, some zz30, yR 53 0 (Cs.lit (z8 (fun zk => zB (J zk)) []))]; let zz32 := (IntKind.wrap IntKind.i64 (zN i + zN 1)); let zz6 := (zM true false 122 0 (Cs.lit (AC.ptr 15 0 0 :: AC.v (Value.int IntKind.i64 ↑(Cfg.ns c)) :: zI zz32 :: z8 (fun zk => zB (Vw.inn u zk)) (z8 (fun zk => zU (Vw.miss u zk)) (z8 (fun zk => zU (Vw.good u zk)) (z8 (fun zk => zH (Vw.score u zk)) (z8 (fun zk => zB (hGt (decide zz24) zz16 zk (Vw.got u zk))) [AC.v (Value.int IntKind.i8 (Vw.command u)), zU (Vw.mode u), AC.sl 60000000700000000000000000000000000000197 0 0 (Cfg.nt c) none]))))))); let zz7 := (AC.ptr 60000000900000000000000000000000000000197 0 0); let zz21 := [zB true, zI (zN 0), zU (zN 1), zU (zN 0), zW (zN 0), zW (IntKind.wrap IntKind.u32 (zN i))]; let zz34 := (AC.ptr 60000000900000000000000000000000000000197 0 2); let zz56 := (AC.ptr 60000000900000000000000000000000000000197 0 1); let zz47 := (AC.ptr 60000000900000000000000000000000000000197 0 3); let zz8 := (zM false false 0 0 (Cs.obj (AObj.loop LoopState.ready none (AV.c zz7 :: AV.agg zz21 :: AV.c (AC.ptr 1100000000000000000000000000000000000000023 0 0) :: AV.c (AC.ptr 1100000000000000000000000000000000000000024 0 0) :: AV.c (AC.ptr 1100000000000000000000000000000000000000025 0 0) :: AV.c (zI (zN 0)) :: AV.c (zI (zN i)) :: AV.c (AC.ptr 1270000000000000000000000000000000000000071 0 0) :: AV.c (AC.ptr 1280000000000000000000000000000000000000071 0 0) :: zT :: zT :: zT :: zT :: zT :: AV.c (zB false) :: AV.c zz7 :: AV.c (zB false) :: AV.c (zB false) :: AV.c zz7 :: AV.c zz7 :: AV.c zz7 :: AV.c (AC.ptr 15 0 0) :: AV.c (zB false) :: AV.c (zB false) :: zT :: AV.c (zB false) :: AV.c zz7 :: AV.c zz7 :: AV.c zz34 :: AV.c (zI (zN i)) :: AV.c (zB (decide (zN i ≥ zN 1099511627776))) :: zT :: AV.c zz7 :: AV.c zz7 :: AV.c zz34 :: AV.c (zI (zN i)) :: AV.c zz7 :: AV.c zz7 :: AV.c zz34 :: AV.c (zI (zN i)) :: AV.c (zI zz32) :: AV.c zz7 :: AV.c zz34 :: AV.agg zz21 :: AV.agg zz21 :: AV.c zz7 :: AV.c zz7 :: AV.c zz7 :: AV.c (AC.ptr 15 0 0) :: AV.c (zI (zN i)) :: AV.c zz7 :: AV.c zz7 :: AV.c zz56 :: AV.c (AC.v (Value.int IntKind.i64 ↑(Cfg.ns c))) :: AV.c (zI (Int.tmod (zN i) ↑(Cfg.ns c))) :: AV.c (zI zz16) :: AV.c (zI (zN i)) :: AV.c zz7 :: AV.c zz7 :: AV.c zz56 :: AV.c (AC.v (Value.int IntKind.i64 ↑(Cfg.ns c))) :: AV.c (zI (IntKind.wrap IntKind.i64 (Int.tdiv (zN i) ↑(Cfg.ns c)))) :: AV.c (AC.ptr 1100000000000000000000000000000000000000024 0 0) :: AV.c (zB true) :: AV.c (zI (zN i)) :: AV.c (AC.ptr 1100000000000000000000000000000000000000024 0 1) :: AV.c zz7 :: AV.c zz7 :: AV.c zz7 :: AV.c zz7 :: AV.c (AC.ptr 15 0 0) :: AV.c zz7 :: AV.c zz7 :: AV.c zz47 :: AV.agg (vwL u) :: AV.c (zI zz16) :: AV.agg zz1 :: AV.c zz7 :: AV.c zz47 :: AV.c zz7 :: AV.c (AC.fn 109 [(1440000000000000000000000000000000000000078, 0, 0)]) :: z9 zT (z9 zT (z9 zT (z9 zT (z9 zT (z9 zT (z9 zT (z9 zT (z9 zT (z9 zT (z9 zT []))))))))))) (Array.mk [81, 82]) (rfA Tryz.prog 31 0) (rfB Tryz.prog 31 0) 1440000000000000000000000000000000000000082))); let zz53 := [zB true, zI (zN i), zU (zN 1), zU (zN 0), zW (zN 0), zW q]; let zz9 := (zM false false 0 0 (Cs.obj (AObj.loop LoopState.ready none (AV.c zz7 :: AV.agg zz21 :: AV.c (AC.ptr 1100000000000000000000000000000000000000023 0 0) :: AV.c (AC.ptr 1100000000000000000000000000000000000000024 0 0) :: AV.c (AC.ptr 1100000000000000000000000000000000000000025 0 0) :: AV.c (zI (zN 0)) :: AV.c (zI (zN i)) :: AV.c (AC.ptr 1270000000000000000000000000000000000000071 0 0) :: AV.c (AC.ptr 1280000000000000000000000000000000000000071 0 0) :: zT :: zT :: AV.c (AC.ptr 1000000000350000000000000000000000000000000000000001 0 0) :: zT :: zT :: AV.c (zB false) :: AV.c zz7 :: AV.c (zB false) :: AV.c (zB false) :: AV.c zz7 :: AV.c zz7 :: AV.c zz7 :: AV.c (AC.ptr 15 0 0) :: AV.c (zB false) :: AV.c (zB false) :: zT :: AV.c (zB false) :: AV.c zz7 :: AV.c zz7 :: AV.c zz34 :: AV.c (zI (zN i)) :: AV.c (zB (decide (zN i ≥ zN 1099511627776))) :: zT :: AV.c zz7 :: AV.c zz7 :: AV.c zz34 :: AV.c (zI (zN i)) :: AV.c zz7 :: AV.c zz7 :: AV.c zz34 :: AV.c (zI (zN i)) :: AV.c (zI zz32) :: AV.c zz7 :: AV.c zz34 :: AV.agg zz21 :: AV.agg zz21 :: AV.c zz7 :: AV.c zz7 :: AV.c zz7 :: AV.c (AC.ptr 15 0 0) :: AV.c (zI (zN i)) :: AV.c zz7 :: AV.c zz7 :: AV.c zz56 :: AV.c (AC.v (Value.int IntKind.i64 ↑(Cfg.ns c))) :: AV.c (zI (Int.tmod (zN i) ↑(Cfg.ns c))) :: AV.c (zI zz16) :: AV.c (zI (zN i)) :: AV.c zz7 :: AV.c zz7 :: AV.c zz56 :: AV.c (AC.v (Value.int IntKind.i64 ↑(Cfg.ns c))) :: AV.c (zI (IntKind.wrap IntKind.i64 (Int.tdiv (zN i) ↑(Cfg.ns c)))) :: AV.c (AC.ptr 1100000000000000000000000000000000000000024 0 0) :: AV.c (zB true) :: AV.c (zI (zN i)) :: AV.c (AC.ptr 1100000000000000000000000000000000000000024 0 1) :: AV.c zz7 :: AV.c zz7 :: AV.c zz7 :: AV.c zz7 :: AV.c (AC.ptr 15 0 0) :: AV.c zz7 :: AV.c zz7 :: AV.c zz47 :: AV.agg (vwL u) :: AV.c (zI zz16) :: AV.agg zz1 :: AV.c zz7 :: AV.c zz47 :: AV.c zz7 :: AV.c (AC.fn 109 [(1440000000000000000000000000000000000000078, 0, 0)]) :: z9 zT (z9 zT (z9 zT (zT :: zT :: AV.c zz7 :: AV.c zz7 :: AV.c zz34 :: AV.c (zI (zN (i + 1))) :: AV.c zz7 :: AV.c zz7 :: AV.c zz56 :: AV.c (AC.v (Value.int IntKind.i64 ↑(Cfg.ns c))) :: AV.c (zI (Int.tmod (zN (i + 1)) ↑(Cfg.ns c))) :: AV.c (zB true) :: AV.c zz7 :: AV.c zz7 :: AV.c zz7 :: AV.c zz7 :: AV.c (AC.ptr 15 0 0) :: AV.c zz7 :: AV.c zz7 :: AV.c zz47 :: AV.agg (vwL w) :: AV.agg zz3 :: AV.c zz7 :: AV.c zz47 :: AV.c (zI (zN i)) :: AV.agg zz53 :: AV.c zz7 :: AV.c zz7 :: AV.c zz47 :: AV.agg zz3 :: AV.c zz7 :: AV.c zz7 :: AV.c (AC.ptr 60000000900000000000000000000000000000197 0 45) :: AV.c (AC.sl 60000000700000000000000000000000000000197 0 0 (Cfg.nt c) none) :: AV.c (AC.v (Value.int IntKind.i64 ↑(Cfg.nt c))) :: AV.c (AC.sl 1000000000330000000000000000000000000000000000000001 0 0 (zD ↑(Cfg.nt c)) none) :: AV.agg zz2 :: AV.c zz7 :: AV.c (AC.fn 109 [(1000000000360000000000000000000000000000000000000003, 0, 0)]) :: z9 zT (z9 zT (z9 zT [zT])))))) (Array.mk [144, 145]) (rfA Tryz.prog 31 1) (rfB Tryz.prog 31 1) 1000000000360000000000000000000000000000000000000007))); let zz50 := (zM true false 62 0 (Cs.lit [AC.ptr 60000000900000000000000000000000000000197 0 0])); let zz18 := (zM true false 73 0 (Cs.lit (zI (zN 0) :: zB false :: zI (zN 0) :: zU (zN 0) :: zU (zN 0) :: zW (zN 0) :: zW (zN 0) :: z8 (fun zk => zB false) (z8 (fun zk => zU (zN 0)) (z8 (fun zk => zU (zN 0)) (z8 (fun zk => zH (zN 0)) (z8 (fun zk => zB false) [AC.v (Value.int IntKind.i8 (zN 0)), zU (zN 0), AC.v (Value.slice none 0 0)]))))))); let zz10 := [some zz36, some zz17, yF 3 1 zz28, yF 3 1 zz26, yF 3 1 zz29, yF 51 3 zz22, some zz25, yR 59 0 (Cs.lit (vwL v)), some zz48, some zz23, some zz33, yO 3 1 zz28, yO 3 1 zz26, yO 3 1 zz29, yO 51 3 zz22, some zz6, some zz30, some zz31, yR 70 0 (Cs.lit zz21), some zz50, yR 70 0 (Cs.lit [zB true, zI (zN i), zU (zN 1), zU (zN 0), zW (zN 0), zW (IntKind.wrap IntKind.u32 (zN i))]), some zz18, yR 3 0 (Cs.lit [zI zz16]), yR 2 0 (Cs.lit [zI (IntKind.wrap IntKind.i64 (Int.tdiv (zN i) ↑(Cfg.ns c)))]), some zz50, yF 0 0 (Cs.obj (AObj.dfr true)), some zz8]; let zz11 := (s0 :: s1 :: s2 :: s3 :: s4 :: s5 :: s6 :: z8 (fun zk => zB (Vw.inn x zk)) (z8 (fun zk => zU (Vw.miss x zk)) (z8 (fun zk => zU (Vw.good x zk)) (z8 (fun zk => zH (Vw.score x zk)) (z8 (fun zk => zB (Vw.got x zk)) [AC.v (Value.int IntKind.i8 (Vw.command x)), zU (Vw.mode x), e]))))); let zz12 := (zM true false 122 0 (Cs.lit (AC.ptr 15 0 0 :: AC.v (Value.int IntKind.i64 ↑(Cfg.ns c)) :: zI (zN (i + 1)) :: AC.v zz38 :: AC.v zz39 :: AC.v zz40 :: AC.v zz41 :: AC.v zz42 :: AC.v zz43 :: AC.v zz44 :: AC.v zz45 :: z8 (fun zk => zU (rMi zz0 zk (Vw.got w zk) (Vw.miss w zk))) (z8 (fun zk => zU (rGo zz0 zk (Vw.got w zk) (Vw.good w zk))) (AC.v zz57 :: AC.v zz58 :: AC.v zz59 :: zH (rSc zz0 3 (Vw.got w 3) (Vw.score w 3)) :: zH (rSc zz0 4 (Vw.got w 4) (Vw.score w 4)) :: zH (rSc zz0 5 (Vw.got w 5) (Vw.score w 5)) :: zH (rSc zz0 6 (Vw.got w 6) (Vw.score w 6)) :: zH (rSc zz0 7 (Vw.got w 7) (Vw.score w 7)) :: z8 (fun zk => zB (rGt zz0 zk (Vw.got w zk))) [AC.v (Value.int IntKind.i8 zz46), AC.v zz20, AC.sl 60000000700000000000000000000000000000197 0 0 (Cfg.nt c) none]))))); let zz13 := [yO 49 1 (Cs.arr (zD ↑(Cfg.nt c)) fun x => List.map AC.v (Array.toList (Value.cells (Value.int IntKind.u32 0)))), some zz36, some zz17, yF 3 1 zz28, yF 3 1 zz26, yF 3 1 zz29, yF 51 3 zz22, some zz25, yR 59 0 (Cs.lit (vwL v)), some zz48, some zz23, some zz33, yO 3 1 zz28, yO 3 1 zz26, yO 3 1 zz29, yO 51 3 zz22, some zz12, some zz30, some zz31, yR 70 0 (Cs.lit [zB true, zI (zN 0), zU (zN 1), zU (zN 0), zW (zN 0), zW q]), some zz50, yR 70 0 (Cs.lit zz53), some zz18, yR 73 0 (Cs.lit zz2), some zz50, yF 0 0 (Cs.obj (AObj.dfr true)), some zz9, yF 0 0 (Cs.obj (AObj.dfr true))]; let zz14 := (NetS.mk c (zD (Cfg.nodes c)) (pairF c (2 * Cfg.np c)) [AV.agg (AC.v zz38 :: AC.v zz39 :: AC.v zz40 :: AC.v zz41 :: AC.v zz42 :: AC.v zz43 :: AC.v zz44 :: AC.v zz45 :: z8 (fun zk => zU (rMi zz0 zk (Vw.got w zk) (Vw.miss w zk))) (z8 (fun zk => zU (rGo zz0 zk (Vw.got w zk) (Vw.good w zk))) (AC.v zz57 :: AC.v zz58 :: AC.v zz59 :: zH (rSc zz0 3 (Vw.got w 3) (Vw.score w 3)) :: zH (rSc zz0 4 (Vw.got w 4) (Vw.score w 4)) :: zH (rSc zz0 5 (Vw.got w 5) (Vw.score w 5)) :: zH (rSc zz0 6 (Vw.got w 6) (Vw.score w 6)) :: zH (rSc zz0 7 (Vw.got w 7) (Vw.score w 7)) :: z8 (fun zk => zB (rGt zz0 zk (Vw.got w zk))) [AC.v (Value.int IntKind.i8 zz46), zU (Vw.mode w)])))]); let zz15 := [LoopV Tryz.prog (loopAt Tryz.prog 4 1) kpH kpI [some (AV.c (AC.ptr 10 0 0)), some (AV.c (AC.ptr 11 0 0)), some (AV.c (AC.ptr 12 0 0)), some (AV.c (AC.ptr 15 0 0)), some (AV.c zz7), some (AV.c (zI R)), some (AV.c (AC.ptr 120000000000000000000000000000000000000052 0 0)), some (AV.c (zI (zN i))), some (AV.c (AC.ptr 100000000000000000000000000000000000000000000000000006 0 0)), some (AV.c (zI (IntKind.wrap IntKind.i64 (Int.tdiv zz32 ↑(Cfg.ns c))))), some (AV.c (zB false)), some (AV.c (zI (zN 0)))] zz4 211 100000000000000000000000000000000000000000000000000035 (mkFr 211 (kpO R i y)) (List.zip kpI (kpK c v x a b i J s0 s1 s2 s3 s4 s5 s6 e)) 10000000000000000000000000000000000000000000000000000000 (Exit.exit 2) none, LoopV Tryz.prog (loopAt Tryz.prog 109 0) koH koYBI [some (AV.c (AC.yld 1000000000360000000000000000000000000000000000000008)), some (AV.c (AC.ptr 1000000000360000000000000000000000000000000000000003 0 0)), some (AV.c (AC.v (Value.int IntKind.i64 ↑(Cfg.nt c)))), some (AV.c (zI (zN 0)))] zz13 23 1000000000360000000000000000000000000000000000000015 (mkFr 23 []) (List.zip koYBI (koO (Cfg.nt c) g :: koYBL Tryz.prog c v x a b q i I)) 100000000000000000000000000000000000000000000000000000 (Exit.exit 0) none, LoopV Tryz.prog (loopAt Tryz.prog 109 0) ktH ktI [some (AV.c (AC.yld 1440000000000000000000000000000000000000083)), some (AV.c (AC.ptr 1440000000000000000000000000000000000000078 0 0)), some (AV.c (AC.v (Value.int IntKind.i64 ↑(Cfg.nt c)))), some (AV.c (zI (zN 0)))] zz10 23 1440000000000000000000000000000000000000090 (mkFr 23 []) (List.zip ktI (ktK Tryz.prog c v w a b i I q o rr)) 1000000000000000000000000000000000000000000000000000 (Exit.exit 0) none]; let zz35 := (0 + zD (Int.tmod (zN i) ↑(Cfg.ns c))); let zz27 := (IntKind.wrap IntKind.u8 ↑(BitVec.toNat (BitVec.ofInt (IntKind.bits IntKind.u8) (Int.fdiv a (zN 2 ^ min (zD (Cfg.fs c zz35)) 8)) &&& BitVec.ofInt (IntKind.bits IntKind.u8) 1)) == zN 1); let zz37 := (NetS.mk c (zD (Cfg.nodes c)) (pairF c (2 * Cfg.np c)) [AV.agg (vwL u), AV.c (zI zz16)]); let zz49 := (NetS.mk c (zD (Cfg.nodes c)) (pairF c (2 * Cfg.np c)) [AV.agg (vwL (rndV zz0 w))]); let zz51 := (List.getD zz11 (7 + zD (Vw.command x) * 1) nov); let zz52 := [some (lkA (kpO R i y) 3), some (lkA (kpO R i y) 4), some (lkA (kpO R i y) 5), some (lkA (kpO R i y) 7), some (lkA (kpO R i y) 9), some (lkA (kpO R i y) 11), some (lkA (kpO R i y) 12), some (AV.c (zI zz32))]; let zz54 := (NetS.mk c (zD (Cfg.nodes c)) (pairF c (2 * Cfg.np c)) [AV.agg (vwL w)]); let zz55 := [some (lkA (kpO R i y) 3), some (lkA (kpO R i y) 4), some (lkA (kpO R i y) 5), some (lkA (kpO R i y) 7), some (lkA (kpO R i y) 9), some (lkA (kpO R i y) 11), some (lkA (kpO R i y) 12), some (lkA (kpO R i y) 13)]; let zt : List Bool -> List Bool := fun l => y3 (y3 (true :: true :: l)); let zu : List Bool -> List Bool := fun l => zt (zt (zt (zt l))); let zq0 : List Bool := true :: true :: (decide (↑(c.ns) ≠ zN 0)) :: true :: ((Int.tmod zz32 ↑(c.ns) != zN 0) == false) :: (decide (↑(c.ns) ≠ zN 0)) :: (zu (zu (zu (zt (y3 (y3 (true :: ((decide (zN 0 <= ↑(c.nt) /\ (zN (c.nt)) = ↑(c.nt) /\ ↑(c.nt) * zN 4 <= zN 140737488355328)) :: (zu (zu (zu (zu (zt (y3 (y3 (((netK c (zD (c.nodes)) (pairF c (2 * c.np))) :: (pV (fun l r => List.isEmpty r && decide (0 <= asI (List.getD l 41 nov))) zz14) :: (zu (zt (y3 (true :: ((netK c (zD (c.nodes)) (pairF c (2 * c.np))) :: (pW comP zz49) :: (zu (zt (y3 (true :: ((netK c (zD (c.nodes)) (pairF c (2 * c.np))) :: (pX rndP zz54) :: (zu (zt (y3 ((((roundN c (zD (c.nodes)) == zN 0) == false) :: (netK c (zD (c.nodes)) (pairF c (2 * c.np))) :: (zu (zt (zt (((Int.tmod (zN (i + 1)) ↑(c.ns) == zN 0) == true) :: (decide (↑(c.ns) ≠ zN 0)) :: (zt (true :: true :: ((netK c (zD (c.nodes)) (pairF c (2 * c.np))) :: (pW hrdC zz37) :: (zu (zt (zt (y3 (y3 (((decide (↑(c.ns) ≠ zN 0)) :: y3 ((netK c (zD (c.nodes)) (pairF c (2 * c.np))) :: true :: (decide (↑(c.ns) ≠ zN 0)) :: (zu (y3 (((decide (zN i ≥ zN 1099511627776) == false) :: (zt (y3 (y3 (((zz27 == true) :: (decide (zN 0 <= c.fs zz35)) :: y3 (true :: (ABlk.inb (zM false false 3 1 zz26) zz35 1) :: true :: (decide (zN 0 <= Int.tmod (zN i) ↑(c.ns) /\ Int.tmod (zN i) (zN (c.ns)) < ↑(c.ns))) :: (decide (↑(c.ns) ≠ zN 0)) :: true :: true :: (decide (zN i < IntKind.wrap .i64 (R * ↑(c.ns))) == true) :: true :: []))))))))))))))))))))))))))))))))))))))))))))))))))))))))); let zq1 : List Bool := ((!y == decide (Vw.command x ≥ zN 0)) == false) :: zq0; let zq2 : List Bool := (ABlk.inb (zM true false 73 0 (Cs.lit zz11)) 0 (7 + zD (Vw.command x) * 1 + 1)) :: (okl Kd.b zz51) :: (decide (zN 0 <= Vw.command x /\ Vw.command x < zN 8)) :: true :: true :: (y == true) :: zq1; (((!y == decide (Vw.command x ≥ zN 0)) = true -> Q (Exit.ret, zz55, zz5, 211, 10000000000000000000000000000000000000000000000000000009, (((!y == decide (Vw.command x ≥ zN 0)) == true) :: zq0), zz15)) /\ ((!y == decide (Vw.command x ≥ zN 0)) = false -> (((y) = true -> (((!asB zz51) = true -> Q (Exit.ret, zz55, zz5, 211, 10000000000000000000000000000000000000000000000000000020, (((!asB zz51) == true) :: zq2), zz15)) /\ ((!asB zz51) = false -> Q (Exit.normal, zz52, zz5, 211, 10000000000000000000000000000000000000000000000000000022, (((!asB zz51) == false) :: zq2), zz15)))) /\ ((y) = false -> Q (Exit.normal, zz52, zz5, 211, 10000000000000000000000000000000000000000000000000000014, ((y == false) :: zq1), zz15)))))) :
 ∃ p r, keRR Tryz.prog c v u a b R i I p [some (ktS Tryz.prog c v w a b i I q o rr), some (koYBS Tryz.prog c v x a b q i I g), some (kpS c v x a b R i J s0 s1 s2 s3 s4 s5 s6 e y)] = some r /\ Q r :=
 two H (fun g1 => ⟨pD 27 156916471432, _, by kernel_rfl, g1⟩) (fun g1 => two g1 (fun g2 => two g2 (fun g3 => ⟨pD 35 16678280047926271, _, by kernel_rfl, g3⟩) (fun g3 => ⟨pD 35 33355461747592840, _, by kernel_rfl, g3⟩)) (fun g2 => ⟨pD 35 1945636869145, _, by kernel_rfl, g2⟩))
set_option maxRecDepth 1000000 in
set_option maxHeartbeats 2000000 in
theorem jjk6 {c : Cfg} {v : Vw} {a b R : Int} {T : Nat} (f : KeF c R T) {s : KeS} (h : KeInv c v a T s) (hi : s.i < T) (hb : (s.i + 1) % c.ns = 0) (ht : keBt a (c.fs (s.i % c.ns)) = true) :
 ∃ p lp r, keRR Tryz.prog c v s.u a b R s.i s.I p lp = some r /\ keStep c v a b R T s r := by
 have g := f.g; have n4 := g.n4; have n16 := g.n16; have n8 := g.p8; have s1 := g.s1; have s16 := g.s16; have nt := g.nt; have hT := f.hT; have hq : 0 < c.nodes.toNat := by omega
 have hw : keW c s.u s.i = keH (c.fs (s.i % c.ns)) (keBt a (c.fs (s.i % c.ns))) s.u := by rw [ht, jjam f]
 obtain ⟨q1, q2, q3, q4, q5, q6, q7, q8⟩ := jjal f h hi hb hw; obtain ⟨u, I, i⟩ := s; dsimp only at *; obtain ⟨w1, rd, i6⟩ := jj8f f hi; obtain ⟨w, hwe⟩ : ∃ w, w = keW c u i := ⟨_, rfl⟩
 obtain ⟨x, hx⟩ : ∃ x, x = cdX c w := ⟨_, rfl⟩
 have hp := jjhg c v x a b R i I (kx i) (kb true) (kx i) k1 k0 kw0 (kw (kq i)) (kz koYBO c) (kr c (i + 1)) n8 rfl (by rw [rd, hx, hwe]; exact q2) (by rw [rd, hx, hwe]; exact q3); refine (?_ : (∃ p r, keRR Tryz.prog c v u a b R i I p [some (ktS Tryz.prog c v w a b i I (kq i) (keOw c i) (kr c i)), some (koYBS Tryz.prog c v x a b (kq i) i I (koG c i c.nt)), some (kpS c v x a b R i (kpG x I c.np) (kx i) (kb true) (kx i) k1 k0 kw0 (kw (kq i)) (kz koYBO c) (anyF x.inn c.np))] = some r /\ keStep c v a b R T ⟨u, I, i⟩ r) -> _) (keYB c v u w x a b R (kq i) (keOw c i) (kr c i) i I (kpG x I c.np) (koG c i c.nt) (kx i) (kb true) (kx i) k1 k0 kw0 (kw (kq i)) (kz koYBO c) (anyF x.inn c.np) _ ?_)
 . rintro ⟨p, r, h1, h2⟩
   exact ⟨p, _, r, h1, h2⟩
 . rw [<- hwe] at q7 q8
   rw [<- hwe, <- hx] at q1 q4 q5 q6
   have d1 : (!(anyF x.inn c.np == decide (x.command ≥ Int.ofNat 0))) = false := by
    by_cases hc : 0 <= x.command
    . rw [q5.1 hc, decide_eq_true (show x.command ≥ Int.ofNat 0 from hc)]; rfl
    . cases hy : anyF x.inn c.np with
      | true => exact absurd (q5.2 hy) hc
      | false => rw [decide_eq_false (show ¬ x.command ≥ Int.ofNat 0 from hc)]; rfl
   have d2 : anyF x.inn c.np = true -> (!asB (List.getD (kx i :: kb true :: kx i :: k1 :: k0 :: kw0 :: kw (kq i) :: (vwL x ++ [kz koYBO c])) (7 + Int.toNat x.command * 1) nov)) = false := fun hy => by
    have hc := q5.2 hy; obtain ⟨k, hk⟩ := Int.eq_ofNat_of_zero_le hc; have hk8 : k < 8 := by omega
    have a3 := (q6 hc).2; rw [hk] at a3 ⊢; show (!asB (List.getD _ (7 + Int.toNat (Int.ofNat k) * 1) nov)) = false; rw [jj6i hk8]; show (!x.inn k) = false; rw [show x.inn k = true from a3]; rfl
   have o := jjc4 f hi; have b1 : pW comP ⟨c, c.nodes.toNat, pairF c (2 * c.np), [.agg (vwL (rndV ⟨c.np, c.miss, c.good⟩ w))]⟩ = true := by rw [ke_pW, show isVw (vwL (rndV ⟨c.np, c.miss, c.good⟩ w)) = true from jj4 _, decide_eq_true n8]; rfl
   have b2 : pX rndP ⟨c, c.nodes.toNat, pairF c (2 * c.np), [.agg (vwL w)]⟩ = true := by rw [ke_pX, show isVw (vwL w) = true from jj4 _, decide_eq_true n8, o.gp, (jj75 w).2 q7]; rfl
   have b3 : pW hrdC ⟨c, c.nodes.toNat, pairF c (2 * c.np), [.agg (vwL u), .c (.v (.int .i64 (keOw c i)))]⟩ = true := by rw [ke_pH, show isVw (vwL u) = true from jj4 _, decide_eq_true n8]; rfl
   have b4 : (keBt a (c.fs (0 + Int.toNat (Int.tmod (Int.ofNat i) (c.ns : Int)))) == true) = true := by rw [o.at_, ht]; rfl
   have tm : Int.tmod (Int.ofNat (i + 1)) (c.ns : Int) = Int.ofNat 0 := congrArg Int.ofNat hb; have t1 : ((Int.tmod (Int.ofNat (i + 1)) (c.ns : Int) != Int.ofNat 0) == false) = true := by rw [tm]; rfl
   have t2 : ((Int.tmod (Int.ofNat (i + 1)) (c.ns : Int) == Int.ofNat 0) == true) = true := by rw [tm]; rfl
   have d3 : anyF x.inn c.np = true -> decide (Int.ofNat 0 <= x.command /\ x.command < Int.ofNat 8) = true := fun hy => decide_eq_true ⟨q5.2 hy, q4.2⟩
   have d4 : anyF x.inn c.np = true -> okl .b (List.getD (kx i :: kb true :: kx i :: k1 :: k0 :: kw0 :: kw (kq i) :: (vwL x ++ [kz koYBO c])) (7 + Int.toNat x.command * 1) nov) = true := fun hy => by
    obtain ⟨k, hk⟩ := Int.eq_ofNat_of_zero_le (q5.2 hy); rw [hk]; show okl .b (List.getD _ (7 + Int.toNat (Int.ofNat k) * 1) nov) = true; rw [jj6i (show k < 8 by omega)]; rfl
   have d5 : anyF x.inn c.np = true -> ABlk.inb (kpE (kx i) (kb true) (kx i) k1 k0 kw0 (kw (kq i)) x (kz koYBO c)) 0 (7 + Int.toNat x.command * 1 + 1) = true := fun hy => by
    obtain ⟨k, hk⟩ := Int.eq_ofNat_of_zero_le (q5.2 hy); rw [hk]; simp [kpE, jj8, vwL, Vw.cells]; omega
   simp only [w1]; refine ⟨fun h1 => ?_, fun h1 => ⟨fun h2 => ⟨fun h3 => ?_, fun h3 => ?_⟩, fun h2 => ?_⟩⟩
   . cases (h1.symm.trans d1)
   . cases (h3.symm.trans (d2 h2))
   all_goals (refine ⟨?_, ?_, ?_, rfl, .inl ⟨rfl, ⟨x, kpG x I c.np, i + 1⟩, q1, ?_, rfl, BL.refl _⟩⟩)
   all_goals first
    | (show T - (i + 1) < T - i; omega)
    | (show (_ : Nat) <= 100000000000000000000000000000000000000000000000000000000; dsimp only; omega)
    | skip
   all_goals (simp only [allT, List.forall_mem_cons, List.not_mem_nil, false_implies, implies_true, and_true, true_and])
   all_goals (repeat' apply And.intro)
   all_goals first
    | rfl
    | exact jji _ _ _
    | exact hp
    | (refine jjhf c v w a b i I (kq i) (keOw c i) (kr c i) nt f.hst ?_
       subst hwe
       repeat (first | exact trivial | refine ⟨BEq.refl _, ?_⟩ | refine ⟨jj59 (by repeat (first | exact trivial | refine ⟨.inl rfl, ?_⟩ | refine ⟨.inr rfl, ?_⟩)), ?_⟩))
    | (refine jjf3 c v x a b (kq i) i I nt (by omega) f.hst f.hh i6 ?_ (y := ⟨true, true, 49, 1, .arr (Int.toNat (c.nt : Int)) fun _ => List.map AC.v (Array.toList (Value.cells (Value.int IntKind.u32 0)))⟩) ⟨rfl, rfl, rfl, rfl, .inr (.inl ⟨_, _, _, rfl, rfl, fun _ _ => rfl⟩)⟩
       subst hx
       repeat (first | exact trivial | refine ⟨BEq.refl _, ?_⟩ | refine ⟨jj59 (by repeat (first | exact trivial | refine ⟨.inl rfl, ?_⟩ | refine ⟨.inr rfl, ?_⟩)), ?_⟩))
    | exact o.ns
    | exact o.far
    | exact o.nn
    | exact o.rn
    | exact o.own
    | exact o.inb
    | exact o.lt
    | exact o.go
    | exact ke_pV rfl rfl q8
    | exact b1
    | exact b2
    | exact b3
    | exact b4
    | exact t1
    | exact t2
    | exact congrArg (fun z => z == true) h2
    | exact congrArg (fun z => z == false) h2
    | exact congrArg (fun z => z == false) d1
    | exact congrArg (fun z => z == false) (d2 h2)
    | exact d3 h2
    | exact d4 h2
    | exact d5 h2
theorem keYN (c : Cfg) (v u w : Vw) (a b R q o rr : Int) (i : Nat) (I : Nat -> Bool) (g : Nat -> Int) (Q : VC -> Prop) (H : let zI := fun z : Int => AC.v (Value.int .i64 z); let zU := fun z : Int => AC.v (Value.int .u8 z); let zH := fun z : Int => AC.v (Value.int .u16 z); let zW := fun z : Int => AC.v (Value.int .u32 z); let zB := fun z : Bool => AC.v (Value.bool z); let yv := AC.v (Value.tuple (Array.mk [])); let zN := Int.ofNat; let zM := ABlk.mk; let zD := Int.toNat; let yO := fun (t s : Nat) (c : Cs) => some (ABlk.mk true true t s c); let yR := fun (t s : Nat) (c : Cs) => some (ABlk.mk true false t s c); let yF := fun (t s : Nat) (c : Cs) => some (ABlk.mk false false t s c); let y3 := fun (l : List Bool) => true :: true :: true :: l; let z8 := fun (f : Nat -> AC) (l : List AC) => f 0 :: f 1 :: f 2 :: f 3 :: f 4 :: f 5 :: f 6 :: f 7 :: l; let zz0 := (ownerN c (zD (Cfg.nodes c)) (pairF c (2 * Cfg.np c)) (List.headD [Int.tmod (zN i) ↑(Cfg.ns c)] (zN 0))); let zz1 := (AC.ptr 60000000900000000000000000000000000000197 0 0); let zz8 := (zN 0 <= headN c (zD (Cfg.nodes c)) (pairF c (2 * Cfg.np c)) zz0); let zz2 := (z8 (fun zk => zB (Vw.inn u zk)) (z8 (fun zk => zU (Vw.miss u zk)) (z8 (fun zk => zU (Vw.good u zk)) (z8 (fun zk => zH (Vw.score u zk)) (z8 (fun zk => zB (hGt (decide zz8) zz0 zk (Vw.got u zk))) [AC.v (Value.int IntKind.i8 (Vw.command u)), zU (Vw.mode u)]))))); let zz3 := (zI (zN i) :: zB true :: zI (zN i) :: zU (zN 1) :: zU (zN 0) :: zW (zN 0) :: zW q :: z8 (fun zk => zB (Vw.inn w zk)) (z8 (fun zk => zU (Vw.miss w zk)) (z8 (fun zk => zU (Vw.good w zk)) (z8 (fun zk => zH (Vw.score w zk)) (z8 (fun zk => zB (Vw.got w zk)) [AC.v (Value.int IntKind.i8 (Vw.command w)), zU (Vw.mode w), AC.sl 1000000000210000000000000000000000000000000000000000 0 0 (zD ↑(Cfg.nt c)) none]))))); let zz4 := (zM true false 73 0 (Cs.lit (zI (zN 0) :: zB false :: zI (zN 0) :: zU (zN 0) :: zU (zN 0) :: zW (zN 0) :: zW (zN 0) :: z8 (fun zk => zB false) (z8 (fun zk => zU (zN 0)) (z8 (fun zk => zU (zN 0)) (z8 (fun zk => zH (zN 0)) (z8 (fun zk => zB false) [AC.v (Value.int IntKind.i8 (zN 0)), zU (zN 0), AC.v (Value.slice none 0 0)]))))))); let zz5 := (zM true false 122 0 (Cs.lit (AC.ptr 15 0 0 :: AC.v (Value.int IntKind.i64 ↑(Cfg.ns c)) :: zI (zN (i + 1)) :: z8 (fun zk => zB (Vw.inn w zk)) (z8 (fun zk => zU (Vw.miss w zk)) (z8 (fun zk => zU (Vw.good w zk)) (z8 (fun zk => zH (Vw.score w zk)) (z8 (fun zk => zB (Vw.got w zk)) [AC.v (Value.int IntKind.i8 (Vw.command w)), zU (Vw.mode w), AC.sl 60000000700000000000000000000000000000197 0 0 (Cfg.nt c) none]))))))); let zz6 := [zB true, zI (zN 0), zU (zN 1), zU (zN 0), zW (zN 0), zW (IntKind.wrap IntKind.u32 (zN i))]; let zz7 := (zM false false 237 0 (Cs.lit [zB true, zB true, zB true, zB true, zB true, zB false, zB true, zB true, zB true, zB true, zB false, zB true, zB true, zB true, zB true, zB false, zB false, zB true, zB true, zB true, zB false, zB false, zB false, zB true, zB true])); let zz9 := (yT c); let zz10 := (zM true false 105 0 (Cs.lit [zI (Cfg.nodes c), AC.sl 17 0 0 (Cfg.np c) (some (Cfg.np c)), AC.sl 18 0 0 (Cfg.ns c) (some (Cfg.ns c)), zI (Cfg.long c), AC.sl 19 0 0 (Cfg.nb c) (some (Cfg.nb c)), AC.sl 20 0 0 (Cfg.nt c) (some (Cfg.nt c)), zI (Cfg.miss c), zI (Cfg.good c), zI (Cfg.fresh c), AC.sl 16 0 0 (zD (Cfg.nodes c)) none])); let zz11 := (zM true false 25 0 (Cs.lit [zI (Cfg.nodes c), AC.sl 0 0 0 (Cfg.np c) none, AC.sl 1 0 0 (Cfg.ns c) none, zI (Cfg.long c), AC.sl 2 0 0 (Cfg.nb c) none, AC.sl 3 0 0 (Cfg.nt c) none, zI (Cfg.miss c), zI (Cfg.good c), zI (Cfg.fresh c)])); let zz12 := (yS c); let zz13 := (zM true false 53 0 (Cs.lit (z8 (fun zk => zB (I zk)) []))); let zz14 := (yP c); let zz15 := (yB c); let zz16 := (AC.ptr 60000000900000000000000000000000000000197 0 2); let zz17 := (zM true true 86 4 (Cs.arr (Cfg.nt c) fun k => List.map AC.v ((fun x => [Value.bool false, Value.int IntKind.u32 0, Value.int IntKind.u32 0, Value.int IntKind.i64 0]) k))); let zz18 := (zM true true 3 1 (Cs.arr (zD (Cfg.nodes c)) fun k => List.map AC.v ((fun i => [Value.int IntKind.i64 (pairF c (2 * Cfg.np c) i)]) k))); let zz19 := (zM true false 62 0 (Cs.lit [AC.ptr 60000000900000000000000000000000000000197 0 0])); let zz20 := (zM false false 26 0 (Cs.lit [zI (zN 1), zI (Int.negSucc 0)])); let zz21 := [zB true, zI (zN i), zU (zN 1), zU (zN 0), zW (zN 0), zW q]; let zz22 := (Value.int IntKind.i64 (IntKind.wrap IntKind.i64 (zN i + zN 1))); let zz23 := (AC.ptr 60000000900000000000000000000000000000197 0 1); let zz24 := (AC.ptr 60000000900000000000000000000000000000197 0 3); let zz25 := (zM true false 60 0 (Cs.lit [zU a, zU b])); let zt : List Bool -> List Bool := fun l => y3 (y3 (true :: true :: l)); let zu : List Bool -> List Bool := fun l => zt (zt (zt (zt l))); Q (Exit.normal, [some (lkA (List.zip keHs (keVs R i)) 3), some (lkA (List.zip keHs (keVs R i)) 4), some (lkA (List.zip keHs (keVs R i)) 5), some (lkA (List.zip keHs (keVs R i)) 7), some (lkA (List.zip keHs (keVs R i)) 9), some (lkA (List.zip keHs (keVs R i)) 11), some (lkA (List.zip keHs (keVs R i)) 12), some (.c (AC.v zz22))], [some zz20, some zz7, yF 3 1 zz14, yF 3 1 zz12, yF 3 1 zz15, yF 51 3 zz9, some zz11, yR 59 0 (Cs.lit (vwL v)), some zz25, some zz10, some zz18, yO 3 1 zz14, yO 3 1 zz12, yO 3 1 zz15, yO 51 3 zz9, some zz5, some zz17, some zz13], 211, 100000000000000000000000000000000000000000000000000029, (((Int.tmod (IntKind.wrap .i64 (zN i + zN 1)) ↑(c.ns) != zN 0) == true) :: (decide (↑(c.ns) ≠ zN 0)) :: (zu (zu (zu (zt (y3 (y3 (true :: ((decide (zN 0 <= ↑(c.nt) /\ (zN (c.nt)) = ↑(c.nt) /\ ↑(c.nt) * zN 4 <= zN 140737488355328)) :: (zu (zt (zt (y3 (true :: true :: (((Int.tmod (zN (i + 1)) ↑(c.ns) == zN 0) == false) :: (decide (↑(c.ns) ≠ zN 0)) :: (zt (true :: true :: ((netK c (zD (c.nodes)) (pairF c (2 * c.np))) :: (pW hrdC (NetS.mk c (zD (c.nodes)) (pairF c (2 * c.np)) [AV.agg (vwL u), .c (zI zz0)])) :: (zu (zt (zt (y3 (y3 (((decide (↑(c.ns) ≠ zN 0)) :: y3 ((netK c (zD (c.nodes)) (pairF c (2 * c.np))) :: true :: (decide (↑(c.ns) ≠ zN 0)) :: (zu (y3 (((decide (zN i ≥ zN 1099511627776) == false) :: (zt (y3 (y3 ((((IntKind.wrap .u8 ↑(BitVec.toNat (BitVec.ofInt (IntKind.bits .u8) (Int.fdiv a (zN 2 ^ min (zD (c.fs (0 + zD (Int.tmod (zN i) ↑(c.ns))))) 8)) &&& BitVec.ofInt (IntKind.bits .u8) 1)) == zN 1) == true) :: (decide (zN 0 <= c.fs (0 + zD (Int.tmod (zN i) ↑(c.ns))))) :: y3 (true :: (ABlk.inb (zM false false 3 1 zz12) (0 + zD (Int.tmod (zN i) ↑(c.ns))) 1) :: true :: (decide (zN 0 <= Int.tmod (zN i) ↑(c.ns) /\ Int.tmod (zN i) (zN (c.ns)) < ↑(c.ns))) :: (decide (↑(c.ns) ≠ zN 0)) :: true :: true :: (decide (zN i < IntKind.wrap .i64 (R * ↑(c.ns))) == true) :: true :: [])))))))))))))))))))))))))))))))))))), [LoopV Tryz.prog (loopAt Tryz.prog 109 0) koH koYNI [some (.c (AC.yld 1000000000240000000000000000000000000000000000000007)), some (.c (.ptr 1000000000240000000000000000000000000000000000000002 0 0)), some (.c (.v (.int .i64 ↑(c.nt)))), some (.c (zI (zN 0)))] [yO 49 1 (Cs.arr (zD ↑(c.nt)) fun x => List.map AC.v (Array.toList (Value.cells (Value.int .u32 0)))), some zz20, some zz7, yF 3 1 zz14, yF 3 1 zz12, yF 3 1 zz15, yF 51 3 zz9, some zz11, yR 59 0 (Cs.lit (vwL v)), some zz25, some zz10, some zz18, yO 3 1 zz14, yO 3 1 zz12, yO 3 1 zz15, yO 51 3 zz9, some zz5, some zz17, some zz13, yR 70 0 (Cs.lit [zB true, zI (zN 0), zU (zN 1), zU (zN 0), zW (zN 0), zW q]), some zz19, yR 70 0 (Cs.lit zz21), some zz4, yR 73 0 (Cs.lit zz3), some zz19, yF 0 0 (Cs.obj (AObj.dfr true)), yF 0 0 (Cs.obj (AObj.loop LoopState.ready none [AV.c zz1, AV.agg zz6, .c (.ptr 1100000000000000000000000000000000000000023 0 0), .c (.ptr 1100000000000000000000000000000000000000024 0 0), .c (.ptr 1100000000000000000000000000000000000000025 0 0), .c (zI (zN 0)), .c (zI (zN i)), .c (.ptr 1270000000000000000000000000000000000000071 0 0), .c (.ptr 1280000000000000000000000000000000000000071 0 0), .c yv, .c yv, .c (.ptr 1000000000230000000000000000000000000000000000000000 0 0), .c yv, .c yv, .c (zB false), AV.c zz1, .c (zB false), .c (zB false), AV.c zz1, AV.c zz1, AV.c zz1, .c (.ptr 15 0 0), .c (zB false), .c (zB false), .c yv, .c (zB false), AV.c zz1, AV.c zz1, AV.c zz16, .c (zI (zN i)), .c (zB (decide (zN i ≥ zN 1099511627776))), .c yv, AV.c zz1, AV.c zz1, AV.c zz16, .c (zI (zN i)), AV.c zz1, AV.c zz1, AV.c zz16, .c (zI (zN i)), .c (AC.v zz22), AV.c zz1, AV.c zz16, AV.agg zz6, AV.agg zz6, AV.c zz1, AV.c zz1, AV.c zz1, .c (.ptr 15 0 0), .c (zI (zN i)), AV.c zz1, AV.c zz1, AV.c zz23, .c (.v (.int .i64 ↑(c.ns))), .c (zI (Int.tmod (zN i) ↑(c.ns))), .c (zI zz0), .c (zI (zN i)), AV.c zz1, AV.c zz1, AV.c zz23, .c (.v (.int .i64 ↑(c.ns))), .c (zI (IntKind.wrap .i64 (Int.tdiv (zN i) ↑(c.ns)))), .c (.ptr 1100000000000000000000000000000000000000024 0 0), .c (zB true), .c (zI (zN i)), .c (.ptr 1100000000000000000000000000000000000000024 0 1), AV.c zz1, AV.c zz1, AV.c zz1, AV.c zz1, .c (.ptr 15 0 0), AV.c zz1, AV.c zz1, AV.c zz24, AV.agg (vwL u), .c (zI zz0), AV.agg zz2, AV.c zz1, AV.c zz24, AV.c zz1, .c (AC.fn 109 [(1440000000000000000000000000000000000000078, 0, 0)]), .c yv, .c yv, .c yv, .c yv, .c yv, .c yv, .c yv, .c yv, .c yv, .c yv, .c yv, .c yv, .c yv, .c yv, .c yv, .c yv, .c yv, .c yv, .c yv, .c yv, .c yv, .c yv, .c yv, .c yv, .c yv, .c yv, AV.c zz1, AV.c zz1, AV.c zz16, .c (zI (zN (i + 1))), AV.c zz1, AV.c zz1, AV.c zz23, .c (.v (.int .i64 ↑(c.ns))), .c (zI (Int.tmod (zN (i + 1)) ↑(c.ns))), .c (zB false), .c yv, .c yv, .c yv, .c yv, .c yv, .c yv, .c yv, .c yv, .c yv, .c yv, .c yv, .c yv, .c (zI (zN i)), AV.agg zz21, AV.c zz1, AV.c zz1, AV.c zz24, AV.agg (vwL w), AV.c zz1, AV.c zz1, .c (.ptr 60000000900000000000000000000000000000197 0 45), .c (.sl 60000000700000000000000000000000000000197 0 0 (c.nt) none), .c (.v (.int .i64 ↑(c.nt))), .c (.sl 1000000000210000000000000000000000000000000000000000 0 0 (zD ↑(c.nt)) none), AV.agg zz3, AV.c zz1, .c (AC.fn 109 [(1000000000240000000000000000000000000000000000000002, 0, 0)]), .c yv, .c yv, .c yv, .c yv, .c yv, .c yv, .c yv, .c yv, .c yv, .c yv, .c yv, .c yv, .c yv, .c yv, .c yv, .c yv, .c yv, .c yv, .c yv, .c yv, .c yv, .c yv, .c yv, .c yv, .c yv] (Array.mk [144, 145]) (rfA Tryz.prog 31 1) (rfB Tryz.prog 31 1) 1000000000240000000000000000000000000000000000000006)), yF 0 0 (Cs.obj (AObj.dfr true))] 23 1000000000240000000000000000000000000000000000000014 (mkFr 23 []) (List.zip koYNI (koO (c.nt) g :: koYNL Tryz.prog c v w a b q i I)) 100000000000000000000000000000000000000000000000000000 (Exit.exit 0) none, LoopV Tryz.prog (loopAt Tryz.prog 109 0) ktH ktI [some (.c (AC.yld 1440000000000000000000000000000000000000083)), some (.c (.ptr 1440000000000000000000000000000000000000078 0 0)), some (.c (.v (.int .i64 ↑(c.nt)))), some (.c (zI (zN 0)))] [some zz20, some zz7, yF 3 1 zz14, yF 3 1 zz12, yF 3 1 zz15, yF 51 3 zz9, some zz11, yR 59 0 (Cs.lit (vwL v)), some zz25, some zz10, some zz18, yO 3 1 zz14, yO 3 1 zz12, yO 3 1 zz15, yO 51 3 zz9, yR 122 0 (Cs.lit (AC.ptr 15 0 0 :: .v (.int .i64 ↑(c.ns)) :: AC.v zz22 :: z8 (fun zk => zB (Vw.inn u zk)) (z8 (fun zk => zU (Vw.miss u zk)) (z8 (fun zk => zU (Vw.good u zk)) (z8 (fun zk => zH (Vw.score u zk)) (z8 (fun zk => zB (hGt (decide zz8) zz0 zk (Vw.got u zk))) [.v (.int .i8 (Vw.command u)), zU (Vw.mode u), AC.sl 60000000700000000000000000000000000000197 0 0 (c.nt) none])))))), some zz17, some zz13, yR 70 0 (Cs.lit zz6), some zz19, yR 70 0 (Cs.lit [zB true, zI (zN i), zU (zN 1), zU (zN 0), zW (zN 0), zW (IntKind.wrap .u32 (zN i))]), some zz4, yR 3 0 (Cs.lit [zI zz0]), yR 2 0 (Cs.lit [zI (IntKind.wrap .i64 (Int.tdiv (zN i) ↑(c.ns)))]), some zz19, yF 0 0 (Cs.obj (AObj.dfr true)), yF 0 0 (Cs.obj (AObj.loop LoopState.ready none [AV.c zz1, AV.agg zz6, .c (.ptr 1100000000000000000000000000000000000000023 0 0), .c (.ptr 1100000000000000000000000000000000000000024 0 0), .c (.ptr 1100000000000000000000000000000000000000025 0 0), .c (zI (zN 0)), .c (zI (zN i)), .c (.ptr 1270000000000000000000000000000000000000071 0 0), .c (.ptr 1280000000000000000000000000000000000000071 0 0), .c yv, .c yv, .c yv, .c yv, .c yv, .c (zB false), AV.c zz1, .c (zB false), .c (zB false), AV.c zz1, AV.c zz1, AV.c zz1, .c (.ptr 15 0 0), .c (zB false), .c (zB false), .c yv, .c (zB false), AV.c zz1, AV.c zz1, AV.c zz16, .c (zI (zN i)), .c (zB (decide (zN i ≥ zN 1099511627776))), .c yv, AV.c zz1, AV.c zz1, AV.c zz16, .c (zI (zN i)), AV.c zz1, AV.c zz1, AV.c zz16, .c (zI (zN i)), .c (AC.v zz22), AV.c zz1, AV.c zz16, AV.agg zz6, AV.agg zz6, AV.c zz1, AV.c zz1, AV.c zz1, .c (.ptr 15 0 0), .c (zI (zN i)), AV.c zz1, AV.c zz1, AV.c zz23, .c (.v (.int .i64 ↑(c.ns))), .c (zI (Int.tmod (zN i) ↑(c.ns))), .c (zI zz0), .c (zI (zN i)), AV.c zz1, AV.c zz1, AV.c zz23, .c (.v (.int .i64 ↑(c.ns))), .c (zI (IntKind.wrap .i64 (Int.tdiv (zN i) ↑(c.ns)))), .c (.ptr 1100000000000000000000000000000000000000024 0 0), .c (zB true), .c (zI (zN i)), .c (.ptr 1100000000000000000000000000000000000000024 0 1), AV.c zz1, AV.c zz1, AV.c zz1, AV.c zz1, .c (.ptr 15 0 0), AV.c zz1, AV.c zz1, AV.c zz24, AV.agg (vwL u), .c (zI zz0), AV.agg zz2, AV.c zz1, AV.c zz24, AV.c zz1, .c (AC.fn 109 [(1440000000000000000000000000000000000000078, 0, 0)]), .c yv, .c yv, .c yv, .c yv, .c yv, .c yv, .c yv, .c yv, .c yv, .c yv, .c yv, .c yv, .c yv, .c yv, .c yv, .c yv, .c yv, .c yv, .c yv, .c yv, .c yv, .c yv, .c yv, .c yv, .c yv, .c yv, .c yv, .c yv, .c yv, .c yv, .c yv, .c yv, .c yv, .c yv, .c yv, .c yv, .c yv, .c yv, .c yv, .c yv, .c yv, .c yv, .c yv, .c yv, .c yv, .c yv, .c yv, .c yv, .c yv, .c yv, .c yv, .c yv, .c yv, .c yv, .c yv, .c yv, .c yv, .c yv, .c yv, .c yv, .c yv, .c yv, .c yv, .c yv, .c yv, .c yv, .c yv, .c yv, .c yv, .c yv, .c yv, .c yv, .c yv, .c yv, .c yv, .c yv, .c yv, .c yv, .c yv, .c yv, .c yv, .c yv, .c yv, .c yv, .c yv, .c yv, .c yv, .c yv] (Array.mk [81, 82]) (rfA Tryz.prog 31 0) (rfB Tryz.prog 31 0) 1440000000000000000000000000000000000000082))] 23 1440000000000000000000000000000000000000090 (mkFr 23 []) (List.zip ktI (ktK Tryz.prog c v w a b i I q o rr)) 1000000000000000000000000000000000000000000000000000 (Exit.exit 0) none])) :
 ∃ p r, keRR Tryz.prog c v u a b R i I p [some (ktS Tryz.prog c v w a b i I q o rr), some (koYNS Tryz.prog c v w a b q i I g)] = some r /\ Q r :=
 ⟨pD 22 10463554975, _, by kernel_rfl, H⟩
theorem keXX (c : Cfg) (v u : Vw) (a b R : Int) (i : Nat) (I : Nat -> Bool) (Q : VC -> Prop) (H : let zI := fun z : Int => AC.v (Value.int .i64 z); let zU := fun z : Int => AC.v (Value.int .u8 z); let zH := fun z : Int => AC.v (Value.int .u16 z); let zB := fun z : Bool => AC.v (Value.bool z); let zM := ABlk.mk; let yF := fun (t s : Nat) (c : Cs) => some (ABlk.mk false false t s c); let z8 := fun (f : Nat -> AC) (l : List AC) => f 0 :: f 1 :: f 2 :: f 3 :: f 4 :: f 5 :: f 6 :: f 7 :: l; let zz0 := (yT c); Q (Exit.exit 0, [some (lkA (List.zip keHs (keVs R i)) 3), some (lkA (List.zip keHs (keVs R i)) 4), some (lkA (List.zip keHs (keVs R i)) 5), some (lkA (List.zip keHs (keVs R i)) 7), some (lkA (List.zip keHs (keVs R i)) 9), some (lkA (List.zip keHs (keVs R i)) 11), some (lkA (List.zip keHs (keVs R i)) 12), some (lkA (List.zip keHs (keVs R i)) 13)], [yF 26 0 (Cs.lit [zI (Int.ofNat 1), zI (Int.negSucc 0)]), yF 237 0 (Cs.lit [zB true, zB true, zB true, zB true, zB true, zB false, zB true, zB true, zB true, zB true, zB false, zB true, zB true, zB true, zB true, zB false, zB false, zB true, zB true, zB true, zB false, zB false, zB false, zB true, zB true]), yF 3 1 (yP c), yF 3 1 (yS c), yF 3 1 (yB c), yF 51 3 zz0, some (zM true false 25 0 (Cs.lit [zI (c.nodes), AC.sl 0 0 0 (c.np) none, AC.sl 1 0 0 (c.ns) none, zI (c.long), AC.sl 2 0 0 (c.nb) none, AC.sl 3 0 0 (c.nt) none, zI (c.miss), zI (c.good), zI (c.fresh)])), some (zM true false 59 0 (Cs.lit (vwL v))), some (zM true false 60 0 (Cs.lit [zU a, zU b])), some (zM true false 105 0 (Cs.lit [zI (c.nodes), AC.sl 17 0 0 (c.np) (some (c.np)), AC.sl 18 0 0 (c.ns) (some (c.ns)), zI (c.long), AC.sl 19 0 0 (c.nb) (some (c.nb)), AC.sl 20 0 0 (c.nt) (some (c.nt)), zI (c.miss), zI (c.good), zI (c.fresh), AC.sl 16 0 0 (Int.toNat (c.nodes)) none])), some (zM true true 3 1 (Cs.arr (Int.toNat (c.nodes)) fun k => List.map AC.v ((fun i => [Value.int .i64 (pairF c (2 * c.np) i)]) k))), some (zM true true 3 1 (yP c)), some (zM true true 3 1 (yS c)), some (zM true true 3 1 (yB c)), some (zM true true 51 3 zz0), some (zM true false 122 0 (Cs.lit (AC.ptr 15 0 0 :: .v (.int .i64 ↑(c.ns)) :: zI (Int.ofNat i) :: z8 (fun zk => zB (Vw.inn u zk)) (z8 (fun zk => zU (Vw.miss u zk)) (z8 (fun zk => zU (Vw.good u zk)) (z8 (fun zk => zH (Vw.score u zk)) (z8 (fun zk => zB (Vw.got u zk)) [.v (.int .i8 (Vw.command u)), zU (Vw.mode u), AC.sl 60000000700000000000000000000000000000197 0 0 (c.nt) none]))))))), some (zM true true 86 4 (Cs.arr (c.nt) fun k => List.map AC.v ((fun x => [Value.bool false, Value.int .u32 0, Value.int .u32 0, Value.int .i64 0]) k))), some (zM true false 53 0 (Cs.lit (z8 (fun zk => zB (I zk)) [])))], 211, 1000000000000000000000000000000000000000007, [decide (Int.ofNat i < IntKind.wrap .i64 (R * ↑(c.ns))) == false, true], [])) :
 ∃ p r, keRR Tryz.prog c v u a b R i I p [] = some r /\ Q r :=
 ⟨pD 1 2, _, by kernel_rfl, H⟩
set_option maxRecDepth 1000000 in
set_option maxHeartbeats 2000000 in
theorem jjk5 {c : Cfg} {v : Vw} {a b R : Int} {T : Nat} (f : KeF c R T) {s : KeS} (h : KeInv c v a T s) (hi : s.i < T) (hb : (s.i + 1) % c.ns ≠ 0) (ht : keBt a (c.fs (s.i % c.ns)) = true) :
 ∃ p lp r, keRR Tryz.prog c v s.u a b R s.i s.I p lp = some r /\ keStep c v a b R T s r := by
 have g := f.g; have n4 := g.n4; have n16 := g.n16; have n8 := g.p8; have s1 := g.s1; have s16 := g.s16; have nt := g.nt; have hT := f.hT; have hq : 0 < c.nodes.toNat := by omega
 have hw : keW c s.u s.i = keH (c.fs (s.i % c.ns)) (keBt a (c.fs (s.i % c.ns))) s.u := by rw [ht, jjam f]
 have q1 := jjak f h hi hb; rw [<- hw] at q1; obtain ⟨u, I, i⟩ := s; dsimp only at *; obtain ⟨w1, rd, i6⟩ := jj8f f hi; obtain ⟨w, hwe⟩ : ∃ w, w = keW c u i := ⟨_, rfl⟩
 refine (?_ : (∃ p r, keRR Tryz.prog c v u a b R i I p [some (ktS Tryz.prog c v w a b i I (kq i) (keOw c i) (kr c i)), some (koYNS Tryz.prog c v w a b (kq i) i I (koG c i c.nt))] = some r /\ keStep c v a b R T ⟨u, I, i⟩ r) -> _) (keYN c v u w a b R (kq i) (keOw c i) (kr c i) i I (koG c i c.nt) _ ?_)
 . rintro ⟨p, r, h1, h2⟩
   exact ⟨p, _, r, h1, h2⟩
 . rw [<- hwe] at q1
   have o := jjc4 f hi; have b3 : pW hrdC ⟨c, c.nodes.toNat, pairF c (2 * c.np), [.agg (vwL u), .c (.v (.int .i64 (keOw c i)))]⟩ = true := by rw [ke_pH, show isVw (vwL u) = true from jj4 _, decide_eq_true n8]; rfl
   have b4 : (keBt a (c.fs (0 + Int.toNat (Int.tmod (Int.ofNat i) (c.ns : Int)))) == true) = true := by rw [o.at_, ht]; rfl
   have tm : (Int.tmod (Int.ofNat (i + 1)) (c.ns : Int) == Int.ofNat 0) = false := beq_false_of_ne fun h => hb (Int.ofNat.inj h)
   have t1 : ((Int.tmod (Int.ofNat (i + 1)) (c.ns : Int) != Int.ofNat 0) == true) = true := by unfold bne; rw [tm]; rfl
   have t2 : ((Int.tmod (Int.ofNat (i + 1)) (c.ns : Int) == Int.ofNat 0) == false) = true := by rw [tm]; rfl
   simp only [w1]
   all_goals (refine ⟨?_, ?_, ?_, rfl, .inl ⟨rfl, ⟨w, I, i + 1⟩, q1, ?_, rfl, (by first | exact BL.refl _ | (subst hwe; exact BL.refl _))⟩⟩)
   all_goals first
    | (show T - (i + 1) < T - i; omega)
    | (show (_ : Nat) <= 100000000000000000000000000000000000000000000000000000000; dsimp only; omega)
    | skip
   all_goals (simp only [allT, List.forall_mem_cons, List.not_mem_nil, false_implies, implies_true, and_true, true_and])
   all_goals (repeat' apply And.intro)
   all_goals first
    | rfl
    | exact jji _ _ _
    | (refine jjhf c v w a b i I (kq i) (keOw c i) (kr c i) nt f.hst ?_
       subst hwe
       repeat (first | exact trivial | refine ⟨BEq.refl _, ?_⟩ | refine ⟨jj59 (by repeat (first | exact trivial | refine ⟨.inl rfl, ?_⟩ | refine ⟨.inr rfl, ?_⟩)), ?_⟩))
    | (refine jjf1 c v w a b (kq i) i I nt (by omega) f.hst f.hh i6 ?_ (y := ⟨true, true, 49, 1, .arr (Int.toNat (c.nt : Int)) fun _ => List.map AC.v (Array.toList (Value.cells (Value.int IntKind.u32 0)))⟩) ⟨rfl, rfl, rfl, rfl, .inr (.inl ⟨_, _, _, rfl, rfl, fun _ _ => rfl⟩)⟩
       repeat (first | exact trivial | refine ⟨BEq.refl _, ?_⟩ | refine ⟨jj59 (by repeat (first | exact trivial | refine ⟨.inl rfl, ?_⟩ | refine ⟨.inr rfl, ?_⟩)), ?_⟩))
    | exact o.ns
    | exact o.far
    | exact o.nn
    | exact o.rn
    | exact o.own
    | exact o.inb
    | exact o.lt
    | exact o.go
    | exact b3
    | exact b4
    | exact t1
    | exact t2
    | exact BL.refl _
    | (subst hwe; exact BL.refl _)
end Go.Proofs.YtfohlkhfnogmdaaGreatDoor
end
