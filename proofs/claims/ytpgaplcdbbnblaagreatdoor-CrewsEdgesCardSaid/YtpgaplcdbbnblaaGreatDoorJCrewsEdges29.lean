/- Parts, one behind the other. Who commands, by a config that may be: plain facts. -/
import Derived.Test.YtpgaplcdbbnblaaGreatDoorJCrewsEdges18
import Derived.Test.YtpgaplcdbbnblaaGreatDoorJCrewsEdges28
import Derived.Test.YtpgaplcdbbnblaaGreatDoorJCrewsEdges16
set_option linter.unusedSimpArgs false
set_option linter.unusedVariables false
/- Who commands, by a config that may be: plain facts. -/
section
namespace Go.Proofs.YtpgaplcdbbnblaaGreatDoor
open Go.RowKit
theorem head_good {c : Cfg} (g : CfgGood c) {nq : Nat} (hq : 0 < nq) (fq : Nat → Int) (z : Int) : 0 ≤ headN c nq fq z ↔ 0 ≤ z ∧ z < c.np := by
 constructor
 · exact headN_in
 · intro h
   unfold headN atF
   rw [if_neg (by omega), if_pos h]
   exact (g.fp z.toNat (by omega)).1
def insP (c : Cfg) (v : Vw) (p : Nat) : Prop := p < c.np ∧ v.inn p = true
theorem inB_good {c : Cfg} (g : CfgGood c) {nq : Nat} (hq : 0 < nq) (fq : Nat → Int) (v : Vw) (p : Nat) : inB c nq fq v p = true ↔ insP c v p := by
 unfold inB hasB insP
 rw [Bool.and_eq_true, decide_eq_true_eq, head_good g hq]
 simp only [Int.ofNat_eq_natCast]
 constructor
 · rintro ⟨⟨_, h⟩, h2⟩; exact ⟨by omega, h2⟩
 · rintro ⟨h, h2⟩; exact ⟨⟨by omega, by omega⟩, h2⟩
def staysP (c : Cfg) (v : Vw) : Prop := 0 ≤ v.command ∧ v.command < c.np ∧ v.inn v.command.toNat = true ∧ v.score v.command.toNat < 64
theorem vw_at (v : Vw) (k : Nat) (h : k < 8) : asB ((vwL v).getD k nov) = v.inn k ∧ asI ((vwL v).getD (24 + k) nov) = v.score k := by
 have a0 := vw_inn v k h
 have a4 := (vw_score v k h).1
 simp only [Nat.zero_add, Nat.mul_one, Int.ofNat_eq_natCast, Int.toNat_natCast] at a0 a4
 exact ⟨a0, a4⟩
theorem levZ_iff (z : Int) : levZ z ≠ 2 ↔ z < 64 := by
 unfold levZ
 (repeat' split) <;> constructor <;> intro h <;> omega
theorem stay_iff {c : Cfg} (g : CfgGood c) {nq : Nat} (hq : 0 < nq) (fq : Nat → Int) (v : Vw) (hc : -128 ≤ v.command ∧ v.command ≤ 127) : stayP (hlC c nq fq (vwL v) (IntKind.wrap .i64 v.command)) (levZ (asI ((vwL v).getD (24 + (IntKind.wrap .i64 v.command).toNat) nov))) ↔ staysP c v := by
 have p8 := g.p8
 have w : IntKind.wrap .i64 v.command = v.command := by
  simp only [IntKind.wrap, IntKind.bits, IntKind.signed]
  first | omega | (simp; omega)
 rw [w]
 unfold stayP hlC staysP
 rw [levZ_iff]
 constructor
 · rintro ⟨h1, h2⟩
   obtain ⟨q1, q2⟩ := hl_in h1
   obtain ⟨z0, z1⟩ := (head_good g hq fq _).1 q1
   obtain ⟨e1, e2⟩ := vw_at v v.command.toNat (by omega)
   rw [e1] at q2
   rw [e2] at h2
   exact ⟨z0, z1, q2, h2⟩
 · rintro ⟨z0, z1, q2, h2⟩
   obtain ⟨e1, e2⟩ := vw_at v v.command.toNat (by omega)
   rw [e1, e2]
   refine ⟨?_, h2⟩
   have hh := (head_good g hq fq v.command).2 ⟨z0, z1⟩
   by_cases h : hlZ (headN c nq fq v.command) (v.inn v.command.toNat) (v.score v.command.toNat) = 1
   · exact .inl h
   · by_cases h' : hlZ (headN c nq fq v.command) (v.inn v.command.toNat) (v.score v.command.toNat) = 2
     · exact .inr h'
     · exact absurd ⟨hh, q2⟩ (hl_out h h')
theorem com_eq {c : Cfg} (g : CfgGood c) {nq : Nat} (hq : 0 < nq) (fq : Nat → Int) (v : Vw) (hc : -128 ≤ v.command ∧ v.command ≤ 127) : (staysP c v → comN c nq fq (vwL v) = v.command) ∧ (¬ staysP c v → comN c nq fq (vwL v) = bestN v (inB c nq fq v)) := by
 have e : comN c nq fq (vwL v) = comZ c nq fq (vwL v) (IntKind.wrap .i64 v.command) v.command := rfl
 rw [e]
 unfold comZ
 refine ⟨fun h => if_pos ((stay_iff g hq fq v hc).2 h), fun h => ?_⟩
 rw [if_neg fun x => h ((stay_iff g hq fq v hc).1 x), mA_eq]
 unfold bestN
 by_cases h0 : cntF (inB c nq fq v) 8 = 0
 · rw [if_neg (by omega), if_pos h0]
 · rw [if_pos (by omega), if_neg h0, fitA_eq (by omega)]
theorem best_good {c : Cfg} (g : CfgGood c) {nq : Nat} (hq : 0 < nq) (fq : Nat → Int) (v : Vw) : ((∀ p, ¬ insP c v p) → bestN v (inB c nq fq v) = -1) ∧ ((∃ p, insP c v p) → ∃ b : Nat, insP c v b ∧ bestN v (inB c nq fq v) = b ∧ ∀ q, insP c v q → v.score b ≤ v.score q) := by
 have p8 := g.p8
 constructor
 · intro h
   refine best_none fun p _ => ?_
   cases hx : inB c nq fq v p with
   | false => rfl
   | true => exact absurd ((inB_good g hq fq v p).1 hx) (h p)
 · rintro ⟨p, hp⟩
   obtain ⟨b, b1, b2, b3, b4⟩ := best_spec (v := v) (t := inB c nq fq v) ⟨p, by have := hp.1; omega, (inB_good g hq fq v p).2 hp⟩
   refine ⟨b, (inB_good g hq fq v b).1 b2, b3, fun q hq' => ?_⟩
   have := b4 q (by have := hq'.1; omega) ((inB_good g hq fq v q).2 hq')
   unfold kLt at this
   simp only [decide_eq_false_iff_not] at this
   omega
end Go.Proofs.YtpgaplcdbbnblaaGreatDoor
end
/- Behind a boundary: plain facts. -/
section
namespace Go.Proofs.YtpgaplcdbbnblaaGreatDoor
open Go.RowKit
theorem nx_far {a z : Int} (h1 : 1 ≤ a) (h2 : a ≤ 4) (hz : 5 ≤ z) : nextZ a z = a ∧ edgeF z a = true := by
 have : edgeF z a = true := by
  unfold edgeF
  rw [if_pos hz]
  obtain ⟨x, rfl⟩ := Int.eq_ofNat_of_zero_le (show 0 ≤ a by omega)
  match x, h1, h2 with
  | 1, _, _ => rfl
  | 2, _, _ => rfl
  | 3, _, _ => rfl
  | 4, _, _ => rfl
 exact ⟨by unfold nextZ; rw [if_pos this], this⟩
theorem nx_near {a z : Int} (h1 : 1 ≤ a) (h2 : a ≤ 4) (h3 : 0 ≤ z) (h4 : z ≤ 4) : edgeF z (nextZ a z) = true ∧ (a = 4 → nextZ a z = 4) := by
 obtain ⟨x, rfl⟩ := Int.eq_ofNat_of_zero_le (show 0 ≤ a by omega)
 obtain ⟨y, rfl⟩ := Int.eq_ofNat_of_zero_le h3
 have hx : x = 1 ∨ x = 2 ∨ x = 3 ∨ x = 4 := by omega
 have hy : y = 0 ∨ y = 1 ∨ y = 2 ∨ y = 3 ∨ y = 4 := by omega
 rcases hx with rfl | rfl | rfl | rfl <;> rcases hy with rfl | rfl | rfl | rfl | rfl <;> decide
theorem nx_main {a z : Int} (h1 : 1 ≤ a) (h2 : a ≤ 4) (h3 : 0 ≤ z) : edgeF z (nextZ a z) = true ∧ (a = 4 → nextZ a z = 4) := by
 rcases Int.lt_or_le z 5 with h | h
 · exact nx_near h1 h2 h3 (by omega)
 · obtain ⟨e1, e2⟩ := nx_far h1 h2 h
   rw [e1]
   exact ⟨e2, fun e => e⟩
def anyF (f : Nat → Bool) : Nat → Bool
 | 0 => false
 | k + 1 => anyF f k || f k
theorem anyF_iff {f : Nat → Bool} : ∀ {n : Nat}, anyF f n = true ↔ ∃ p, p < n ∧ f p = true
 | 0 => by simp [anyF]
 | n + 1 => by
  simp only [anyF, Bool.or_eq_true, anyF_iff (n := n)]
  constructor
  · rintro (⟨p, h1, h2⟩ | h)
    · exact ⟨p, by omega, h2⟩
    · exact ⟨n, by omega, h⟩
  · rintro ⟨p, h1, h2⟩
    by_cases e : p = n
    · exact .inr (e ▸ h2)
    · exact .inl ⟨p, by omega, h2⟩
theorem cd_main {c : Cfg} (g : CfgGood c) {nq : Nat} (hq : 0 < nq) (fq : Nat → Int) (u : Vw) (hc : -128 ≤ u.command ∧ u.command ≤ 127) (T : Int) (hT : comN c nq fq (vwL u) = T) :
 (-1 ≤ T ∧ T < 8) ∧ (0 ≤ T ↔ anyF u.inn c.np = true) ∧ (0 ≤ T → T < c.np ∧ u.inn T.toNat = true) := by
 have p8 := g.p8
 obtain ⟨k1, k2⟩ := com_eq g hq fq u hc
 obtain ⟨b1, b2⟩ := best_good g hq fq u
 rw [hT] at k1 k2
 have hany : anyF u.inn c.np = true ↔ ∃ p, insP c u p := anyF_iff
 by_cases hs : staysP c u
 · have e := k1 hs
   obtain ⟨s1, s2, s3, _⟩ := hs
   rw [e]
   refine ⟨by omega, ⟨fun _ => hany.2 ⟨u.command.toNat, by omega, s3⟩, fun _ => s1⟩, fun _ => ⟨s2, s3⟩⟩
 · have e := k2 hs
   by_cases hx : ∃ p, insP c u p
   · obtain ⟨b, q1, q2, _⟩ := b2 hx
     rw [e, q2]
     refine ⟨by have := q1.1; omega, ⟨fun _ => hany.2 hx, fun _ => by omega⟩, fun _ => ⟨by have := q1.1; omega, by simpa using q1.2⟩⟩
   · have q2 := b1 fun p hp => hx ⟨p, hp⟩
     rw [e, q2]
     refine ⟨by omega, ⟨fun h => by omega, fun h => absurd (hany.1 h) hx⟩, fun h => by omega⟩
theorem cd_mode (c : Cfg) (nq : Nat) (fq : Nat → Int) (l : List AC) {T z : Int} (hz : 0 ≤ z) : edgeF z (nextZ (asksC c nq fq l T) z) = true ∧ (T < 0 → nextZ (asksC c nq fq l T) z = 4) := by
 obtain ⟨h1, h2⟩ := asksC_pos c nq fq l T
 obtain ⟨e1, e2⟩ := nx_main h1 h2 hz
 refine ⟨e1, fun h => e2 ?_⟩
 unfold asksC asksZ
 rw [if_pos (.inl h)]
end Go.Proofs.YtpgaplcdbbnblaaGreatDoor
end
