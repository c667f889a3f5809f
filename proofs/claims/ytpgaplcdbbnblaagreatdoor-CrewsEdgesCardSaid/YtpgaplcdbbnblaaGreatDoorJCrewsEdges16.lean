/- Parts, one behind the other. scores.LevelOf, healths.Of, ranks' order, as the evaluator runs them. -/
import Derived.Test.YtpgaplcdbbnblaaGreatDoorJCrewsEdges15
import Derived.Test.YtpgaplcdbbnblaaGreatDoorJCrewsEdges10
import Derived.Test.YtpgaplcdbbnblaaGreatDoorJCrewsEdges11
set_option linter.unusedSimpArgs false
set_option linter.unusedVariables false
/- scores.LevelOf, healths.Of, ranks' order, as the evaluator runs them. -/
section
namespace Go.Proofs.YtpgaplcdbbnblaaGreatDoor
open Go.RowKit
theorem rkLv (z : Int) (Q : VF → Prop) (H : (((decide (z < Int.ofNat 16)) = true → Q (.c (.v (.int .u8 (Int.ofNat 0))), [], 1005, [decide (z < Int.ofNat 16) == true], [])) ∧ ((decide (z < Int.ofNat 16)) = false → (((decide (z < Int.ofNat 64)) = true → Q (.c (.v (.int .u8 (Int.ofNat 1))), [], 1008, [decide (z < Int.ofNat 64) == true, decide (z < Int.ofNat 16) == false], [])) ∧ ((decide (z < Int.ofNat 64)) = false → Q (.c (.v (.int .u8 (Int.ofNat 2))), [], 1008, [decide (z < Int.ofNat 64) == false, decide (z < Int.ofNat 16) == false], [])))))) :
 ∃ p r, scE Tryz.prog 160 .u16 z p = some r ∧ Q r :=
 two H
 (fun g1 => ⟨pD 1 1, _, by kernel_rfl, g1⟩)
 (fun g1 => two g1
  (fun g2 => ⟨pD 2 5, _, by kernel_rfl, g2⟩)
  (fun g2 => ⟨pD 2 8, _, by kernel_rfl, g2⟩))
theorem rkOf (c : Cfg) (nq : Nat) (fq : Nat → Int) (v : Vw) (z : Int) (Q : VF → Prop) (H : let zq0 : List Bool := [netK c nq fq, true]; let zq1 : List Bool := (ABlk.inb (ABlk.mk true false 32 0 (Cs.lit (vwL v))) 0 (0 + Int.toNat z * 1 + 1)) :: (okl Kd.b (List.getD (vwL v) (0 + Int.toNat z * 1) nov)) :: (decide (Int.ofNat 0 ≤ z ∧ z < Int.ofNat 8)) :: (decide (headN c nq fq z < Int.ofNat 0) == false) :: zq0; let zq2 : List Bool := (ABlk.inb (ABlk.mk true false 32 0 (Cs.lit (vwL v))) 0 (24 + Int.toNat z * 1 + 1)) :: (okl (Kd.i .u16) (List.getD (vwL v) (24 + Int.toNat z * 1) nov)) :: (decide (Int.ofNat 0 ≤ z ∧ z < Int.ofNat 8)) :: ((!asB (List.getD (vwL v) (0 + Int.toNat z * 1) nov)) == false) :: zq1; let zq3 : List Bool := (decide (asI (List.getD (vwL v) (24 + Int.toNat z * 1) nov) < Int.ofNat 16) == false) :: zq2; (((decide (headN c nq fq z < Int.ofNat 0)) = true → Q (.c (.v (.int .u8 (Int.ofNat 0))), [], 1007, ((decide (headN c nq fq z < Int.ofNat 0) == true) :: zq0), [])) ∧ ((decide (headN c nq fq z < Int.ofNat 0)) = false → (((!asB (List.getD (vwL v) (0 + Int.toNat z * 1) nov)) = true → Q (.c (.v (.int .u8 (Int.ofNat 3))), [], 1013, (((!asB (List.getD (vwL v) (0 + Int.toNat z * 1) nov)) == true) :: zq1), [])) ∧ ((!asB (List.getD (vwL v) (0 + Int.toNat z * 1) nov)) = false → (((decide (asI (List.getD (vwL v) (24 + Int.toNat z * 1) nov) < Int.ofNat 16)) = true → Q (.c (.v (.int .u8 (Int.ofNat 1))), [], 1024, ((decide (asI (List.getD (vwL v) (24 + Int.toNat z * 1) nov) < Int.ofNat 16) == true) :: zq2), [])) ∧ ((decide (asI (List.getD (vwL v) (24 + Int.toNat z * 1) nov) < Int.ofNat 16)) = false → (((decide (asI (List.getD (vwL v) (24 + Int.toNat z * 1) nov) < Int.ofNat 64)) = true → Q (.c (.v (.int .u8 (Int.ofNat 2))), [], 1027, ((decide (asI (List.getD (vwL v) (24 + Int.toNat z * 1) nov) < Int.ofNat 64) == true) :: zq3), [])) ∧ ((decide (asI (List.getD (vwL v) (24 + Int.toNat z * 1) nov) < Int.ofNat 64)) = false → Q (.c (.v (.int .u8 (Int.ofNat 2))), [], 1027, ((decide (asI (List.getD (vwL v) (24 + Int.toNat z * 1) nov) < Int.ofNat 64) == false) :: zq3), [])))))))))) :
 ∃ p r, vwE (ENf Tryz.prog) 97 c nq fq v [i64 z] p [] = some r ∧ Q r :=
 two H
 (fun g1 => ⟨pD 1 1, _, by kernel_rfl, g1⟩)
 (fun g1 => two g1
  (fun g2 => ⟨pD 2 5, _, by kernel_rfl, g2⟩)
  (fun g2 => two g2
   (fun g3 => ⟨pD 4 17, _, by kernel_rfl, g3⟩)
   (fun g3 => two g3
    (fun g4 => ⟨pD 5 53, _, by kernel_rfl, g4⟩)
    (fun g4 => ⟨pD 5 80, _, by kernel_rfl, g4⟩))))
def toE (P : Program) (s p s' p' : Int) (path : List Dec) : Option VF := viewF [] (fCallF (E1 P) (fC (E1 P) 300) 159 [.agg [.v (.int .u16 s), .v (.int .i64 p)], .agg [.v (.int .u16 s'), .v (.int .i64 p')]] 1000 10000000000000000000000000000000000000000 (stA [] path []))
theorem rkTo (s t s' t' : Int) (Q : VF → Prop) (H : let zq0 : List Bool := [(s' != s') == false, (s != s) == false, true, true, true, true]; let zq1 : List Bool := ((t' != t') == false) :: ((t != t) == false) :: true :: true :: true :: true :: (decide (s < s') == true) :: zq0; let zq2 : List Bool := (decide (t < t') == false) :: zq1; let zq3 : List Bool := (decide (s < s') == false) :: zq0; let zq4 : List Bool := ((t' != t') == false) :: ((t != t) == false) :: true :: true :: true :: true :: (decide (s > s') == true) :: zq3; let zq5 : List Bool := (decide (t < t') == false) :: zq4; let zq6 : List Bool := ((t' != t') == false) :: ((t != t) == false) :: true :: true :: true :: true :: (decide (s > s') == false) :: zq3; let zq7 : List Bool := (decide (t < t') == false) :: zq6; (((decide (s < s')) = true → (((decide (t < t')) = true → Q (.c (.v (.int .i64 (Int.negSucc 0))), [], 130000000000000000000000000000000000001003, (true :: true :: true :: (decide (t < t') == true) :: zq1), [])) ∧ ((decide (t < t')) = false → (((decide (t > t')) = true → Q (.c (.v (.int .i64 (Int.negSucc 0))), [], 130000000000000000000000000000000000001003, (true :: true :: true :: (decide (t > t') == true) :: zq2), [])) ∧ ((decide (t > t')) = false → Q (.c (.v (.int .i64 (Int.negSucc 0))), [], 130000000000000000000000000000000000001003, (true :: true :: true :: (decide (t > t') == false) :: zq2), [])))))) ∧ ((decide (s < s')) = false → (((decide (s > s')) = true → (((decide (t < t')) = true → Q (.c (.v (.int .i64 (Int.ofNat 1))), [], 130000000000000000000000000000000000001003, (true :: true :: true :: (decide (t < t') == true) :: zq4), [])) ∧ ((decide (t < t')) = false → (((decide (t > t')) = true → Q (.c (.v (.int .i64 (Int.ofNat 1))), [], 130000000000000000000000000000000000001003, (true :: true :: true :: (decide (t > t') == true) :: zq5), [])) ∧ ((decide (t > t')) = false → Q (.c (.v (.int .i64 (Int.ofNat 1))), [], 130000000000000000000000000000000000001003, (true :: true :: true :: (decide (t > t') == false) :: zq5), [])))))) ∧ ((decide (s > s')) = false → (((decide (t < t')) = true → Q (.c (.v (.int .i64 (Int.negSucc 0))), [], 130000000000000000000000000000000000001003, (true :: true :: true :: true :: true :: true :: (decide (t < t') == true) :: zq6), [])) ∧ ((decide (t < t')) = false → (((decide (t > t')) = true → Q (.c (.v (.int .i64 (Int.ofNat 1))), [], 130000000000000000000000000000000000001003, (true :: true :: true :: true :: true :: true :: (decide (t > t') == true) :: zq7), [])) ∧ ((decide (t > t')) = false → Q (.c (.v (.int .i64 (Int.ofNat 0))), [], 130000000000000000000000000000000000001003, (true :: true :: true :: true :: true :: true :: (decide (t > t') == false) :: zq7), [])))))))))) :
 ∃ p r, toE Tryz.prog s t s' t' p = some r ∧ Q r :=
 two H
 (fun g1 => two g1
  (fun g2 => ⟨pD 8 476, _, by kernel_rfl, g2⟩)
  (fun g2 => two g2
   (fun g3 => ⟨pD 9 1448, _, by kernel_rfl, g3⟩)
   (fun g3 => ⟨pD 9 2177, _, by kernel_rfl, g3⟩)))
 (fun g1 => two g1
  (fun g2 => two g2
   (fun g3 => ⟨pD 9 1430, _, by kernel_rfl, g3⟩)
   (fun g3 => two g3
    (fun g4 => ⟨pD 10 4346, _, by kernel_rfl, g4⟩)
    (fun g4 => ⟨pD 10 6533, _, by kernel_rfl, g4⟩)))
  (fun g2 => two g2
   (fun g3 => ⟨pD 11 1457, _, by kernel_rfl, g3⟩)
   (fun g3 => two g3
    (fun g4 => ⟨pD 12 4373, _, by kernel_rfl, g4⟩)
    (fun g4 => ⟨pD 13 6560, _, by kernel_rfl, g4⟩))))
end Go.Proofs.YtpgaplcdbbnblaaGreatDoor
end
/- Contracts of scores.LevelOf, healths.Of, ranks' order. -/
section
namespace Go.Proofs.YtpgaplcdbbnblaaGreatDoor
open Go.RowKit
def levZ (z : Int) : Int := if z < 16 then 0 else if z < 64 then 1 else 2
def levR : List AV → AV
 | [.c (.v (.int .u16 z))] => .c (.v (.int .u8 (levZ z)))
 | _ => i64 0
def levP : List AV → Bool
 | [.c (.v (.int .u16 _))] => true
 | _ => false
def ctLev : CtF := ctRd (pureRd [] rfl) levR levP
theorem ct_lev : CtOk Tryz.prog 160 ctLev := by
 refine ctRd_ofE (E := E1 Tryz.prog) hE1 (pureRd [] rfl) (fuel := 300) (str := 10000000000000000000000000000000000000000) ⟨_, _, Tryz.func160, rfl⟩ (fun s => by unfold levR; split <;> rfl) fun s hs => ?_
 unfold levP at hs
 split at hs
 · rename_i z
   refine (?_ : (∃ p q, scE Tryz.prog 160 .u16 z p = some q ∧ GoodF (.c (.v (.int .u8 (levZ z)))) q) → _) (rkLv z _ ?_)
   · rintro ⟨p, q, h1, h2⟩
     exact ⟨p, [], q, h1, h2⟩
   · (repeat' (first | refine ⟨fun h => ?_, fun h => ?_⟩ | fail))
     all_goals (refine ⟨?_, (by first | (unfold lim; omega) | (dsimp only; unfold lim; omega)), by simp_all [allT], by simp⟩)
     all_goals (simp only [decide_eq_true_eq, decide_eq_false_iff_not, Int.ofNat_eq_natCast, Int.cast_ofNat_Int] at *)
     all_goals (refine congrArg (fun z => AV.c (.v (.int .u8 z))) ?_; unfold levZ)
     all_goals ((repeat' split) <;> first | rfl | (exfalso; omega))
 · cases hs
def hlZ (hd : Int) (inn : Bool) (score : Int) : Int := if hd < 0 then 0 else if inn = false then 3 else if score < 16 then 1 else 2
def hlR (c : Cfg) (nq : Nat) (fq : Nat → Int) (l : List AC) : List AV → AV
 | [.c (.v (.int .i64 z))] => .c (.v (.int .u8 (hlZ (headN c nq fq z) (asB (l.getD z.toNat nov)) (asI (l.getD (24 + z.toNat) nov)))))
 | _ => i64 0
def ctHl : CtF := ctRd netRd (rV hlR) (pW hrdC)
theorem ct_hl : CtOk Tryz.prog 97 ctHl := by
 refine ctVwW_of (G := mS) (by kernel_rfl) (E := ENf Tryz.prog) hENf ⟨_, _, Tryz.func97, rfl⟩ (fun c nq fq v r => by unfold hlR; split <;> rfl) fun c nq fq v r hr => ?_
 unfold hrdC at hr
 split at hr
 · rename_i z
   have h8 : c.np ≤ 8 := of_decide_eq_true hr
   refine (?_ : (∃ p q, vwE (ENf Tryz.prog) 97 c nq fq v [i64 z] p [] = some q ∧ GoodF (.c (.v (.int .u8 (hlZ (headN c nq fq z) (asB ((vwL v).getD z.toNat nov)) (asI ((vwL v).getD (24 + z.toNat) nov)))))) q) → _) (rkOf c nq fq v z _ ?_)
   · rintro ⟨p, q, h1, h2⟩
     exact ⟨p, [], q, h1, h2⟩
   · by_cases hd : 0 ≤ headN c nq fq z
     · obtain ⟨z0, z1⟩ := headN_in hd
       obtain ⟨k, rfl⟩ := Int.eq_ofNat_of_zero_le z0
       have hk : k < 8 := by omega
       have a0 := vw_inn v k hk
       have b0 := vw_innB v k hk
       obtain ⟨a4, b4⟩ := vw_score v k hk
       simp only [Nat.zero_add, Nat.mul_one, Int.ofNat_eq_natCast, Int.toNat_natCast] at a0 a4 b0 b4
       simp only [Int.ofNat_eq_natCast, Int.toNat_natCast, Nat.zero_add, Nat.mul_one, a0, a4, b0, b4]
       obtain ⟨h, hh⟩ : ∃ h, headN c nq fq (k : Int) = h := ⟨_, rfl⟩
       rw [hh] at hd ⊢
       clear hh
       have hn : ¬ h < 0 := by omega
       obtain ⟨b, hb⟩ : ∃ b, v.inn k = b := ⟨_, rfl⟩
       obtain ⟨sc, hsc⟩ : ∃ b, v.score k = b := ⟨_, rfl⟩
       simp only [hb, hsc]
       cases b
       all_goals (repeat' (first | refine ⟨fun h => ?_, fun h => ?_⟩ | fail))
       all_goals (first | (exfalso; simp at *; done) | (exfalso; simp at *; omega) | skip)
       all_goals (refine ⟨?_, (by first | (unfold lim; omega) | (dsimp only; unfold lim; omega)), ?_, by simp⟩)
       all_goals (simp only [decide_eq_true_eq, decide_eq_false_iff_not, Int.ofNat_eq_natCast, Int.cast_ofNat_Int] at *)
       all_goals first
        | (refine congrArg (fun z => AV.c (.v (.int .u8 z))) ?_; unfold hlZ; (repeat' split) <;> first | rfl | (exfalso; omega) | contradiction)
        | (simp [allT, cfgK_t, netK_t, intsOk_ints, stsOk_sts, intsOk_s, stsOk_s, inb_lit, Vw.len]; omega)
     · have e : decide (headN c nq fq z < 0) = true := decide_eq_true (by omega)
       refine ⟨fun h => ?_, fun h => ?_⟩
       · refine ⟨?_, (by first | (unfold lim; omega) | (dsimp only; unfold lim; omega)), ?_, by simp⟩
         · simp [hlZ, show headN c nq fq z < 0 by omega]
         · simp_all [allT, cfgK_t, netK_t, intsOk_ints, stsOk_sts, intsOk_s, stsOk_s]
       · exfalso
         simp at h
         omega
 · cases hr
def toZ (s p s' p' : Int) : Int := if s < s' then -1 else if s' < s then 1 else if p < p' then -1 else if p' < p then 1 else 0
def toR : List AV → AV
 | [.agg [.v (.int .u16 s), .v (.int .i64 p)], .agg [.v (.int .u16 s'), .v (.int .i64 p')]] => i64 (toZ s p s' p')
 | _ => i64 0
def toP : List AV → Bool
 | [.agg [.v (.int .u16 _), .v (.int .i64 _)], .agg [.v (.int .u16 _), .v (.int .i64 _)]] => true
 | _ => false
def ctTo : CtF := ctRd (pureRd [] rfl) toR toP
theorem ct_to : CtOk Tryz.prog 159 ctTo := by
 refine ctRd_ofE (E := E1 Tryz.prog) hE1 (pureRd [] rfl) (fuel := 300) (str := 10000000000000000000000000000000000000000) ⟨_, _, Tryz.func159, rfl⟩ (fun s => by unfold toR; split <;> rfl) fun s hs => ?_
 unfold toP at hs
 split at hs
 · rename_i s t s' t'
   refine (?_ : (∃ p q, toE Tryz.prog s t s' t' p = some q ∧ GoodF (i64 (toZ s t s' t')) q) → _) (rkTo s t s' t' _ ?_)
   · rintro ⟨p, q, h1, h2⟩
     exact ⟨p, [], q, h1, h2⟩
   · (repeat' (first | refine ⟨fun h => ?_, fun h => ?_⟩ | fail))
     all_goals (refine ⟨?_, (by first | (unfold lim; omega) | (dsimp only; unfold lim; omega)), by simp_all [allT], by simp⟩)
     all_goals (simp only [decide_eq_true_eq, decide_eq_false_iff_not, gt_iff_lt] at *)
     all_goals (refine congrArg i64 ?_; unfold toZ)
     all_goals ((repeat' split) <;> first | rfl | (exfalso; omega))
 · cases hs
def ctLen : CtF
 | [.c (.v (.int .u64 x))], _, _ => some (i64 (Lib.bitLen x.toNat), [], 0, [decide (0 ≤ x), decide (x ≤ 18446744073709551615)])
 | _, _, _ => none
end Go.Proofs.YtpgaplcdbbnblaaGreatDoor
end
/- modes.in: its loop's round as the evaluator runs it. -/
section
namespace Go.Proofs.YtpgaplcdbbnblaaGreatDoor
open Go.RowKit
abbrev mdV (c : Cfg) (nq : Nat) (fq : Nat → Int) (v : Vw) (k : Nat) : List AV := [.c (.ptr 5 0 0), .c (.ptr 1000 0 0), i64 (Int.ofNat (cntF (inB c nq fq v) k)), i64 (Int.ofNat (cntF (hasB c nq fq) k)), i64 (Int.ofNat k)]
def mdR (P : Program) (c : Cfg) (nq : Nat) (fq : Nat → Int) (v : Vw) (k : Nat) (path : List Dec) : Option VC :=
 view ([0, 3, 4, 5, 7] ++ []) (netIds ++ [1000]) (fC (ENf P) 100 (loopAt P 238 0) 1000000000000000000000000000000000000000000 10000000000000000000000000000000000000000 (stH 25 [0, 3, 4, 5, 7] (netIds ++ [1000]) (mdV c nq fq v k) (netBk c nq fq ++ [vwB v]) path []))
theorem md (c : Cfg) (nq : Nat) (fq : Nat → Int) (v : Vw) (k : Nat) (Q : VC → Prop) (H : let zq0 : List Bool := [netK c nq fq, true, decide (Int.ofNat k < Int.ofNat 8) == true]; let zq1 : List Bool := (ABlk.inb (ABlk.mk true false 32 0 (Cs.lit (vwL v))) 0 (0 + Int.toNat (Int.ofNat k) * 1 + 1)) :: (okl Kd.b (List.getD (vwL v) (0 + Int.toNat (Int.ofNat k) * 1) nov)) :: (decide (Int.ofNat 0 ≤ Int.ofNat k ∧ Int.ofNat k < Int.ofNat 8)) :: (decide (headN c nq fq (List.headD [Int.ofNat k] (Int.ofNat 0)) < Int.ofNat 0) == false) :: zq0; (((decide (Int.ofNat k < Int.ofNat 8)) = true → (((decide (headN c nq fq (List.headD [Int.ofNat k] (Int.ofNat 0)) < Int.ofNat 0)) = true → Q (Exit.normal, [some (lkA (List.zip [0, 3, 4, 5, 7] (mdV c nq fq v k)) 0), some (lkA (List.zip [0, 3, 4, 5, 7] (mdV c nq fq v k)) (0 + 1 + 1 + 1)), some (lkA (List.zip [0, 3, 4, 5, 7] (mdV c nq fq v k)) (0 + 1 + 1 + 1 + 1)), some (lkA (List.zip [0, 3, 4, 5, 7] (mdV c nq fq v k)) (0 + 1 + 1 + 1 + 1 + 1)), some (.c (.v (.int .i64 (IntKind.wrap .i64 (Int.ofNat k + Int.ofNat 1)))))], [some (ABlk.mk false false 131 0 (Cs.lit [.v (.int .i64 (Int.ofNat 1)), .v (.int .i64 (Int.negSucc 0))])), some (ABlk.mk false false 3 1 (Cs.arr (c.np) fun k => List.map AC.v ((fun i => [Value.int .i64 (c.fp i)]) k))), some (ABlk.mk false false 3 1 (Cs.arr (c.ns) fun k => List.map AC.v ((fun i => [Value.int .i64 (c.fs i)]) k))), some (ABlk.mk false false 3 1 (Cs.arr (c.nb) fun k => List.map AC.v ((fun i => [Value.int .i64 (c.fb i)]) k))), some (ABlk.mk false false 161 3 (Cs.arr (c.nt) fun k => List.map AC.v ((fun i => [Value.int .i64 (Station.node (c.ft i)), Value.int .u32 (Station.safe (c.ft i)), Value.int .i64 (Station.hold (c.ft i))]) k))), some (ABlk.mk false false 3 1 (Cs.arr nq fun k => List.map AC.v ((fun i => [Value.int .i64 (fq i)]) k))), some (ABlk.mk false false 77 0 (Cs.lit [.v (.int .i64 (c.nodes)), AC.sl 0 0 0 (c.np) none, AC.sl 1 0 0 (c.ns) none, .v (.int .i64 (c.long)), AC.sl 2 0 0 (c.nb) none, AC.sl 3 0 0 (c.nt) none, .v (.int .i64 (c.miss)), .v (.int .i64 (c.good)), .v (.int .i64 (c.fresh)), AC.sl 4 0 0 nq none])), some (ABlk.mk true false 32 0 (Cs.lit (vwL v)))], 25, 1000000000000000000000000000000000000000008, ((decide (headN c nq fq (List.headD [Int.ofNat k] (Int.ofNat 0)) < Int.ofNat 0) == true) :: zq0), [])) ∧ ((decide (headN c nq fq (List.headD [Int.ofNat k] (Int.ofNat 0)) < Int.ofNat 0)) = false → (((asB (List.getD (vwL v) (0 + Int.toNat (Int.ofNat k) * 1) nov)) = true → Q (Exit.normal, [some (lkA (List.zip [0, 3, 4, 5, 7] (mdV c nq fq v k)) 0), some (lkA (List.zip [0, 3, 4, 5, 7] (mdV c nq fq v k)) (0 + 1 + 1 + 1)), some (.c (.v (.int .i64 (IntKind.wrap .i64 (Int.ofNat (cntF (inB c nq fq v) k) + Int.ofNat 1))))), some (.c (.v (.int .i64 (IntKind.wrap .i64 (Int.ofNat (cntF (hasB c nq fq) k) + Int.ofNat 1))))), some (.c (.v (.int .i64 (IntKind.wrap .i64 (Int.ofNat k + Int.ofNat 1)))))], [some (ABlk.mk false false 131 0 (Cs.lit [.v (.int .i64 (Int.ofNat 1)), .v (.int .i64 (Int.negSucc 0))])), some (ABlk.mk false false 3 1 (Cs.arr (c.np) fun k => List.map AC.v ((fun i => [Value.int .i64 (c.fp i)]) k))), some (ABlk.mk false false 3 1 (Cs.arr (c.ns) fun k => List.map AC.v ((fun i => [Value.int .i64 (c.fs i)]) k))), some (ABlk.mk false false 3 1 (Cs.arr (c.nb) fun k => List.map AC.v ((fun i => [Value.int .i64 (c.fb i)]) k))), some (ABlk.mk false false 161 3 (Cs.arr (c.nt) fun k => List.map AC.v ((fun i => [Value.int .i64 (Station.node (c.ft i)), Value.int .u32 (Station.safe (c.ft i)), Value.int .i64 (Station.hold (c.ft i))]) k))), some (ABlk.mk false false 3 1 (Cs.arr nq fun k => List.map AC.v ((fun i => [Value.int .i64 (fq i)]) k))), some (ABlk.mk false false 77 0 (Cs.lit [.v (.int .i64 (c.nodes)), AC.sl 0 0 0 (c.np) none, AC.sl 1 0 0 (c.ns) none, .v (.int .i64 (c.long)), AC.sl 2 0 0 (c.nb) none, AC.sl 3 0 0 (c.nt) none, .v (.int .i64 (c.miss)), .v (.int .i64 (c.good)), .v (.int .i64 (c.fresh)), AC.sl 4 0 0 nq none])), some (ABlk.mk true false 32 0 (Cs.lit (vwL v)))], 25, 1000000000000000000000000000000000000000018, ((asB (List.getD (vwL v) (0 + Int.toNat (Int.ofNat k) * 1) nov) == true) :: zq1), [])) ∧ ((asB (List.getD (vwL v) (0 + Int.toNat (Int.ofNat k) * 1) nov)) = false → Q (Exit.normal, [some (lkA (List.zip [0, 3, 4, 5, 7] (mdV c nq fq v k)) 0), some (lkA (List.zip [0, 3, 4, 5, 7] (mdV c nq fq v k)) (0 + 1 + 1 + 1)), some (lkA (List.zip [0, 3, 4, 5, 7] (mdV c nq fq v k)) (0 + 1 + 1 + 1 + 1)), some (.c (.v (.int .i64 (IntKind.wrap .i64 (Int.ofNat (cntF (hasB c nq fq) k) + Int.ofNat 1))))), some (.c (.v (.int .i64 (IntKind.wrap .i64 (Int.ofNat k + Int.ofNat 1)))))], [some (ABlk.mk false false 131 0 (Cs.lit [.v (.int .i64 (Int.ofNat 1)), .v (.int .i64 (Int.negSucc 0))])), some (ABlk.mk false false 3 1 (Cs.arr (c.np) fun k => List.map AC.v ((fun i => [Value.int .i64 (c.fp i)]) k))), some (ABlk.mk false false 3 1 (Cs.arr (c.ns) fun k => List.map AC.v ((fun i => [Value.int .i64 (c.fs i)]) k))), some (ABlk.mk false false 3 1 (Cs.arr (c.nb) fun k => List.map AC.v ((fun i => [Value.int .i64 (c.fb i)]) k))), some (ABlk.mk false false 161 3 (Cs.arr (c.nt) fun k => List.map AC.v ((fun i => [Value.int .i64 (Station.node (c.ft i)), Value.int .u32 (Station.safe (c.ft i)), Value.int .i64 (Station.hold (c.ft i))]) k))), some (ABlk.mk false false 3 1 (Cs.arr nq fun k => List.map AC.v ((fun i => [Value.int .i64 (fq i)]) k))), some (ABlk.mk false false 77 0 (Cs.lit [.v (.int .i64 (c.nodes)), AC.sl 0 0 0 (c.np) none, AC.sl 1 0 0 (c.ns) none, .v (.int .i64 (c.long)), AC.sl 2 0 0 (c.nb) none, AC.sl 3 0 0 (c.nt) none, .v (.int .i64 (c.miss)), .v (.int .i64 (c.good)), .v (.int .i64 (c.fresh)), AC.sl 4 0 0 nq none])), some (ABlk.mk true false 32 0 (Cs.lit (vwL v)))], 25, 1000000000000000000000000000000000000000015, ((asB (List.getD (vwL v) (0 + Int.toNat (Int.ofNat k) * 1) nov) == false) :: zq1), [])))))) ∧ ((decide (Int.ofNat k < Int.ofNat 8)) = false → Q (Exit.exit 0, [some (lkA (List.zip [0, 3, 4, 5, 7] (mdV c nq fq v k)) 0), some (lkA (List.zip [0, 3, 4, 5, 7] (mdV c nq fq v k)) (0 + 1 + 1 + 1)), some (lkA (List.zip [0, 3, 4, 5, 7] (mdV c nq fq v k)) (0 + 1 + 1 + 1 + 1)), some (lkA (List.zip [0, 3, 4, 5, 7] (mdV c nq fq v k)) (0 + 1 + 1 + 1 + 1 + 1)), some (lkA (List.zip [0, 3, 4, 5, 7] (mdV c nq fq v k)) (0 + 1 + 1 + 1 + 1 + 1 + 1 + 1))], [some (ABlk.mk false false 131 0 (Cs.lit [.v (.int .i64 (Int.ofNat 1)), .v (.int .i64 (Int.negSucc 0))])), some (ABlk.mk false false 3 1 (Cs.arr (c.np) fun k => List.map AC.v ((fun i => [Value.int .i64 (c.fp i)]) k))), some (ABlk.mk false false 3 1 (Cs.arr (c.ns) fun k => List.map AC.v ((fun i => [Value.int .i64 (c.fs i)]) k))), some (ABlk.mk false false 3 1 (Cs.arr (c.nb) fun k => List.map AC.v ((fun i => [Value.int .i64 (c.fb i)]) k))), some (ABlk.mk false false 161 3 (Cs.arr (c.nt) fun k => List.map AC.v ((fun i => [Value.int .i64 (Station.node (c.ft i)), Value.int .u32 (Station.safe (c.ft i)), Value.int .i64 (Station.hold (c.ft i))]) k))), some (ABlk.mk false false 3 1 (Cs.arr nq fun k => List.map AC.v ((fun i => [Value.int .i64 (fq i)]) k))), some (ABlk.mk false false 77 0 (Cs.lit [.v (.int .i64 (c.nodes)), AC.sl 0 0 0 (c.np) none, AC.sl 1 0 0 (c.ns) none, .v (.int .i64 (c.long)), AC.sl 2 0 0 (c.nb) none, AC.sl 3 0 0 (c.nt) none, .v (.int .i64 (c.miss)), .v (.int .i64 (c.good)), .v (.int .i64 (c.fresh)), AC.sl 4 0 0 nq none])), some (ABlk.mk true false 32 0 (Cs.lit (vwL v)))], 25, 1000000000000000000000000000000000000000001, [decide (Int.ofNat k < Int.ofNat 8) == false], [])))) :
 ∃ p r, mdR Tryz.prog c nq fq v k p = some r ∧ Q r :=
 two H
 (fun g1 => two g1
  (fun g2 => ⟨pD 2 4, _, by kernel_rfl, g2⟩)
  (fun g2 => two g2
   (fun g3 => ⟨pD 3 16, _, by kernel_rfl, g3⟩)
   (fun g3 => ⟨pD 3 25, _, by kernel_rfl, g3⟩)))
 (fun g1 => ⟨pD 1 2, _, by kernel_rfl, g1⟩)
end Go.Proofs.YtpgaplcdbbnblaaGreatDoor
end
/- modes.in: how many pairs are in, of how many: its contract. -/
section
namespace Go.Proofs.YtpgaplcdbbnblaaGreatDoor
open Go.RowKit
theorem md_sum (c : Cfg) (nq : Nat) (fq : Nat → Int) (v : Vw) {eblks : List (Option ABlk)} (heb : BL (netBk c nq fq ++ [vwB v]) eblks) :
 LoopV Tryz.prog (loopAt Tryz.prog 238 0) [0, 3, 4, 5, 7] (netIds ++ [1000]) ((mdV c nq fq v 0).map some) eblks 25 1004 (mkFr 25 [(4, i64 (Int.ofNat (cntF (inB c nq fq v) 8))), (5, i64 (Int.ofNat (cntF (hasB c nq fq) 8)))]) [] 100000000000000000000000000000000000000000000000000 (.exit 0) none := by
 refine loop_viewE hENf (fuel := 100) (str := 10000000000000000000000000000000000000000) (nh := 1000000000000000000000000000000000000000000) (S := Nat) (fun k => k ≤ 8) (fun k => 8 - k) [0, 3, 4, 5, 7] [] (netIds ++ [1000]) (mdV c nq fq v) (fun _ => netBk c nq fq ++ [vwB v]) (by decide) (by decide) (by unfold lim; omega) (s0 := 0) (by omega) (fun _ => ⟨rfl, rfl⟩) (by kernel_rfl) heb (fun k _ => ⟨rfl, ?_⟩) ?_
 · intro b hb
   rcases List.mem_append.1 hb with h | h
   · exact netBk_low (by omega) b h
   · rw [List.mem_singleton.1 h]; exact vwB_low
 intro k hk
 refine (?_ : (∃ p r, mdR Tryz.prog c nq fq v k p = some r ∧ _) → _) (md c nq fq v k (StepV 1004 100000000000000000000000000000000000000000000000000 25 [0, 3, 4, 5, 7] [] (netIds ++ [1000]) (fun k => k ≤ 8) (fun k => 8 - k) (mdV c nq fq v) (fun _ => netBk c nq fq ++ [vwB v]) (.exit 0) [(4, i64 (Int.ofNat (cntF (inB c nq fq v) 8))), (5, i64 (Int.ofNat (cntF (hasB c nq fq) 8)))] [] k) ?_)
 · rintro ⟨p, r, h1, h2⟩
   exact ⟨p, [], r, h1, h2⟩
 · have hb := cntF_le (hasB c nq fq) k
   have hi := cntF_le (inB c nq fq v) k
   have nx : ∀ {a b : Int} {i j : Nat}, i = cntF (inB c nq fq v) (k + 1) → j = cntF (hasB c nq fq) (k + 1) → k < 8 → a = Int.ofNat i → b = Int.ofNat j → [some (.c (.ptr 5 0 0)), some (.c (.ptr 1000 0 0)), some (i64 a), some (i64 b), some (i64 (Int.ofNat (k + 1)))] = (mdV c nq fq v (k + 1)).map some := by
    rintro a b i j rfl rfl _ rfl rfl; rfl
   refine ⟨fun c1 => ⟨fun c2 => ?_, fun c2 => ⟨fun c3 => ?_, fun c3 => ?_⟩⟩, fun c1 => ?_⟩
   · have hlt : k < 8 := by simp at c1; omega
     have h0 : hasB c nq fq k = false := by simpa [hasB] using c2
     refine ⟨?_, rfl, by dsimp only; omega, rfl, .inl ⟨rfl, k + 1, by omega, by show 8 - (k + 1) < 8 - k; omega, ?_, by exact BL.refl (netBk c nq fq ++ [vwB v])⟩⟩
     · simp [allT, hlt, c2, cfgK_t, netK_t, intsOk_ints, stsOk_sts, intsOk_s, stsOk_s]
       simp at c2
       omega
     · rw [wrap_nat1 k (by omega)]
       exact nx (i := cntF (inB c nq fq v) k) (j := cntF (hasB c nq fq) k) (by rw [cntF_succ]; simp [inB, h0]) (by rw [cntF_succ]; simp [h0]) hlt rfl rfl
   · have hlt : k < 8 := by simp at c1; omega
     have h0 : hasB c nq fq k = true := by simpa [hasB] using c2
     rw [vw_inn v k hlt] at c3
     refine ⟨?_, rfl, by dsimp only; omega, rfl, .inl ⟨rfl, k + 1, by omega, by show 8 - (k + 1) < 8 - k; omega, ?_, by exact BL.refl (netBk c nq fq ++ [vwB v])⟩⟩
     · simp only [allT, List.forall_mem_cons, vw_inn v k hlt, vw_innB v k hlt]
       simp [allT, hlt, c3, cfgK_t, netK_t, intsOk_ints, stsOk_sts, intsOk_s, stsOk_s, Vw.len, inb_lit, inb_arr]
       simp at c2
       omega
     · rw [wrap_nat1 k (by omega), wrap_nat1 _ (by omega), wrap_nat1 _ (by omega)]
       exact nx (i := cntF (inB c nq fq v) k + 1) (j := cntF (hasB c nq fq) k + 1) (by rw [cntF_succ]; simp [inB, h0, c3]) (by rw [cntF_succ]; simp [h0]) hlt rfl rfl
   · have hlt : k < 8 := by simp at c1; omega
     have h0 : hasB c nq fq k = true := by simpa [hasB] using c2
     rw [vw_inn v k hlt] at c3
     refine ⟨?_, rfl, by dsimp only; omega, rfl, .inl ⟨rfl, k + 1, by omega, by show 8 - (k + 1) < 8 - k; omega, ?_, by exact BL.refl (netBk c nq fq ++ [vwB v])⟩⟩
     · simp only [allT, List.forall_mem_cons, vw_inn v k hlt, vw_innB v k hlt]
       simp [allT, hlt, c3, cfgK_t, netK_t, intsOk_ints, stsOk_sts, intsOk_s, stsOk_s, Vw.len, inb_lit, inb_arr]
       simp at c2
       omega
     · rw [wrap_nat1 k (by omega), wrap_nat1 _ (by omega)]
       exact nx (i := cntF (inB c nq fq v) k) (j := cntF (hasB c nq fq) k + 1) (by rw [cntF_succ]; simp [inB, h0, c3]) (by rw [cntF_succ]; simp [h0]) hlt rfl rfl
   · have hge : k = 8 := by simp at c1; omega
     subst hge
     refine ⟨by simp [allT], rfl, by dsimp only; omega, rfl, .inr ⟨by simp, rfl, fun q hq => ?_, fun p hpp => (by cases hpp)⟩⟩
     simp only [List.mem_cons, List.not_mem_nil, or_false] at hq
     rcases hq with rfl | rfl
     · exact ⟨rfl, by simp [lkA]⟩
     · exact ⟨rfl, by simp [lkA]⟩
def insN (c : Cfg) (nq : Nat) (fq : Nat → Int) (l : List AC) : Nat := cntF (fun p => hasB c nq fq p && asB (l.getD p nov)) 8
def allN (c : Cfg) (nq : Nat) (fq : Nat → Int) : Nat := cntF (hasB c nq fq) 8
abbrev inL (v : Vw) : List AC := [.v (.bool (v.inn 0)), .v (.bool (v.inn 1)), .v (.bool (v.inn 2)), .v (.bool (v.inn 3)), .v (.bool (v.inn 4)), .v (.bool (v.inn 5)), .v (.bool (v.inn 6)), .v (.bool (v.inn 7))]
theorem insN_eq (c : Cfg) (nq : Nat) (fq : Nat → Int) (v : Vw) : insN c nq fq (inL v) = cntF (inB c nq fq v) 8 :=
 cntF_congr fun i hi => by
  have : asB ((inL v).getD i nov) = v.inn i := by
   match i, hi with
   | 0, _ => rfl
   | 1, _ => rfl
   | 2, _ => rfl
   | 3, _ => rfl
   | 4, _ => rfl
   | 5, _ => rfl
   | 6, _ => rfl
   | 7, _ => rfl
  simp only [inB, this]
def modsR (c : Cfg) (nq : Nat) (fq : Nat → Int) (l : List AC) (_ : List AV) : AV := .tup [i64 (Int.ofNat (insN c nq fq (l.take 8))), i64 (Int.ofNat (allN c nq fq))]
theorem mdIn (c : Cfg) (nq : Nat) (fq : Nat → Int) (v : Vw) (Q : VF → Prop) (H : Q (.tup [.c (.v (.int .i64 (Int.ofNat (cntF (inB c nq fq v) 8)))), .c (.v (.int .i64 (Int.ofNat (cntF (hasB c nq fq) 8))))], [], 100000000000000000000000000000000000000000000000004, [], [LoopV Tryz.prog (loopAt Tryz.prog 238 0) [0, 3, 4, 5, 7] (netIds ++ [1000]) [some (.c (.ptr 5 0 0)), some (.c (.ptr 1000 0 0)), some (.c (.v (.int .i64 (Int.ofNat 0)))), some (.c (.v (.int .i64 (Int.ofNat 0)))), some (.c (.v (.int .i64 (Int.ofNat 0))))] [some (ABlk.mk false false 131 0 (Cs.lit [.v (.int .i64 (Int.ofNat 1)), .v (.int .i64 (Int.negSucc 0))])), some (ABlk.mk false false 3 1 (Cs.arr (c.np) fun k => List.map AC.v ((fun i => [Value.int .i64 (c.fp i)]) k))), some (ABlk.mk false false 3 1 (Cs.arr (c.ns) fun k => List.map AC.v ((fun i => [Value.int .i64 (c.fs i)]) k))), some (ABlk.mk false false 3 1 (Cs.arr (c.nb) fun k => List.map AC.v ((fun i => [Value.int .i64 (c.fb i)]) k))), some (ABlk.mk false false 161 3 (Cs.arr (c.nt) fun k => List.map AC.v ((fun i => [Value.int .i64 (Station.node (c.ft i)), Value.int .u32 (Station.safe (c.ft i)), Value.int .i64 (Station.hold (c.ft i))]) k))), some (ABlk.mk false false 3 1 (Cs.arr nq fun k => List.map AC.v ((fun i => [Value.int .i64 (fq i)]) k))), some (ABlk.mk false false 77 0 (Cs.lit [.v (.int .i64 (c.nodes)), AC.sl 0 0 0 (c.np) none, AC.sl 1 0 0 (c.ns) none, .v (.int .i64 (c.long)), AC.sl 2 0 0 (c.nb) none, AC.sl 3 0 0 (c.nt) none, .v (.int .i64 (c.miss)), .v (.int .i64 (c.good)), .v (.int .i64 (c.fresh)), AC.sl 4 0 0 nq none])), some (ABlk.mk true false 32 0 (Cs.lit (vwL v)))] 25 1004 (mkFr 25 [(4, i64 (Int.ofNat (cntF (inB c nq fq v) 8))), (5, i64 (Int.ofNat (cntF (hasB c nq fq) 8)))]) [] 100000000000000000000000000000000000000000000000000 (Exit.exit 0) none])) :
 ∃ p r, vwE (ENf Tryz.prog) 238 c nq fq v [] p [some ⟨[0, 3, 4, 5, 7], netIds ++ [1000], mkFr 25 [(4, i64 (Int.ofNat (cntF (inB c nq fq v) 8))), (5, i64 (Int.ofNat (cntF (hasB c nq fq) 8)))], [], 100000000000000000000000000000000000000000000000000, .exit 0⟩] = some r ∧ Q r :=
 ⟨pD 0 0, _, by kernel_rfl, H⟩
end Go.Proofs.YtpgaplcdbbnblaaGreatDoor
end
/- modes.Asks: what a view asks for: its contract. -/
section
namespace Go.Proofs.YtpgaplcdbbnblaaGreatDoor
open Go.RowKit
theorem ct_mdIn : CtOk Tryz.prog 238 (ctRd netRd (rV modsR) (pV fun _ r => r.isEmpty)) := by
 refine ctVw_of (E := ENf Tryz.prog) hENf ⟨_, _, Tryz.func238, rfl⟩ (fun _ _ _ _ _ => rfl) fun c nq fq v r hr => ?_
 obtain rfl := List.isEmpty_iff.1 hr
 refine (?_ : (∃ p q, vwE (ENf Tryz.prog) 238 c nq fq v [] p [some ⟨[0, 3, 4, 5, 7], netIds ++ [1000], mkFr 25 [(4, i64 (Int.ofNat (cntF (inB c nq fq v) 8))), (5, i64 (Int.ofNat (cntF (hasB c nq fq) 8)))], [], 100000000000000000000000000000000000000000000000000, .exit 0⟩] = some q ∧ GoodF (modsR c nq fq (vwL v) []) q) → _) (mdIn c nq fq v _ ?_)
 · rintro ⟨p, q, h1, h2⟩
   exact ⟨p, _, q, h1, h2⟩
 · refine ⟨by simp only [modsR, i64, allN]; rw [← insN_eq]; rfl, (by first | (unfold lim; omega) | (dsimp only; unfold lim; omega)), by simp [allT], fun q hq => ?_⟩
   rw [List.mem_singleton.1 hq]
   exact md_sum c nq fq v (BL.refl _)
def ctMdIn : CtF := ctRd netRd (rV modsR) (pV fun _ r => r.isEmpty)
def ENas (P : Program) : Env := ⟨P, [(238, ctMdIn)]⟩
theorem hENas : EnvOk (ENas Tryz.prog) := by
 refine envOk (fun f g h => ?_) (by kernel_rfl) (by kernel_rfl)
 simp only [ENas, List.mem_cons, Prod.mk.injEq, List.not_mem_nil, or_false] at h
 obtain ⟨rfl, rfl⟩ := h
 exact ct_mdIn
def asksZ (is all : Nat) (cmd : Int) : Int := if cmd < 0 ∨ is = 0 then 4 else if is = all then 1 else if is = 1 then 3 else 2
def asksC (c : Cfg) (nq : Nat) (fq : Nat → Int) (l : List AC) (cmd : Int) : Int := asksZ (insN c nq fq l) (allN c nq fq) cmd
def asksR (c : Cfg) (nq : Nat) (fq : Nat → Int) (l : List AC) (_ : List AV) : AV := .c (.v (.int .u8 (asksC c nq fq (l.take 8) (asI (l.getD 40 nov)))))
theorem mdAs (c : Cfg) (nq : Nat) (fq : Nat → Int) (v : Vw) (Q : VF → Prop) (H : let zt : List Bool → List Bool := fun l => true :: true :: true :: true :: true :: true :: true :: true :: l; let zu : List Bool → List Bool := fun l => zt (zt (zt (zt l))); let zq0 : List Bool := true :: true :: (netK c nq fq) :: (zu (zt (true :: true :: true :: true :: []))); let zq1 : List Bool := (decide (Vw.command v < Int.ofNat 0) == false) :: zq0; let zq2 : List Bool := ((Int.ofNat (insN c nq fq (inL v)) == Int.ofNat 0) == false) :: zq1; let zq3 : List Bool := ((Int.ofNat (insN c nq fq (inL v)) == Int.ofNat (allN c nq fq)) == false) :: zq2; (((decide (Vw.command v < Int.ofNat 0)) = true → Q (.c (.v (.int .u8 (Int.ofNat 4))), [], 1016, ((decide (Vw.command v < Int.ofNat 0) == true) :: zq0), [])) ∧ ((decide (Vw.command v < Int.ofNat 0)) = false → (((Int.ofNat (insN c nq fq (inL v)) == Int.ofNat 0) = true → Q (.c (.v (.int .u8 (Int.ofNat 4))), [], 1018, (((Int.ofNat (insN c nq fq (inL v)) == Int.ofNat 0) == true) :: zq1), [])) ∧ ((Int.ofNat (insN c nq fq (inL v)) == Int.ofNat 0) = false → (((Int.ofNat (insN c nq fq (inL v)) == Int.ofNat (allN c nq fq)) = true → Q (.c (.v (.int .u8 (Int.ofNat 1))), [], 1022, (((Int.ofNat (insN c nq fq (inL v)) == Int.ofNat (allN c nq fq)) == true) :: zq2), [])) ∧ ((Int.ofNat (insN c nq fq (inL v)) == Int.ofNat (allN c nq fq)) = false → (((Int.ofNat (insN c nq fq (inL v)) == Int.ofNat 1) = true → Q (.c (.v (.int .u8 (Int.ofNat 3))), [], 1025, (((Int.ofNat (insN c nq fq (inL v)) == Int.ofNat 1) == true) :: zq3), [])) ∧ ((Int.ofNat (insN c nq fq (inL v)) == Int.ofNat 1) = false → Q (.c (.v (.int .u8 (Int.ofNat 2))), [], 1025, (((Int.ofNat (insN c nq fq (inL v)) == Int.ofNat 1) == false) :: zq3), [])))))))))) :
 ∃ p r, vwE (ENas Tryz.prog) 181 c nq fq v [] p [] = some r ∧ Q r :=
 two H
 (fun g1 => ⟨pD 3 1, _, by kernel_rfl, g1⟩)
 (fun g1 => two g1
  (fun g2 => ⟨pD 3 11, _, by kernel_rfl, g2⟩)
  (fun g2 => two g2
   (fun g3 => ⟨pD 4 47, _, by kernel_rfl, g3⟩)
   (fun g3 => two g3
    (fun g4 => ⟨pD 5 155, _, by kernel_rfl, g4⟩)
    (fun g4 => ⟨pD 5 236, _, by kernel_rfl, g4⟩))))
end Go.Proofs.YtpgaplcdbbnblaaGreatDoor
end
/- modes.Asks, modes.Edge: their contracts. -/
section
namespace Go.Proofs.YtpgaplcdbbnblaaGreatDoor
open Go.RowKit
def ctAsks : CtF := ctRd netRd (rV asksR) (pV fun _ r => r.isEmpty)
theorem ct_asks : CtOk Tryz.prog 181 ctAsks := by
 refine ctVw_of (E := ENas Tryz.prog) hENas ⟨_, _, Tryz.func181, rfl⟩ (fun _ _ _ _ _ => rfl) fun c nq fq v r hr => ?_
 obtain rfl := List.isEmpty_iff.1 hr
 refine (?_ : (∃ p q, vwE (ENas Tryz.prog) 181 c nq fq v [] p [] = some q ∧ GoodF (asksR c nq fq (vwL v) []) q) → _) (mdAs c nq fq v _ ?_)
 · rintro ⟨p, q, h1, h2⟩
   exact ⟨p, _, q, h1, h2⟩
 · have hr : asksR c nq fq (vwL v) [] = .c (.v (.int .u8 (asksZ (insN c nq fq (inL v)) (allN c nq fq) v.command))) := rfl
   rw [hr]
   generalize insN c nq fq (inL v) = i
   generalize allN c nq fq = a
   (repeat' (first | refine ⟨fun h => ?_, fun h => ?_⟩ | fail))
   all_goals (refine ⟨?_, (by first | (unfold lim; omega) | (dsimp only; unfold lim; omega)), ?_, by simp⟩)
   all_goals (first | (simp_all [asksZ]; done) | (simp_all [asksZ]; omega) | (simp_all [allT, cfgK_t, netK_t, intsOk_ints, stsOk_sts, intsOk_s, stsOk_s, isVw_cells, inb_lit, inb_arr, Vw.len]; done) | (simp_all [allT, cfgK_t, netK_t, intsOk_ints, stsOk_sts, intsOk_s, stsOk_s, isVw_cells, inb_lit, inb_arr, Vw.len]; omega))
/-! modes.edges -/
abbrev edgeL : List Bool := [true, true, true, true, true, false, true, true, true, true, false, true, true, true, true, false, false, true, true, true, false, false, false, true, true]
def edgeB : ABlk := ⟨false, false, 233, 0, .lit (edgeL.map fun b => .v (.bool b))⟩
def mE : AMem := [(gid 0, edgeB)]
def edgeF (a b : Int) : Bool := decide (b < 5) && edgeL.getD ((if 5 ≤ a then 0 else a.toNat) * 5 + b.toNat) false
def edR (P : Program) (a b : Int) (path : List Dec) : Option VF := viewF [] (fCallF (E1 P) (fC (E1 P) 300) 53 [.c (.v (.int .u8 a)), .c (.v (.int .u8 b))] 1000 10000000000000000000000000000000000000000 (stA mE path []))
theorem ed (a b : Int) (Q : VF → Prop) (H : (((decide (a ≥ Int.ofNat 5)) = true → (((decide (b < Int.ofNat 5)) = true → Q (.c (.v (.bool (asB (List.getD [.v (.bool true), .v (.bool true), .v (.bool true), .v (.bool true), .v (.bool true), .v (.bool false), .v (.bool true), .v (.bool true), .v (.bool true), .v (.bool true), .v (.bool false), .v (.bool true), .v (.bool true), .v (.bool true), .v (.bool true), .v (.bool false), .v (.bool false), .v (.bool true), .v (.bool true), .v (.bool true), .v (.bool false), .v (.bool false), .v (.bool false), .v (.bool true), .v (.bool true)] (0 + Int.toNat b * 1) nov)))), [], 1014, [ABlk.inb (ABlk.mk false false 233 0 (Cs.lit [.v (.bool true), .v (.bool true), .v (.bool true), .v (.bool true), .v (.bool true), .v (.bool false), .v (.bool true), .v (.bool true), .v (.bool true), .v (.bool true), .v (.bool false), .v (.bool true), .v (.bool true), .v (.bool true), .v (.bool true), .v (.bool false), .v (.bool false), .v (.bool true), .v (.bool true), .v (.bool true), .v (.bool false), .v (.bool false), .v (.bool false), .v (.bool true), .v (.bool true)])) 0 (0 + Int.toNat b * 1 + 1), okl Kd.b (List.getD [.v (.bool true), .v (.bool true), .v (.bool true), .v (.bool true), .v (.bool true), .v (.bool false), .v (.bool true), .v (.bool true), .v (.bool true), .v (.bool true), .v (.bool false), .v (.bool true), .v (.bool true), .v (.bool true), .v (.bool true), .v (.bool false), .v (.bool false), .v (.bool true), .v (.bool true), .v (.bool true), .v (.bool false), .v (.bool false), .v (.bool false), .v (.bool true), .v (.bool true)] (0 + Int.toNat b * 1) nov), decide (Int.ofNat 0 ≤ b ∧ b < Int.ofNat 5), true, decide (b < Int.ofNat 5) == true, decide (a ≥ Int.ofNat 5) == true], [])) ∧ ((decide (b < Int.ofNat 5)) = false → Q (.c (.v (.bool false)), [], 1009, [decide (b < Int.ofNat 5) == false, decide (a ≥ Int.ofNat 5) == true], [])))) ∧ ((decide (a ≥ Int.ofNat 5)) = false → (((decide (b < Int.ofNat 5)) = true → Q (.c (.v (.bool (asB (List.getD [.v (.bool true), .v (.bool true), .v (.bool true), .v (.bool true), .v (.bool true), .v (.bool false), .v (.bool true), .v (.bool true), .v (.bool true), .v (.bool true), .v (.bool false), .v (.bool true), .v (.bool true), .v (.bool true), .v (.bool true), .v (.bool false), .v (.bool false), .v (.bool true), .v (.bool true), .v (.bool true), .v (.bool false), .v (.bool false), .v (.bool false), .v (.bool true), .v (.bool true)] (0 + Int.toNat a * 5 + Int.toNat b * 1) nov)))), [], 1013, [ABlk.inb (ABlk.mk false false 233 0 (Cs.lit [.v (.bool true), .v (.bool true), .v (.bool true), .v (.bool true), .v (.bool true), .v (.bool false), .v (.bool true), .v (.bool true), .v (.bool true), .v (.bool true), .v (.bool false), .v (.bool true), .v (.bool true), .v (.bool true), .v (.bool true), .v (.bool false), .v (.bool false), .v (.bool true), .v (.bool true), .v (.bool true), .v (.bool false), .v (.bool false), .v (.bool false), .v (.bool true), .v (.bool true)])) 0 (0 + Int.toNat a * 5 + Int.toNat b * 1 + 1), okl Kd.b (List.getD [.v (.bool true), .v (.bool true), .v (.bool true), .v (.bool true), .v (.bool true), .v (.bool false), .v (.bool true), .v (.bool true), .v (.bool true), .v (.bool true), .v (.bool false), .v (.bool true), .v (.bool true), .v (.bool true), .v (.bool true), .v (.bool false), .v (.bool false), .v (.bool true), .v (.bool true), .v (.bool true), .v (.bool false), .v (.bool false), .v (.bool false), .v (.bool true), .v (.bool true)] (0 + Int.toNat a * 5 + Int.toNat b * 1) nov), decide (Int.ofNat 0 ≤ b ∧ b < Int.ofNat 5), decide (Int.ofNat 0 ≤ a ∧ a < Int.ofNat 5), decide (b < Int.ofNat 5) == true, decide (a ≥ Int.ofNat 5) == false], [])) ∧ ((decide (b < Int.ofNat 5)) = false → Q (.c (.v (.bool false)), [], 1008, [decide (b < Int.ofNat 5) == false, decide (a ≥ Int.ofNat 5) == false], [])))))) :
 ∃ p r, edR Tryz.prog a b p = some r ∧ Q r :=
 two H
 (fun g1 => two g1
  (fun g2 => ⟨pD 6 4, _, by kernel_rfl, g2⟩)
  (fun g2 => ⟨pD 6 7, _, by kernel_rfl, g2⟩))
 (fun g1 => two g1
  (fun g2 => ⟨pD 6 5, _, by kernel_rfl, g2⟩)
  (fun g2 => ⟨pD 6 8, _, by kernel_rfl, g2⟩))
end Go.Proofs.YtpgaplcdbbnblaaGreatDoor
end
/- modes.Edge: its contract; modes.Next as the evaluator runs it. -/
section
namespace Go.Proofs.YtpgaplcdbbnblaaGreatDoor
open Go.RowKit
theorem edge_tab (a b : Nat) (ha : a < 5) (hb : b < 5) : asB (List.getD (edgeL.map fun b => AC.v (.bool b)) (a * 5 + b) nov) = edgeL.getD (a * 5 + b) false ∧ okl .b (List.getD (edgeL.map fun b => AC.v (.bool b)) (a * 5 + b) nov) = true := by
 have h : a * 5 + b < 25 := by omega
 generalize a * 5 + b = k at h
 match k, h with
 | 0, _ => exact ⟨rfl, rfl⟩
 | 1, _ => exact ⟨rfl, rfl⟩
 | 2, _ => exact ⟨rfl, rfl⟩
 | 3, _ => exact ⟨rfl, rfl⟩
 | 4, _ => exact ⟨rfl, rfl⟩
 | 5, _ => exact ⟨rfl, rfl⟩
 | 6, _ => exact ⟨rfl, rfl⟩
 | 7, _ => exact ⟨rfl, rfl⟩
 | 8, _ => exact ⟨rfl, rfl⟩
 | 9, _ => exact ⟨rfl, rfl⟩
 | 10, _ => exact ⟨rfl, rfl⟩
 | 11, _ => exact ⟨rfl, rfl⟩
 | 12, _ => exact ⟨rfl, rfl⟩
 | 13, _ => exact ⟨rfl, rfl⟩
 | 14, _ => exact ⟨rfl, rfl⟩
 | 15, _ => exact ⟨rfl, rfl⟩
 | 16, _ => exact ⟨rfl, rfl⟩
 | 17, _ => exact ⟨rfl, rfl⟩
 | 18, _ => exact ⟨rfl, rfl⟩
 | 19, _ => exact ⟨rfl, rfl⟩
 | 20, _ => exact ⟨rfl, rfl⟩
 | 21, _ => exact ⟨rfl, rfl⟩
 | 22, _ => exact ⟨rfl, rfl⟩
 | 23, _ => exact ⟨rfl, rfl⟩
 | 24, _ => exact ⟨rfl, rfl⟩
 | n + 25, h => exact absurd h (by omega)
def ctEdge : CtF := ctRd (pureRd mE (by kernel_rfl)) (fun | [.c (.v (.int .u8 a)), .c (.v (.int .u8 b))] => bo (edgeF a b) | _ => bo false) (fun | [.c (.v (.int .u8 a)), .c (.v (.int .u8 b))] => decide (0 ≤ a) && decide (0 ≤ b) | _ => false)
theorem edge_L : edgeL.map (fun b => AC.v (.bool b)) = [.v (.bool true), .v (.bool true), .v (.bool true), .v (.bool true), .v (.bool true), .v (.bool false), .v (.bool true), .v (.bool true), .v (.bool true), .v (.bool true), .v (.bool false), .v (.bool true), .v (.bool true), .v (.bool true), .v (.bool true), .v (.bool false), .v (.bool false), .v (.bool true), .v (.bool true), .v (.bool true), .v (.bool false), .v (.bool false), .v (.bool false), .v (.bool true), .v (.bool true)] := rfl
theorem ct_edge : CtOk Tryz.prog 53 ctEdge := by
 refine ctRd_ofE (E := E1 Tryz.prog) hE1 (pureRd mE (by kernel_rfl)) (fuel := 300) (str := 10000000000000000000000000000000000000000) ⟨_, _, Tryz.func53, rfl⟩ (fun s => by split <;> rfl) fun s hs => ?_
 split at hs
 · rename_i a b
   simp only [Bool.and_eq_true, decide_eq_true_eq] at hs
   obtain ⟨a0, b0⟩ := hs
   refine (?_ : (∃ p q, edR Tryz.prog a b p = some q ∧ GoodF (bo (edgeF a b)) q) → _) (ed a b _ ?_)
   · rintro ⟨p, q, h1, h2⟩
     exact ⟨p, _, q, h1, h2⟩
   · obtain ⟨x, rfl⟩ := Int.eq_ofNat_of_zero_le a0
     obtain ⟨y, rfl⟩ := Int.eq_ofNat_of_zero_le b0
     simp only [← edge_L]
     refine ⟨fun h1 => ⟨fun h2 => ?_, fun h2 => ?_⟩, fun h1 => ⟨fun h2 => ?_, fun h2 => ?_⟩⟩
     · have h1' : (5 : Int) ≤ (x : Int) := by simpa using h1
       have h2' : (y : Int) < 5 := by simpa using h2
       have e := edge_tab 0 y (by omega) (by omega)
       simp only [Nat.zero_mul] at e
       refine ⟨?_, (by first | (unfold lim; omega) | (dsimp only; unfold lim; omega)), ?_, by simp⟩
       · simp only [edgeF, Int.toNat_natCast, Nat.mul_one, e.1]
         simp [bo, h1', h2']
       · simp only [allT, List.forall_mem_cons, Int.toNat_natCast, Nat.mul_one, e.2]
         simp [inb_lit, h1', h2']
         omega
     · have h2' : ¬ (y : Int) < 5 := by simpa using h2
       refine ⟨by simp [bo, edgeF, h2'], (by first | (unfold lim; omega) | (dsimp only; unfold lim; omega)), by simp [allT, h1, h2]; simp at h1 h2; omega, by simp⟩
     · have h1' : ¬ (5 : Int) ≤ (x : Int) := by simpa using h1
       have h2' : (y : Int) < 5 := by simpa using h2
       have e := edge_tab x y (by omega) (by omega)
       refine ⟨?_, (by first | (unfold lim; omega) | (dsimp only; unfold lim; omega)), ?_, by simp⟩
       · simp only [edgeF, Int.toNat_natCast, Nat.mul_one, Nat.zero_add, e.1]
         simp [bo, h1', h2']
       · simp only [allT, List.forall_mem_cons, Int.toNat_natCast, Nat.mul_one, Nat.zero_add, e.2]
         simp [inb_lit, h1', h2']
         omega
     · have h2' : ¬ (y : Int) < 5 := by simpa using h2
       refine ⟨by simp [bo, edgeF, h2'], (by first | (unfold lim; omega) | (dsimp only; unfold lim; omega)), by simp [allT, h1, h2]; simp at h1 h2; omega, by simp⟩
 · cases hs
def mSE : AMem := mS ++ mE
def ENnx (P : Program) : Env := ⟨P, [(181, ctAsks), (53, ctEdge)]⟩
theorem hENnx : EnvOk (ENnx Tryz.prog) := by
 refine envOk (fun f g h => ?_) (by kernel_rfl) (by kernel_rfl)
 simp only [ENnx, List.mem_cons, Prod.mk.injEq, List.not_mem_nil, or_false] at h
 rcases h with ⟨rfl, rfl⟩ | ⟨rfl, rfl⟩
 · exact ct_asks
 · exact ct_edge
def nextZ (to mode : Int) : Int := if edgeF mode to = true then to else IntKind.wrap .u8 (mode - 1)
def nextR (c : Cfg) (nq : Nat) (fq : Nat → Int) (l : List AC) (_ : List AV) : AV := .c (.v (.int .u8 (nextZ (asksC c nq fq (l.take 8) (asI (l.getD 40 nov))) (asI (l.getD 41 nov)))))
def vwGE (G : AMem) (E : Env) (f : FuncId) (c : Cfg) (nq : Nat) (fq : Nat → Int) (v : Vw) (r : List AV) (path : List Dec) (lp : List (Option LSum)) : Option VF := viewF [] (fCallF E (fC E 300) f (.c (.ptr 5 0 0) :: .agg (vwL v) :: r) 1000 10000000000000000000000000000000000000000 (stA (G ++ netL c nq fq) path lp))
theorem mdNx (c : Cfg) (nq : Nat) (fq : Nat → Int) (v : Vw) (Q : VF → Prop) (H : (((edgeF (Vw.mode v) (asksC c nq fq (inL v) (Vw.command v))) = true → Q   (AV.c (AC.v (Value.int IntKind.u8 (asksC c nq fq (inL v) (Vw.command v)))), [], 1010,     [edgeF (Vw.mode v) (asksC c nq fq (inL v) (Vw.command v)) == true, true,       match [AV.c (AC.v (Value.int IntKind.u8 (Vw.mode v))), AV.c (AC.v (Value.int IntKind.u8 (asksC c nq fq (inL v) (Vw.command v))))] with       | [AV.c (AC.v (Value.int IntKind.u8 a)), AV.c (AC.v (Value.int IntKind.u8 b))] => decide (0 ≤ a) && decide (0 ≤ b)       | x => false,       true, true, netK c nq fq, true, true, true, true, true, true, true, true, true, true, true, true, true, true, true, true, true, true, true, true, true, true, true, true, true, true, true, true, true, true, true, true, true, true, true, true, true, true, true, true, true, true, true, true],     [])) ∧ ((edgeF (Vw.mode v) (asksC c nq fq (inL v) (Vw.command v))) = false → Q   (AV.c (AC.v (Value.int IntKind.u8 (IntKind.wrap IntKind.u8 (Vw.mode v - Int.ofNat 1)))), [], 1012,     [true, true, edgeF (Vw.mode v) (asksC c nq fq (inL v) (Vw.command v)) == false, true,       match [AV.c (AC.v (Value.int IntKind.u8 (Vw.mode v))), AV.c (AC.v (Value.int IntKind.u8 (asksC c nq fq (inL v) (Vw.command v))))] with       | [AV.c (AC.v (Value.int IntKind.u8 a)), AV.c (AC.v (Value.int IntKind.u8 b))] => decide (0 ≤ a) && decide (0 ≤ b)       | x => false,       true, true, netK c nq fq, true, true, true, true, true, true, true, true, true, true, true, true, true, true, true, true, true, true, true, true, true, true, true, true, true, true, true, true, true, true, true, true, true, true, true, true, true, true, true, true, true, true, true, true],     [])))) :
 ∃ p r, vwGE mSE (ENnx Tryz.prog) 110 c nq fq v [] p [] = some r ∧ Q r :=
 two H
 (fun g1 => ⟨pD 1 1, _, by kernel_rfl, g1⟩)
 (fun g1 => ⟨pD 1 2, _, by kernel_rfl, g1⟩)
end Go.Proofs.YtpgaplcdbbnblaaGreatDoor
end
/- modes.Next: its contract; layer 25's examples. -/
section
namespace Go.Proofs.YtpgaplcdbbnblaaGreatDoor
open Go.RowKit
def ctNext : CtF := ctRd (netRdG mSE (by kernel_rfl)) (rV nextR) (pV fun l r => r.isEmpty && decide (0 ≤ asI (l.getD 41 nov)))
theorem asksZ_pos (i a : Nat) (c : Int) : 1 ≤ asksZ i a c ∧ asksZ i a c ≤ 4 := by
 unfold asksZ
 repeat' split
 all_goals omega
theorem asksC_pos (c : Cfg) (nq : Nat) (fq : Nat → Int) (l : List AC) (cmd : Int) : 1 ≤ asksC c nq fq l cmd ∧ asksC c nq fq l cmd ≤ 4 := asksZ_pos _ _ _
theorem ct_nextM : CtOk Tryz.prog 110 ctNext := by
 refine ctVwG_of (G := mSE) (by kernel_rfl) (E := ENnx Tryz.prog) hENnx ⟨_, _, Tryz.func110, rfl⟩ (fun _ _ _ _ _ => rfl) fun c nq fq v r hr => ?_
 simp only [Bool.and_eq_true, decide_eq_true_eq] at hr
 obtain ⟨hr, h0⟩ := hr
 have h0 : 0 ≤ v.mode := h0
 obtain rfl := List.isEmpty_iff.1 hr
 refine (?_ : (∃ p q, vwGE mSE (ENnx Tryz.prog) 110 c nq fq v [] p [] = some q ∧ GoodF (nextR c nq fq (vwL v) []) q) → _) (mdNx c nq fq v _ ?_)
 · rintro ⟨p, q, h1, h2⟩
   exact ⟨p, _, q, h1, h2⟩
 · have hr : nextR c nq fq (vwL v) [] = .c (.v (.int .u8 (nextZ (asksC c nq fq (inL v) v.command) v.mode))) := rfl
   have ha := asksC_pos c nq fq (inL v) v.command
   rw [hr]
   generalize asksC c nq fq (inL v) v.command = a at *
   (repeat' (first | refine ⟨fun h => ?_, fun h => ?_⟩ | fail))
   all_goals (refine ⟨?_, (by first | (unfold lim; omega) | (dsimp only; unfold lim; omega)), ?_, by simp⟩)
   · simp [nextZ, h]
   · simp [allT, cfgK_t, netK_t, intsOk_ints, stsOk_sts, intsOk_s, stsOk_s, h, h0]; omega
   · simp [nextZ, h]
   · simp [allT, cfgK_t, netK_t, intsOk_ints, stsOk_sts, intsOk_s, stsOk_s, h, h0]; omega
end Go.Proofs.YtpgaplcdbbnblaaGreatDoor
end
/- What a net answers, Round, as the evaluator runs it. -/
section
namespace Go.Proofs.YtpgaplcdbbnblaaGreatDoor
open Go.RowKit
theorem nRound (c : Cfg) (nq : Nat) (fq : Nat → Int) (Q : VF → Prop) (H : (((!decide (↑nq > Int.ofNat 0)) = true → Q (.c (.v (.int .i64 (Int.ofNat 0))), [], 1016, [(!decide (↑nq > Int.ofNat 0)) == true, true], [])) ∧ ((!decide (↑nq > Int.ofNat 0)) = false → Q (.c (.v (.int .i64 (IntKind.wrap .i64 (↑(c.ns) * c.long)))), [], 130000000000000000000000000000000000001015, [true, true, true, (!decide (↑nq > Int.ofNat 0)) == false, true], [])))) :
 ∃ p r, netR Tryz.prog 72 c nq fq [] p = some r ∧ Q r :=
 two H
 (fun g1 => ⟨pD 7 729, _, by kernel_rfl, g1⟩)
 (fun g1 => ⟨pD 7 1458, _, by kernel_rfl, g1⟩)
end Go.Proofs.YtpgaplcdbbnblaaGreatDoor
end
/- Contract of what a net answers: Round. -/
section
namespace Go.Proofs.YtpgaplcdbbnblaaGreatDoor
open Go.RowKit
theorem ct_round : CtOk Tryz.prog 72 (ctNet (fun c nq _ _ => i64 (roundN c nq)) fun c nq fq zs => true && decide (zs.length = 0)) := by
 refine ctNet_of ⟨_, _, Tryz.func72, rfl⟩ (fun c nq fq zs => plain_i64 _) 0 fun c nq fq zs _ hz => ?_
 obtain rfl := List.length_eq_zero_iff.1 hz
 refine (?_ : (∃ p r, netR Tryz.prog 72 c nq fq [] p = some r ∧ (r.1 = i64 (roundN c nq) ∧ r.2.2.1 ≤ lim ∧ allT r.2.2.2.1 ∧ ∀ q ∈ r.2.2.2.2, q)) → _) (nRound c nq fq _ ?_)
 · rintro ⟨p, r, h1, h2⟩
   exact ⟨E1 Tryz.prog, 300, 10000000000000000000000000000000000000000, rfl, hE1, p, [], r, h1, h2⟩
 · refine ⟨fun h => ?_, fun h => ?_⟩
   · refine ⟨?_, (by first | (unfold lim; omega) | (dsimp only; unfold lim; omega)), ?_, by simp⟩
     · show i64 _ = i64 _
       simp at h
       simp [roundN, h]
     · simp at h
       simp [allT, h]
   · refine ⟨?_, (by first | (unfold lim; omega) | (dsimp only; unfold lim; omega)), ?_, by simp⟩
     · show i64 _ = i64 _
       simp at h
       unfold roundN
       rw [if_neg (by omega)]
     · simp at h
       simp [allT]
       omega
end Go.Proofs.YtpgaplcdbbnblaaGreatDoor
end
/- sennitref04.Within: contract; New's loops as the evaluator runs them. -/
section
namespace Go.Proofs.YtpgaplcdbbnblaaGreatDoor
open Go.RowKit
def wiR (P : Program) (x lo hi : Int) (path : List Dec) : Option VF := viewF [] (fCallF (E1 P) (fC (E1 P) 300) 65 [i64 x, i64 lo, i64 hi] 1000 10000000000000000000000000000000000000000 (stA [] path []))
theorem wi (x lo hi : Int) (Q : VF → Prop) (H : (((decide (x > hi)) = true → Q (.c (.v (.int .i64 (Int.ofNat 3))), [], 1005, [decide (x > hi) == true], [])) ∧ ((decide (x > hi)) = false → (((decide (x < lo)) = true → Q (.c (.v (.int .i64 (Int.ofNat 1))), [], 1008, [decide (x < lo) == true, decide (x > hi) == false], [])) ∧ ((decide (x < lo)) = false → Q (.c (.v (.int .i64 (Int.ofNat 0))), [], 1008, [decide (x < lo) == false, decide (x > hi) == false], [])))))) :
 ∃ p r, wiR Tryz.prog x lo hi p = some r ∧ Q r :=
 two H
 (fun g1 => ⟨pD 1 1, _, by kernel_rfl, g1⟩)
 (fun g1 => two g1
  (fun g2 => ⟨pD 2 5, _, by kernel_rfl, g2⟩)
  (fun g2 => ⟨pD 2 8, _, by kernel_rfl, g2⟩))
def ctWithin : CtF
 | [.c (.v (.int .i64 x)), .c (.v (.int .i64 lo)), .c (.v (.int .i64 hi))], _, _ => some (i64 (withinF x lo hi), [], 0, [])
 | _, _, _ => none
def ENq (P : Program) : Env := ⟨P, [(65, ctWithin), (66, ctCfg (fun c => bo (pairs4 c)) okPr), (67, ctCfg (fun c => bo (slots4 c)) okSl)]⟩
abbrev nbV (k : Nat) : List AV := [.c (.ptr 1000 0 0), i64 (Int.ofNat k)]
def nbR (P : Program) (c : Cfg) (k : Nat) (path : List Dec) : Option VC :=
 view ([1, 4] ++ [2]) [2, 1000, 3] (fC (ENq P) 300 (loopAt P 16 0) 1000000000000000000000000000000000000000000 10000000000000000000000000000000000000000 (stH 125 [1, 4] [2, 1000, 3] (nbV k) [ints 3 c.nb c.fb, cfgB c, sts c.nt c.ft] path []))
theorem nbt (c : Cfg) (k : Nat) (Q : VC → Prop) (H : let zz2 := (ABlk.mk false false 3 1 (Cs.arr (Cfg.nb c) fun k => List.map AC.v ((fun i => [Value.int IntKind.i64 (Cfg.fb c i)]) k))); let zz0 := [some zz2, some (ABlk.mk true false 25 0 (Cs.lit [AC.v (Value.int IntKind.i64 (Cfg.nodes c)), AC.sl 0 0 0 (Cfg.np c) none, AC.sl 1 0 0 (Cfg.ns c) none, AC.v (Value.int IntKind.i64 (Cfg.long c)), AC.sl 2 0 0 (Cfg.nb c) none, AC.sl 3 0 0 (Cfg.nt c) none, AC.v (Value.int IntKind.i64 (Cfg.miss c)), AC.v (Value.int IntKind.i64 (Cfg.good c)), AC.v (Value.int IntKind.i64 (Cfg.fresh c))])), some (ABlk.mk false false 161 3 (Cs.arr (Cfg.nt c) fun k => List.map AC.v ((fun i => [Value.int IntKind.i64 (Station.node (Cfg.ft c i)), Value.int IntKind.u32 (Station.safe (Cfg.ft c i)), Value.int IntKind.i64 (Station.hold (Cfg.ft c i))]) k)))]; let zz1 := (withinF (Cfg.fb c (0 + Int.toNat (Int.ofNat k))) (Int.ofNat 0) (Int.ofNat 4096) != Int.ofNat 0); let zq0 : List Bool := [true]; let zq1 : List Bool := (ABlk.inb zz2 (0 + Int.toNat (Int.ofNat k)) 1) :: true :: (decide (Int.ofNat 0 ≤ Int.ofNat k ∧ Int.ofNat k < ↑(c.nb))) :: true :: (decide (Int.ofNat k < ↑(c.nb)) == true) :: zq0; (((decide (Int.ofNat k < ↑(c.nb))) = true → ((zz1 = true → Q (Exit.ret, [some (lkA (List.zip [1, 4] (nbV k)) 1), some (lkA (List.zip [1, 4] (nbV k)) 4), some (.c (.v (.int .i64 (withinF (c.fb (0 + Int.toNat (Int.ofNat k))) (Int.ofNat 0) (Int.ofNat 4096)))))], zz0, 125, 1000000000000000000000000000000000000000015, ((zz1 == true) :: zq1), [])) ∧ (zz1 = false → Q (Exit.normal, [some (lkA (List.zip [1, 4] (nbV k)) 1), some (.c (.v (.int .i64 (IntKind.wrap .i64 (Int.ofNat k + Int.ofNat 1))))), some (lkA (List.zip [1, 4] (nbV k)) 2)], zz0, 125, 1000000000000000000000000000000000000000016, ((zz1 == false) :: zq1), [])))) ∧ ((decide (Int.ofNat k < ↑(c.nb))) = false → Q (Exit.exit 0, [some (lkA (List.zip [1, 4] (nbV k)) 1), some (lkA (List.zip [1, 4] (nbV k)) 4), some (lkA (List.zip [1, 4] (nbV k)) 2)], zz0, 125, 1000000000000000000000000000000000000000005, ((decide (Int.ofNat k < ↑(c.nb)) == false) :: zq0), [])))) :
 ∃ p r, nbR Tryz.prog c k p = some r ∧ Q r :=
 two H
 (fun g1 => two g1
  (fun g2 => ⟨pD 2 4, _, by kernel_rfl, g2⟩)
  (fun g2 => ⟨pD 2 7, _, by kernel_rfl, g2⟩))
 (fun g1 => ⟨pD 1 2, _, by kernel_rfl, g1⟩)
def ntR (P : Program) (c : Cfg) (k : Nat) (path : List Dec) : Option VC :=
 view ([1, 5] ++ [2]) [3, 1000] (fC (ENq P) 300 (loopAt P 16 1) 1000000000000000000000000000000000000000000000000000 10000000000000000000000000000000000000000 (stH 125 [1, 5] [3, 1000] (nbV k) [sts c.nt c.ft, cfgB c] path []))
theorem ntt (c : Cfg) (k : Nat) (Q : VC → Prop) (H : let zz1 := (ABlk.mk false false 161 3 (Cs.arr (Cfg.nt c) fun k => List.map AC.v ((fun i => [Value.int IntKind.i64 (Station.node (Cfg.ft c i)), Value.int IntKind.u32 (Station.safe (Cfg.ft c i)), Value.int IntKind.i64 (Station.hold (Cfg.ft c i))]) k))); let zz0 := [some zz1, some (ABlk.mk true false 25 0 (Cs.lit [AC.v (Value.int IntKind.i64 (Cfg.nodes c)), AC.sl 0 0 0 (Cfg.np c) none, AC.sl 1 0 0 (Cfg.ns c) none, AC.v (Value.int IntKind.i64 (Cfg.long c)), AC.sl 2 0 0 (Cfg.nb c) none, AC.sl 3 0 0 (Cfg.nt c) none, AC.v (Value.int IntKind.i64 (Cfg.miss c)), AC.v (Value.int IntKind.i64 (Cfg.good c)), AC.v (Value.int IntKind.i64 (Cfg.fresh c))]))]; let zz2 := (withinF (Station.hold (c.10 (0 + Int.toNat (Int.ofNat k)))) (Int.ofNat 1) (Int.ofNat 100) != Int.ofNat 0); let zz3 := (Station.node (c.10 (0 + Int.toNat (Int.ofNat k))) < Int.ofNat 0); let zz4 := (Station.node (c.10 (0 + Int.toNat (Int.ofNat k))) ≥ Cfg.nodes c); let zq0 : List Bool := [true]; let zq1 : List Bool := true :: true :: true :: (ABlk.inb zz1 (0 + Int.toNat (Int.ofNat k)) 3) :: true :: true :: true :: (decide (Int.ofNat 0 ≤ Int.ofNat k ∧ Int.ofNat k < ↑(c.nt))) :: true :: (decide (Int.ofNat k < ↑(c.nt)) == true) :: zq0; let zq2 : List Bool := true :: true :: true :: true :: (decide zz3 == false) :: zq1; let zq3 : List Bool := true :: true :: (decide zz4 == false) :: zq2; (((decide (Int.ofNat k < ↑(c.nt))) = true → (((decide zz3) = true → Q (Exit.ret, [some (lkA (List.zip [1, 5] (nbV k)) 1), some (lkA (List.zip [1, 5] (nbV k)) 5), some (.c (.v (.int .i64 (Int.ofNat 1))))], zz0, 125, 1000000000000000000000000000000000000000000000000018, ((decide zz3 == true) :: zq1), [])) ∧ ((decide zz3) = false → (((decide zz4) = true → Q (Exit.ret, [some (lkA (List.zip [1, 5] (nbV k)) 1), some (lkA (List.zip [1, 5] (nbV k)) 5), some (.c (.v (.int .i64 (Int.ofNat 1))))], zz0, 125, 1000000000000000000000000000000000000000000000000023, ((decide zz4 == true) :: zq2), [])) ∧ ((decide zz4) = false → ((zz2 = true → Q (Exit.ret, [some (lkA (List.zip [1, 5] (nbV k)) 1), some (lkA (List.zip [1, 5] (nbV k)) 5), some (.c (.v (.int .i64 (withinF (Station.hold (c.10 (0 + Int.toNat (Int.ofNat k)))) (Int.ofNat 1) (Int.ofNat 100)))))], zz0, 125, 1000000000000000000000000000000000000000000000000029, ((zz2 == true) :: zq3), [])) ∧ (zz2 = false → Q (Exit.normal, [some (lkA (List.zip [1, 5] (nbV k)) 1), some (.c (.v (.int .i64 (IntKind.wrap .i64 (Int.ofNat k + Int.ofNat 1))))), some (lkA (List.zip [1, 5] (nbV k)) 2)], zz0, 125, 1000000000000000000000000000000000000000000000000030, ((zz2 == false) :: zq3), [])))))))) ∧ ((decide (Int.ofNat k < ↑(c.nt))) = false → Q (Exit.exit 2, [some (lkA (List.zip [1, 5] (nbV k)) 1), some (lkA (List.zip [1, 5] (nbV k)) 5), some (lkA (List.zip [1, 5] (nbV k)) 2)], zz0, 125, 1000000000000000000000000000000000000000000000000005, ((decide (Int.ofNat k < ↑(c.nt)) == false) :: zq0), [])))) :
 ∃ p r, ntR Tryz.prog c k p = some r ∧ Q r :=
 two H
 (fun g1 => two g1
  (fun g2 => ⟨pD 7 4, _, by kernel_rfl, g2⟩)
  (fun g2 => two g2
   (fun g3 => ⟨pD 7 736, _, by kernel_rfl, g3⟩)
   (fun g3 => two g3
    (fun g4 => ⟨pD 8 3652, _, by kernel_rfl, g4⟩)
    (fun g4 => ⟨pD 8 5839, _, by kernel_rfl, g4⟩))))
 (fun g1 => ⟨pD 1 2, _, by kernel_rfl, g1⟩)
end Go.Proofs.YtpgaplcdbbnblaaGreatDoor
end
/- sennitref04.New as the evaluator runs it: a boot, or a station, is wrong. -/
section
namespace Go.Proofs.YtpgaplcdbbnblaaGreatDoor
open Go.RowKit
abbrev n4S1 (e : Exit) (l : List (Nat × AV)) (mF : AMem) : LSum := ⟨[1, 4], [2, 1000, 3], mkFr 125 l, mF, 100000000000000000000000000000000000000000000000000, e⟩
abbrev n4S2 (e : Exit) (l : List (Nat × AV)) (mF : AMem) : LSum := ⟨[1, 5], [3, 1000], mkFr 125 l, mF, 10000000000000000000000000000000000000000000000000000, e⟩
def n4R (P : Program) (c : Cfg) (lp : List (Option LSum)) (path : List Dec) : Option VF := viewF [] (fCallF (ENq P) (fC (ENq P) 300) 16 [.agg (cfgC c)] 1000 10000000000000000000000000000000000000000 (stA (cfgM c) path lp))
theorem n4A (c : Cfg) (v : Int) (Q : VF → Prop) (H : let zz0 := (if IntKind.wrap IntKind.i64 (Cfg.nodes c + Int.ofNat 116) > IntKind.wrap IntKind.i64 (IntKind.wrap IntKind.i64 (Int.ofNat 3 * Cfg.nodes c) + Int.ofNat 1) then IntKind.wrap IntKind.i64 (Cfg.nodes c + Int.ofNat 116) else IntKind.wrap IntKind.i64 (IntKind.wrap IntKind.i64 (Int.ofNat 3 * Cfg.nodes c) + Int.ofNat 1)); let zz1 := (withinF (Cfg.nodes c) (Int.ofNat 4) (Int.ofNat 16) != Int.ofNat 0); let zz2 := (withinF (↑(Cfg.np c)) (Int.ofNat 2) (Int.ofNat 8) != Int.ofNat 0); let zz3 := (withinF (↑(Cfg.ns c)) (Int.ofNat 1) (Int.ofNat 16) != Int.ofNat 0); let zz4 := (withinF (Cfg.long c) zz0 (Int.ofNat 4096) != Int.ofNat 0); let zq0 : List Bool := [true, true]; let zq1 : List Bool := true :: (zz1 == false) :: zq0; let zq2 : List Bool := (cfgK c) :: (okPr c) :: true :: true :: true :: true :: true :: true :: (zz2 == false) :: zq1; let zq3 : List Bool := true :: ((!pairs4 c) == false) :: zq2; let zq4 : List Bool := (cfgK c) :: (okSl c) :: true :: true :: true :: true :: true :: true :: (zz3 == false) :: zq3; let zq5 : List Bool := true :: true :: true :: true :: true :: true :: ((!slots4 c) == false) :: zq4; let zq6 : List Bool := true :: true :: true :: (zz4 == false) :: zq5; ((zz1 = true → Q (.c (.v (.int .i64 (withinF (c.nodes) (Int.ofNat 4) (Int.ofNat 16)))), [], 1009, ((zz1 == true) :: zq0), [])) ∧ (zz1 = false → ((zz2 = true → Q (.c (.v (.int .i64 (withinF (↑(c.np)) (Int.ofNat 2) (Int.ofNat 8)))), [], 1015, ((zz2 == true) :: zq1), [])) ∧ (zz2 = false → (((!pairs4 c) = true → Q (.c (.v (.int .i64 (Int.ofNat 1))), [], 1016, (((!pairs4 c) == true) :: zq2), [])) ∧ ((!pairs4 c) = false → ((zz3 = true → Q (.c (.v (.int .i64 (withinF (↑(c.ns)) (Int.ofNat 1) (Int.ofNat 16)))), [], 1023, ((zz3 == true) :: zq3), [])) ∧ (zz3 = false → (((!slots4 c) = true → Q (.c (.v (.int .i64 (Int.ofNat 1))), [], 1024, (((!slots4 c) == true) :: zq4), [])) ∧ ((!slots4 c) = false → ((zz4 = true → Q (.c (.v (.int .i64 (withinF (c.long) zz0 (Int.ofNat 4096)))), [], 1038, ((zz4 == true) :: zq5), [])) ∧ (zz4 = false → (((↑(c.nb) != c.nodes) = true → Q (.c (.v (.int .i64 (Int.ofNat 1))), [], 1043, (((↑(c.nb) != c.nodes) == true) :: zq6), [])) ∧ ((↑(c.nb) != c.nodes) = false → Q (.c (.v (.int .i64 v)), [], 100000000000000000000000000000000000000000000000000, (((↑(c.nb) != c.nodes) == false) :: zq6), [LoopV Tryz.prog (loopAt Tryz.prog 16 0) [1, 4] [2, 1000, 3] [some (.c (.ptr 1000 0 0)), some (.c (.v (.int .i64 (Int.ofNat 0))))] [some (ABlk.mk false false 3 1 (Cs.arr (c.nb) fun k => List.map AC.v ((fun i => [Value.int .i64 (c.fb i)]) k))), some (ABlk.mk true false 25 0 (Cs.lit [.v (.int .i64 (c.nodes)), AC.sl 0 0 0 (c.np) none, AC.sl 1 0 0 (c.ns) none, .v (.int .i64 (c.long)), AC.sl 2 0 0 (c.nb) none, AC.sl 3 0 0 (c.nt) none, .v (.int .i64 (c.miss)), .v (.int .i64 (c.good)), .v (.int .i64 (c.fresh))])), some (ABlk.mk false false 161 3 (Cs.arr (c.nt) fun k => List.map AC.v ((fun i => [Value.int .i64 (Station.node (c.ft i)), Value.int .u32 (Station.safe (c.ft i)), Value.int .i64 (Station.hold (c.ft i))]) k)))] 125 1043 (mkFr 125 [(2, i64 v)]) [] 100000000000000000000000000000000000000000000000000 Exit.ret none])))))))))))))))) :
 ∃ p r, n4R Tryz.prog c [some (n4S1 .ret [(2, i64 v)] [])] p = some r ∧ Q r :=
 two H
 (fun g1 => ⟨pD 1 1, _, by kernel_rfl, g1⟩)
 (fun g1 => two g1
  (fun g2 => ⟨pD 2 5, _, by kernel_rfl, g2⟩)
  (fun g2 => two g2
   (fun g3 => ⟨pD 3 17, _, by kernel_rfl, g3⟩)
   (fun g3 => two g3
    (fun g4 => ⟨pD 4 53, _, by kernel_rfl, g4⟩)
    (fun g4 => two g4
     (fun g5 => ⟨pD 5 161, _, by kernel_rfl, g5⟩)
     (fun g5 => two g5
      (fun g6 => ⟨pD 6 485, _, by kernel_rfl, g6⟩)
      (fun g6 => two g6
       (fun g7 => ⟨pD 7 1457, _, by kernel_rfl, g7⟩)
       (fun g7 => ⟨pD 7 2186, _, by kernel_rfl, g7⟩)))))))
theorem n4B (c : Cfg) (v : Int) (Q : VF → Prop) (H : let zz0 := (if IntKind.wrap IntKind.i64 (Cfg.nodes c + Int.ofNat 116) > IntKind.wrap IntKind.i64 (IntKind.wrap IntKind.i64 (Int.ofNat 3 * Cfg.nodes c) + Int.ofNat 1) then IntKind.wrap IntKind.i64 (Cfg.nodes c + Int.ofNat 116) else IntKind.wrap IntKind.i64 (IntKind.wrap IntKind.i64 (Int.ofNat 3 * Cfg.nodes c) + Int.ofNat 1)); let zz5 := (ABlk.mk true false 25 0 (Cs.lit [AC.v (Value.int IntKind.i64 (Cfg.nodes c)), AC.sl 0 0 0 (Cfg.np c) none, AC.sl 1 0 0 (Cfg.ns c) none, AC.v (Value.int IntKind.i64 (Cfg.long c)), AC.sl 2 0 0 (Cfg.nb c) none, AC.sl 3 0 0 (Cfg.nt c) none, AC.v (Value.int IntKind.i64 (Cfg.miss c)), AC.v (Value.int IntKind.i64 (Cfg.good c)), AC.v (Value.int IntKind.i64 (Cfg.fresh c))])); let zz7 := (ABlk.mk false false 161 3 (Cs.arr (Cfg.nt c) fun k => List.map AC.v ((fun i => [Value.int IntKind.i64 (Station.node (Cfg.ft c i)), Value.int IntKind.u32 (Station.safe (Cfg.ft c i)), Value.int IntKind.i64 (Station.hold (Cfg.ft c i))]) k))); let zz1 := [some (ABlk.mk false false 3 1 (Cs.arr (Cfg.nb c) fun k => List.map AC.v ((fun i => [Value.int IntKind.i64 (Cfg.fb c i)]) k))), some zz5, some zz7]; let zz2 := (withinF (Cfg.nodes c) (Int.ofNat 4) (Int.ofNat 16) != Int.ofNat 0); let zz3 := (withinF (↑(Cfg.np c)) (Int.ofNat 2) (Int.ofNat 8) != Int.ofNat 0); let zz4 := (withinF (↑(Cfg.ns c)) (Int.ofNat 1) (Int.ofNat 16) != Int.ofNat 0); let zz6 := (withinF (Cfg.long c) zz0 (Int.ofNat 4096) != Int.ofNat 0); let zz8 := (withinF (↑(Cfg.nt c)) (Int.ofNat 0) (Int.ofNat 8) != Int.ofNat 0); let zq0 : List Bool := [true, true]; let zq1 : List Bool := true :: (zz2 == false) :: zq0; let zq2 : List Bool := (cfgK c) :: (okPr c) :: true :: true :: true :: true :: true :: true :: (zz3 == false) :: zq1; let zq3 : List Bool := true :: ((!pairs4 c) == false) :: zq2; let zq4 : List Bool := (cfgK c) :: (okSl c) :: true :: true :: true :: true :: true :: true :: (zz4 == false) :: zq3; let zq5 : List Bool := true :: true :: true :: true :: true :: true :: ((!slots4 c) == false) :: zq4; let zq6 : List Bool := true :: true :: true :: (zz6 == false) :: zq5; let zq7 : List Bool := true :: ((↑(c.nb) != c.nodes) == false) :: zq6; ((zz2 = true → Q (.c (.v (.int .i64 (withinF (c.nodes) (Int.ofNat 4) (Int.ofNat 16)))), [], 1009, ((zz2 == true) :: zq0), [])) ∧ (zz2 = false → ((zz3 = true → Q (.c (.v (.int .i64 (withinF (↑(c.np)) (Int.ofNat 2) (Int.ofNat 8)))), [], 1015, ((zz3 == true) :: zq1), [])) ∧ (zz3 = false → (((!pairs4 c) = true → Q (.c (.v (.int .i64 (Int.ofNat 1))), [], 1016, (((!pairs4 c) == true) :: zq2), [])) ∧ ((!pairs4 c) = false → ((zz4 = true → Q (.c (.v (.int .i64 (withinF (↑(c.ns)) (Int.ofNat 1) (Int.ofNat 16)))), [], 1023, ((zz4 == true) :: zq3), [])) ∧ (zz4 = false → (((!slots4 c) = true → Q (.c (.v (.int .i64 (Int.ofNat 1))), [], 1024, (((!slots4 c) == true) :: zq4), [])) ∧ ((!slots4 c) = false → ((zz6 = true → Q (.c (.v (.int .i64 (withinF (c.long) zz0 (Int.ofNat 4096)))), [], 1038, ((zz6 == true) :: zq5), [])) ∧ (zz6 = false → (((↑(c.nb) != c.nodes) = true → Q (.c (.v (.int .i64 (Int.ofNat 1))), [], 1043, (((↑(c.nb) != c.nodes) == true) :: zq6), [])) ∧ ((↑(c.nb) != c.nodes) = false → ((zz8 = true → Q (.c (.v (.int .i64 (withinF (↑(c.nt)) (Int.ofNat 0) (Int.ofNat 8)))), [], 100000000000000000000000000000000000000000000000008, ((zz8 == true) :: zq7), [LoopV Tryz.prog (loopAt Tryz.prog 16 0) [1, 4] [2, 1000, 3] [some (.c (.ptr 1000 0 0)), some (.c (.v (.int .i64 (Int.ofNat 0))))] zz1 125 1043 (mkFr 125 [(1, .c (.ptr 1000 0 0))]) [(1000, cfgB c), (3, sts (c.nt) (c.ft))] 100000000000000000000000000000000000000000000000000 (Exit.exit 0) none])) ∧ (zz8 = false → Q (.c (.v (.int .i64 v)), [], 10000000000000000000000000000000000000000000000000000, ((zz8 == false) :: zq7), [LoopV Tryz.prog (loopAt Tryz.prog 16 1) [1, 5] [3, 1000] [some (.c (.ptr 1000 0 0)), some (.c (.v (.int .i64 (Int.ofNat 0))))] [some zz7, some zz5] 125 100000000000000000000000000000000000000000000000007 (mkFr 125 [(2, i64 v)]) [] 10000000000000000000000000000000000000000000000000000 Exit.ret none, LoopV Tryz.prog (loopAt Tryz.prog 16 0) [1, 4] [2, 1000, 3] [some (.c (.ptr 1000 0 0)), some (.c (.v (.int .i64 (Int.ofNat 0))))] zz1 125 1043 (mkFr 125 [(1, .c (.ptr 1000 0 0))]) [(1000, cfgB c), (3, sts (c.nt) (c.ft))] 100000000000000000000000000000000000000000000000000 (Exit.exit 0) none])))))))))))))))))) :
 ∃ p r, n4R Tryz.prog c [some (n4S1 (.exit 0) [(1, .c (.ptr 1000 0 0))] [(1000, cfgB c), (3, sts c.nt c.ft)]), some (n4S2 .ret [(2, i64 v)] [])] p = some r ∧ Q r :=
 two H
 (fun g1 => ⟨pD 1 1, _, by kernel_rfl, g1⟩)
 (fun g1 => two g1
  (fun g2 => ⟨pD 2 5, _, by kernel_rfl, g2⟩)
  (fun g2 => two g2
   (fun g3 => ⟨pD 3 17, _, by kernel_rfl, g3⟩)
   (fun g3 => two g3
    (fun g4 => ⟨pD 4 53, _, by kernel_rfl, g4⟩)
    (fun g4 => two g4
     (fun g5 => ⟨pD 5 161, _, by kernel_rfl, g5⟩)
     (fun g5 => two g5
      (fun g6 => ⟨pD 6 485, _, by kernel_rfl, g6⟩)
      (fun g6 => two g6
       (fun g7 => ⟨pD 7 1457, _, by kernel_rfl, g7⟩)
       (fun g7 => two g7
        (fun g8 => ⟨pD 8 4373, _, by kernel_rfl, g8⟩)
        (fun g8 => ⟨pD 8 6560, _, by kernel_rfl, g8⟩))))))))
end Go.Proofs.YtpgaplcdbbnblaaGreatDoor
end
/- sennitref04.New as the evaluator runs it: neither. -/
section
namespace Go.Proofs.YtpgaplcdbbnblaaGreatDoor
open Go.RowKit
theorem n4C (c : Cfg) (Q : VF → Prop) (H : let zz11 := (ABlk.mk false false 161 3 (Cs.arr (Cfg.nt c) fun k => List.map AC.v ((fun i => [Value.int IntKind.i64 (Station.node (Cfg.ft c i)), Value.int IntKind.u32 (Station.safe (Cfg.ft c i)), Value.int IntKind.i64 (Station.hold (Cfg.ft c i))]) k))); let zz6 := (ABlk.mk true false 25 0 (Cs.lit [AC.v (Value.int IntKind.i64 (Cfg.nodes c)), AC.sl 0 0 0 (Cfg.np c) none, AC.sl 1 0 0 (Cfg.ns c) none, AC.v (Value.int IntKind.i64 (Cfg.long c)), AC.sl 2 0 0 (Cfg.nb c) none, AC.sl 3 0 0 (Cfg.nt c) none, AC.v (Value.int IntKind.i64 (Cfg.miss c)), AC.v (Value.int IntKind.i64 (Cfg.good c)), AC.v (Value.int IntKind.i64 (Cfg.fresh c))])); let zz3 := [some (ABlk.mk false false 3 1 (Cs.arr (Cfg.nb c) fun k => List.map AC.v ((fun i => [Value.int IntKind.i64 (Cfg.fb c i)]) k))), some zz6, some zz11]; let zz0 := [LoopV Tryz.prog (loopAt Tryz.prog 16 1) [1, 5] [3, 1000] [some (AV.c (AC.ptr 1000 0 0)), some (AV.c (AC.v (Value.int IntKind.i64 (Int.ofNat 0))))] [some zz11, some zz6] 125 100000000000000000000000000000000000000000000000007 (mkFr 125 [(1, AV.c (AC.ptr 1000 0 0))]) [(1000, cfgB c)] 10000000000000000000000000000000000000000000000000000 (Exit.exit 2) none, LoopV Tryz.prog (loopAt Tryz.prog 16 0) [1, 4] [2, 1000, 3] [some (AV.c (AC.ptr 1000 0 0)), some (AV.c (AC.v (Value.int IntKind.i64 (Int.ofNat 0))))] zz3 125 1043 (mkFr 125 [(1, AV.c (AC.ptr 1000 0 0))]) [(1000, cfgB c), (3, sts (Cfg.nt c) (Cfg.ft c))] 100000000000000000000000000000000000000000000000000 (Exit.exit 0) none]; let zz8 := (if IntKind.wrap IntKind.i64 (Cfg.nodes c + Int.ofNat 116) > IntKind.wrap IntKind.i64 (IntKind.wrap IntKind.i64 (Int.ofNat 3 * Cfg.nodes c) + Int.ofNat 1) then IntKind.wrap IntKind.i64 (Cfg.nodes c + Int.ofNat 116) else IntKind.wrap IntKind.i64 (IntKind.wrap IntKind.i64 (Int.ofNat 3 * Cfg.nodes c) + Int.ofNat 1)); let zz1 := (withinF (Cfg.long c) zz8 (Int.ofNat 4096) != Int.ofNat 0); let zz2 := (withinF (Cfg.nodes c) (Int.ofNat 4) (Int.ofNat 16) != Int.ofNat 0); let zz4 := (withinF (↑(Cfg.np c)) (Int.ofNat 2) (Int.ofNat 8) != Int.ofNat 0); let zz5 := (withinF (↑(Cfg.ns c)) (Int.ofNat 1) (Int.ofNat 16) != Int.ofNat 0); let zz7 := (withinF (↑(Cfg.nt c)) (Int.ofNat 0) (Int.ofNat 8) != Int.ofNat 0); let zz9 := (withinF (Cfg.miss c) (Int.ofNat 1) (Int.ofNat 100) != Int.ofNat 0); let zz10 := (withinF (Cfg.good c) (Int.ofNat 1) (Int.ofNat 100) != Int.ofNat 0); let zz12 := (withinF (Cfg.fresh c) (Int.ofNat 1) (Int.ofNat 100) != Int.ofNat 0); let zt : List Bool → List Bool := fun l => true :: true :: true :: true :: true :: true :: true :: true :: l; let zq0 : List Bool := [true, true]; let zq1 : List Bool := true :: (zz2 == false) :: zq0; let zq2 : List Bool := (cfgK c) :: (okPr c) :: true :: true :: true :: true :: true :: true :: (zz4 == false) :: zq1; let zq3 : List Bool := true :: ((!pairs4 c) == false) :: zq2; let zq4 : List Bool := (cfgK c) :: (okSl c) :: true :: true :: true :: true :: true :: true :: (zz5 == false) :: zq3; let zq5 : List Bool := true :: true :: true :: true :: true :: true :: ((!slots4 c) == false) :: zq4; let zq6 : List Bool := true :: true :: true :: (zz1 == false) :: zq5; let zq7 : List Bool := true :: ((↑(c.nb) != c.nodes) == false) :: zq6; let zq8 : List Bool := zt (true :: ((zz7 == false) :: zq7)); let zq9 : List Bool := true :: true :: true :: (zz9 == false) :: zq8; let zq10 : List Bool := true :: true :: true :: (zz10 == false) :: zq9; ((zz2 = true → Q (.c (.v (.int .i64 (withinF (c.nodes) (Int.ofNat 4) (Int.ofNat 16)))), [], 1009, ((zz2 == true) :: zq0), [])) ∧ (zz2 = false → ((zz4 = true → Q (.c (.v (.int .i64 (withinF (↑(c.np)) (Int.ofNat 2) (Int.ofNat 8)))), [], 1015, ((zz4 == true) :: zq1), [])) ∧ (zz4 = false → (((!pairs4 c) = true → Q (.c (.v (.int .i64 (Int.ofNat 1))), [], 1016, (((!pairs4 c) == true) :: zq2), [])) ∧ ((!pairs4 c) = false → ((zz5 = true → Q (.c (.v (.int .i64 (withinF (↑(c.ns)) (Int.ofNat 1) (Int.ofNat 16)))), [], 1023, ((zz5 == true) :: zq3), [])) ∧ (zz5 = false → (((!slots4 c) = true → Q (.c (.v (.int .i64 (Int.ofNat 1))), [], 1024, (((!slots4 c) == true) :: zq4), [])) ∧ ((!slots4 c) = false → ((zz1 = true → Q (.c (.v (.int .i64 (withinF (c.long) zz8 (Int.ofNat 4096)))), [], 1038, ((zz1 == true) :: zq5), [])) ∧ (zz1 = false → (((↑(c.nb) != c.nodes) = true → Q (.c (.v (.int .i64 (Int.ofNat 1))), [], 1043, (((↑(c.nb) != c.nodes) == true) :: zq6), [])) ∧ ((↑(c.nb) != c.nodes) = false → ((zz7 = true → Q (.c (.v (.int .i64 (withinF (↑(c.nt)) (Int.ofNat 0) (Int.ofNat 8)))), [], 100000000000000000000000000000000000000000000000008, ((zz7 == true) :: zq7), [LoopV Tryz.prog (loopAt Tryz.prog 16 0) [1, 4] [2, 1000, 3] [some (.c (.ptr 1000 0 0)), some (.c (.v (.int .i64 (Int.ofNat 0))))] zz3 125 1043 (mkFr 125 [(1, .c (.ptr 1000 0 0))]) [(1000, cfgB c), (3, sts (c.nt) (c.ft))] 100000000000000000000000000000000000000000000000000 (Exit.exit 0) none])) ∧ (zz7 = false → ((zz9 = true → Q (.c (.v (.int .i64 (withinF (c.miss) (Int.ofNat 1) (Int.ofNat 100)))), [], 10000000000000000000000000000000000000000000000000020, ((zz9 == true) :: zq8), zz0)) ∧ (zz9 = false → ((zz10 = true → Q (.c (.v (.int .i64 (withinF (c.good) (Int.ofNat 1) (Int.ofNat 100)))), [], 10000000000000000000000000000000000000000000000000032, ((zz10 == true) :: zq9), zz0)) ∧ (zz10 = false → ((zz12 = true → Q (.c (.v (.int .i64 (withinF (c.fresh) (Int.ofNat 1) (Int.ofNat 100)))), [], 10000000000000000000000000000000000000000000000000044, ((zz12 == true) :: zq10), zz0)) ∧ (zz12 = false → Q (.c (.v (.int .i64 (Int.ofNat 0))), [], 10000000000000000000000000000000000000000000000000048, ((zz12 == false) :: zq10), zz0)))))))))))))))))))))))) :
 ∃ p r, n4R Tryz.prog c [some (n4S1 (.exit 0) [(1, .c (.ptr 1000 0 0))] [(1000, cfgB c), (3, sts c.nt c.ft)]), some (n4S2 (.exit 2) [(1, .c (.ptr 1000 0 0))] [(1000, cfgB c)])] p = some r ∧ Q r :=
 two H
 (fun g1 => ⟨pD 1 1, _, by kernel_rfl, g1⟩)
 (fun g1 => two g1
  (fun g2 => ⟨pD 2 5, _, by kernel_rfl, g2⟩)
  (fun g2 => two g2
   (fun g3 => ⟨pD 3 17, _, by kernel_rfl, g3⟩)
   (fun g3 => two g3
    (fun g4 => ⟨pD 4 53, _, by kernel_rfl, g4⟩)
    (fun g4 => two g4
     (fun g5 => ⟨pD 5 161, _, by kernel_rfl, g5⟩)
     (fun g5 => two g5
      (fun g6 => ⟨pD 6 485, _, by kernel_rfl, g6⟩)
      (fun g6 => two g6
       (fun g7 => ⟨pD 7 1457, _, by kernel_rfl, g7⟩)
       (fun g7 => two g7
        (fun g8 => ⟨pD 8 4373, _, by kernel_rfl, g8⟩)
        (fun g8 => two g8
         (fun g9 => ⟨pD 10 26243, _, by kernel_rfl, g9⟩)
         (fun g9 => two g9
          (fun g10 => ⟨pD 12 223073, _, by kernel_rfl, g10⟩)
          (fun g10 => two g10
           (fun g11 => ⟨pD 14 1994543, _, by kernel_rfl, g11⟩)
           (fun g11 => ⟨pD 15 3588866, _, by kernel_rfl, g11⟩)))))))))))
end Go.Proofs.YtpgaplcdbbnblaaGreatDoor
end
/- sennitref04.New: its loops' sums. -/
section
namespace Go.Proofs.YtpgaplcdbbnblaaGreatDoor
open Go.RowKit
theorem ct_within : CtOk Tryz.prog 65 ctWithin := by
 refine ⟨⟨_, _, Tryz.func65, rfl⟩, fun C β m m2 w args ib r news k' ob vs hct ho hs hr hfree hlim hv => ?_⟩
 unfold ctWithin at hct
 split at hct
 · rename_i x lo hi
   simp only [Option.some.injEq, Prod.mk.injEq] at hct
   obtain ⟨rfl, rfl, rfl, rfl⟩ := hct
   cases hv
   have run : ∃ p r, wiR Tryz.prog x lo hi p = some r ∧ (r.1 = i64 (withinF x lo hi) ∧ r.2.2.1 ≤ lim ∧ allT r.2.2.2.1 ∧ ∀ q ∈ r.2.2.2.2, q) := by
    refine wi x lo hi _ ?_
    repeat' (first | refine ⟨fun h => ?_, fun h => ?_⟩ | fail)
    all_goals (refine ⟨?_, (by first | (unfold lim; omega) | (dsimp only; unfold lim; omega)), ?_, by simp⟩)
    all_goals (simp_all [allT, withinF, i64])
    all_goals (try omega)
    all_goals (rw [if_neg (by omega), if_neg (by omega)])
   obtain ⟨p, ⟨v, b', n', ob, po⟩, hrun, hvr, hn, hob, hpo⟩ := run
   obtain ⟨s', r1, r2, r3, r4⟩ := viewF_out hrun
   have hn : n' ≤ lim := hn
   refine (calls_f hE1 r1 ⟨by rw [r3]; exact hob, by rw [r4]; exact hpo⟩ (C := loneC w) (β := fun _ => none) (w := w) (vs := [.int .i64 x, .int .i64 lo, .int .i64 hi]) rfl (rel_nil w) (fun _ _ _ => rfl)).mono ?_
   rintro e w' ⟨β', u, rfl, _, _, hu, hr'⟩
   simp only at hvr
   subst hvr
   cases hu
   exact ⟨β, _, rfl, Ext.refl _, fun _ _ => rfl, rfl, by rw [List.append_nil]; exact hr.below (below_lone hr')⟩
 · cases hct
theorem hENq : EnvOk (ENq Tryz.prog) := by
 refine envOk (fun f g h => ?_) (by kernel_rfl) (by kernel_rfl)
 simp only [ENq, List.mem_cons, Prod.mk.injEq, List.not_mem_nil, or_false] at h
 rcases h with ⟨rfl, rfl⟩ | ⟨rfl, rfl⟩ | ⟨rfl, rfl⟩
 · exact ct_within
 · exact ct_pairs4
 · exact ct_slots4
theorem nb_sum (c : Cfg) (N : Nat) (hN : 1001 ≤ N) (hN2 : N ≤ 1000000000000000000000000000000000000000000) (hn : c.nb ≤ 1000000) (j : Nat) (hj : j ≤ c.nb) (hmin : ∀ i, i < j → withinF (c.fb i) 0 4096 = 0) (hyes : j < c.nb → withinF (c.fb j) 0 4096 ≠ 0) {e : Exit} {out : List (Nat × AV)} {mF : AMem}
 (hF : (j < c.nb → e = .ret ∧ out = [(2, i64 (withinF (c.fb j) 0 4096))] ∧ mF = []) ∧ (j = c.nb → e = .exit 0 ∧ out = [(1, .c (.ptr 1000 0 0))] ∧ mF = [(1000, cfgB c), (3, sts c.nt c.ft)])) :
 LoopV Tryz.prog (loopAt Tryz.prog 16 0) [1, 4] [2, 1000, 3] ((nbV 0).map some) ([ints 3 c.nb c.fb, cfgB c, sts c.nt c.ft].map some) 125 N (mkFr 125 out) mF 100000000000000000000000000000000000000000000000000 e none := by
 refine scan_ob hENq (fuel := 300) (str := 10000000000000000000000000000000000000000) (nh := 1000000000000000000000000000000000000000000) [1, 4] [2] [2, 1000, 3] nbV [ints 3 c.nb c.fb, cfgB c, sts c.nt c.ft] j hN2 (by decide) (by unfold lim; omega) ?_ (fun _ => ⟨rfl, rfl⟩) ?_ ?_ ?_ ?_ ?_
 · rcases Nat.lt_or_ge j c.nb with h | h
   · rw [(hF.1 h).1]; simp
   · rw [(hF.2 (by omega)).1]; simp
 · simp [keptB]; omega
 · intro k _
   simp [okV, lowV, lowC, notAny, i64]; omega
 · intro b hb
   simp only [List.mem_cons, List.not_mem_nil, or_false] at hb
   rcases hb with rfl | rfl | rfl
   · exact ints_low
   · exact cfgB_low (by omega)
   · exact rBlk_low
 · intro k hk
   have hm := hmin k hk
   have hw : IntKind.wrap IntKind.i64 (Int.ofNat k + Int.ofNat 1) = Int.ofNat (k + 1) := by rw [wrap_nat _ (by simp; omega) (by simp; omega)]; rfl
   have ek : 0 + Int.toNat (Int.ofNat k) = k := by simp
   refine nbt c k _ ?_
   simp only [ek]
   refine ⟨fun c1 => ⟨fun c2 => ?_, fun c2 => ?_⟩, fun c1 => ?_⟩
   · exfalso; simp [hm] at c2
   · refine ⟨⟨?_, rfl, by dsimp only; omega, rfl⟩, rfl, ?_, BL.refl _⟩
     · simp only [allT, List.forall_mem_cons, inb_arr, inb_lit]
       simp [hm]; omega
     · dsimp only; rw [hw]; rfl
   · exfalso; simp at c1; omega
 · have ek : 0 + Int.toNat (Int.ofNat j) = j := by simp
   refine nbt c j _ ?_
   simp only [ek]
   refine ⟨fun c1 => ⟨fun c2 => ?_, fun c2 => ?_⟩, fun c1 => ?_⟩
   · have hlt : j < c.nb := by simpa using c1
     obtain ⟨rfl, rfl, rfl⟩ := hF.1 hlt
     refine EndV_one ⟨?_, rfl, by dsimp only; omega, rfl⟩ rfl rfl (by simp [i64])
     have hy := hyes hlt
     simp [allT, inb_arr, inb_lit, hlt, hy]
   · have hlt : j < c.nb := by simpa using c1
     exfalso
     simp [hyes hlt] at c2
   · have hlt : ¬ j < c.nb := by simpa using c1
     obtain ⟨rfl, rfl, rfl⟩ := hF.2 (by omega)
     refine ⟨⟨?_, rfl, by dsimp only; omega, rfl⟩, rfl, fun q hq => ?_, fun p hpp => ?_⟩
     · simp [allT]; omega
     · rw [List.mem_singleton.1 hq]
       exact ⟨by simp [okV, lowV, lowC, notAny]; omega, by simp [lkA]⟩
     · simp only [List.mem_cons, List.not_mem_nil, or_false] at hpp
       rcases hpp with rfl | rfl
       · exact ⟨by simp [keptB]; omega, cfgB_low (by omega), cfgB c, by dsimp only [List.zip, List.zipWith]; exact List.mem_cons_of_mem _ (List.mem_cons_self ..), BEq.refl _⟩
       · exact ⟨by simp [keptB]; omega, rBlk_low, sts c.nt c.ft, by dsimp only [List.zip, List.zipWith]; exact List.mem_cons_of_mem _ (List.mem_cons_of_mem _ (List.mem_cons_self ..)), BEq.refl _⟩
theorem nt_sum (c : Cfg) (N : Nat) (hN : 1001 ≤ N) (hN2 : N ≤ 1000000000000000000000000000000000000000000000000000) (hn : c.nt ≤ 1000000) (j : Nat) (hj : j ≤ c.nt) (hmin : ∀ i, i < j → ruleSt c i = 0) (hyes : j < c.nt → ruleSt c j ≠ 0) {e : Exit} {out : List (Nat × AV)} {mF : AMem}
 (hF : (j < c.nt → e = .ret ∧ out = [(2, i64 (ruleSt c j))] ∧ mF = []) ∧ (j = c.nt → e = .exit 2 ∧ out = [(1, .c (.ptr 1000 0 0))] ∧ mF = [(1000, cfgB c)])) :
 LoopV Tryz.prog (loopAt Tryz.prog 16 1) [1, 5] [3, 1000] ((nbV 0).map some) ([sts c.nt c.ft, cfgB c].map some) 125 N (mkFr 125 out) mF 10000000000000000000000000000000000000000000000000000 e none := by
 refine scan_ob hENq (fuel := 300) (str := 10000000000000000000000000000000000000000) (nh := 1000000000000000000000000000000000000000000000000000) [1, 5] [2] [3, 1000] nbV [sts c.nt c.ft, cfgB c] j hN2 (by decide) (by unfold lim; omega) ?_ (fun _ => ⟨rfl, rfl⟩) ?_ ?_ ?_ ?_ ?_
 · rcases Nat.lt_or_ge j c.nt with h | h
   · rw [(hF.1 h).1]; simp
   · rw [(hF.2 (by omega)).1]; simp
 · simp [keptB]; omega
 · intro k _
   simp [okV, lowV, lowC, notAny, i64]; omega
 · intro b hb
   simp only [List.mem_cons, List.not_mem_nil, or_false] at hb
   rcases hb with rfl | rfl
   · exact rBlk_low
   · exact cfgB_low (by omega)
 · intro k hk
   have hm := hmin k hk
   have hlt : k < c.nt := by omega
   have hw : IntKind.wrap IntKind.i64 (Int.ofNat k + Int.ofNat 1) = Int.ofNat (k + 1) := by rw [wrap_nat _ (by simp; omega) (by simp; omega)]; rfl
   have ek : 0 + Int.toNat (Int.ofNat k) = k := by simp
   have hb : 0 ≤ (c.ft k).node ∧ (c.ft k).node < c.nodes := by
    unfold ruleSt at hm
    split at hm
    · assumption
    · cases hm
   have hh : withinF (c.ft k).hold 1 100 = 0 := by unfold ruleSt at hm; rw [if_pos hb] at hm; exact hm
   refine ntt c k _ ?_
   simp only [ek]
   repeat' (first | refine ⟨fun h => ?_, fun h => ?_⟩ | fail)
   all_goals (first | (exfalso; simp at *; omega) | (exfalso; simp [hh] at h; done) | skip)
   refine ⟨⟨?_, rfl, by dsimp only; omega, rfl⟩, rfl, ?_, BL.refl _⟩
   · simp only [allT, List.forall_mem_cons, inb_arr, inb_lit]
     simp [hh]; omega
   · dsimp only; rw [hw]; rfl
 · have ek : 0 + Int.toNat (Int.ofNat j) = j := by simp
   refine ntt c j _ ?_
   simp only [ek]
   rcases Nat.lt_or_ge j c.nt with hlt | hge
   · obtain ⟨rfl, rfl, rfl⟩ := hF.1 hlt
     have hy := hyes hlt
     unfold ruleSt at hy ⊢
     by_cases hb : 0 ≤ (c.ft j).node ∧ (c.ft j).node < c.nodes
     · rw [if_pos hb] at hy ⊢
       repeat' (first | refine ⟨fun h => ?_, fun h => ?_⟩ | fail)
       all_goals (first | (exfalso; simp at *; omega) | (exfalso; simp [hy] at h; done) | skip)
       refine EndV_one ⟨?_, rfl, by dsimp only; omega, rfl⟩ rfl rfl (by simp [i64])
       simp only [allT, List.forall_mem_cons, inb_arr, inb_lit]
       simp [hy]; omega
     · rw [if_neg hb] at hy ⊢
       repeat' (first | refine ⟨fun h => ?_, fun h => ?_⟩ | fail)
       all_goals (first | (exfalso; simp at *; omega) | skip)
       all_goals (refine EndV_one ⟨?_, rfl, by dsimp only; omega, rfl⟩ rfl rfl (by simp [i64]))
       all_goals (simp only [allT, List.forall_mem_cons, inb_arr, inb_lit]; simp at *; omega)
   · obtain rfl : j = c.nt := by omega
     obtain ⟨rfl, rfl, rfl⟩ := hF.2 rfl
     repeat' (first | refine ⟨fun h => ?_, fun h => ?_⟩ | fail)
     all_goals (first | (exfalso; simp at *; done) | skip)
     refine ⟨⟨?_, rfl, by dsimp only; omega, rfl⟩, rfl, fun q hq => ?_, fun p hpp => ?_⟩
     · simp [allT]
     · rw [List.mem_singleton.1 hq]
       exact ⟨by simp [okV, lowV, lowC, notAny]; omega, by simp [lkA]⟩
     · rw [List.mem_singleton.1 hpp]
       exact ⟨by simp [keptB]; omega, cfgB_low (by omega), cfgB c, by dsimp only [List.zip, List.zipWith]; exact List.mem_cons_of_mem _ (List.mem_cons_self ..), BEq.refl _⟩
end Go.Proofs.YtpgaplcdbbnblaaGreatDoor
end
/- sennitref04.New: contract. -/
section
namespace Go.Proofs.YtpgaplcdbbnblaaGreatDoor
open Go.RowKit
def ref4 (c : Cfg) : Int :=
 if rule1 c ≠ 0 then rule1 c else if rule2 c ≠ 0 then rule2 c else if pairs4 c = false then 1 else if rule4 c ≠ 0 then rule4 c else if slots4 c = false then 1 else if rule6 c ≠ 0 then rule6 c else if rule7 c ≠ 0 then rule7 c else if rule8 c ≠ 0 then rule8 c else if rule9 c ≠ 0 then rule9 c else rule10 c
def n4V (c : Cfg) (r : VF) : Prop := r.1 = i64 (ref4 c) ∧ r.2.2.1 ≤ lim ∧ allT r.2.2.2.1 ∧ ∀ q ∈ r.2.2.2.2, q
theorem max_if {n : Int} (h4 : 4 ≤ n) (h16 : n ≤ 16) : (if IntKind.wrap IntKind.i64 (n + Int.ofNat 116) > IntKind.wrap IntKind.i64 (IntKind.wrap IntKind.i64 (Int.ofNat 3 * n) + Int.ofNat 1) then IntKind.wrap IntKind.i64 (n + Int.ofNat 116) else IntKind.wrap IntKind.i64 (IntKind.wrap IntKind.i64 (Int.ofNat 3 * n) + Int.ofNat 1)) = max (3 * n + 1) (n + 116) := by
 have w1 : IntKind.wrap IntKind.i64 (n + Int.ofNat 116) = n + 116 := by
  rw [wrap_nat _ (by simp; omega) (by simp; omega)]; simp
 have w2 : IntKind.wrap IntKind.i64 (IntKind.wrap IntKind.i64 (Int.ofNat 3 * n) + Int.ofNat 1) = 3 * n + 1 := by
  rw [wrap_nat (Int.ofNat 3 * n) (by simp; omega) (by simp; omega), wrap_nat _ (by simp; omega) (by simp; omega)]; simp
 rw [w1, w2]
 split <;> omega
theorem each_stop {f : Nat → Int} {n j : Nat} {lo hi : Int} (hmin : ∀ i, i < j → withinF (f i) lo hi = 0) (hj : j < n) (hy : withinF (f j) lo hi ≠ 0) : eachF f n lo hi = withinF (f j) lo hi := by
 unfold eachF
 rw [find_first (j := j) (fun i hi => by simp [hmin i hi]) (Nat.le_of_lt hj) (fun _ => by simp [hy]), if_pos hj]
theorem each_end {f : Nat → Int} {n : Nat} {lo hi : Int} (hmin : ∀ i, i < n → withinF (f i) lo hi = 0) : eachF f n lo hi = 0 := by
 unfold eachF
 rw [find_first (j := n) (fun i hi => by simp [hmin i hi]) (Nat.le_refl _) (fun h => absurd h (Nat.lt_irrefl _)), if_neg (Nat.lt_irrefl _)]
theorem rule9_stop {c : Cfg} {j : Nat} (hmin : ∀ i, i < j → ruleSt c i = 0) (hj : j < c.nt) (hy : ruleSt c j ≠ 0) : rule9 c = ruleSt c j := by
 unfold rule9
 rw [find_first (j := j) (fun i hi => by simp [hmin i hi]) (Nat.le_of_lt hj) (fun _ => by simp [hy]), if_pos hj]
theorem rule9_end {c : Cfg} (hmin : ∀ i, i < c.nt → ruleSt c i = 0) : rule9 c = 0 := by
 unfold rule9
 rw [find_first (j := c.nt) (fun i hi => by simp [hmin i hi]) (Nat.le_refl _) (fun h => absurd h (Nat.lt_irrefl _)), if_neg (Nat.lt_irrefl _)]
theorem ref4_run (c : Cfg) : ∃ p lp r, n4R Tryz.prog c lp p = some r ∧ n4V c r := by
 have f2 : rule2 c = 0 → 2 ≤ c.np ∧ c.np ≤ 8 := fun h => by have := withinF_zero h; omega
 have f4 : rule4 c = 0 → 1 ≤ c.ns ∧ c.ns ≤ 16 := fun h => by have := withinF_zero h; omega
 have f8 : rule8 c = 0 → c.nt ≤ 8 := fun h => by have := withinF_zero h; omega
 have f1 : rule1 c = 0 → 4 ≤ c.nodes ∧ c.nodes ≤ 16 := fun h => withinF_zero h
 obtain ⟨j, hj, hmin, hyes⟩ := first_stopP c.nb fun i => withinF (c.fb i) 0 4096 ≠ 0
 simp only [ne_eq, Decidable.not_not] at hmin
 obtain ⟨i, hi, him, hiy⟩ := first_stopP c.nt fun i => ruleSt c i ≠ 0
 simp only [ne_eq, Decidable.not_not] at him
 have r1 : withinF (Cfg.nodes c) (Int.ofNat 4) (Int.ofNat 16) = rule1 c := rfl
 have r2 : withinF (↑(Cfg.np c)) (Int.ofNat 2) (Int.ofNat 8) = rule2 c := rfl
 have r4 : withinF (↑(Cfg.ns c)) (Int.ofNat 1) (Int.ofNat 16) = rule4 c := rfl
 have r6 : withinF (Cfg.long c) (max (3 * Cfg.nodes c + 1) (Cfg.nodes c + 116)) (Int.ofNat 4096) = rule6 c := rfl
 have r8 : withinF (↑(Cfg.nt c)) (Int.ofNat 0) (Int.ofNat 8) = rule8 c := rfl
 have z1 : Int.ofNat 1 = 1 := rfl
 have z0 : Int.ofNat 0 = 0 := rfl
 have z100 : Int.ofNat 100 = 100 := rfl
 by_cases h1 : rule1 c = 0
 · obtain ⟨g4, g16⟩ := f1 h1
   have hmx := max_if g4 g16
   rcases Nat.lt_or_ge j c.nb with hlt | hge
   · have hy := hyes hlt
     have e7 : (c.nb : Int) = c.nodes → rule7 c = withinF (c.fb j) 0 4096 := fun h => by unfold rule7; rw [if_pos h, each_stop hmin hlt hy]
     have e7' : ¬ (c.nb : Int) = c.nodes → rule7 c = 1 := fun h => by unfold rule7; rw [if_neg h]
     refine (?_ : (∃ p r, n4R Tryz.prog c [some (n4S1 .ret [(2, i64 (withinF (c.fb j) 0 4096))] [])] p = some r ∧ n4V c r) → _) (n4A c (withinF (c.fb j) 0 4096) (n4V c) ?_)
     · rintro ⟨p, r, q1, q2⟩
       exact ⟨p, _, r, q1, q2⟩
     simp only [cfgI_eq, cfgK_t, intsOk_ints, stsOk_sts, r1, r2, r4, hmx, r6, r8]
     repeat' (first | refine ⟨fun h => ?_, fun h => ?_⟩ | fail)
     all_goals (simp only [bne_iff_ne, ne_eq, bne_eq_false_iff_eq, Bool.not_eq_true', Bool.not_eq_false', z0, z1] at *)
     all_goals (refine ⟨?_, (by first | (unfold lim; omega) | (dsimp only; unfold lim; omega)), ?_, ?_⟩)
     all_goals (first
      | (intro q hq; cases hq; done)
      | (intro q hq
         rw [List.mem_singleton.1 hq]
         exact nb_sum c _ (by omega) (by omega) (by omega) j hj hmin (fun _ => hy) ⟨fun _ => ⟨rfl, rfl, rfl⟩, fun h => by omega⟩)
      | (simp_all [ref4, i64]; done)
      | (simp_all [allT, okPr, okSl]; done)
      | (simp_all [allT, okPr, okSl]; omega)
      | fail)
   · obtain rfl : j = c.nb := by omega
     have e7 : (c.nb : Int) = c.nodes → rule7 c = 0 := fun h => by unfold rule7; rw [if_pos h, each_end hmin]
     have e7' : ¬ (c.nb : Int) = c.nodes → rule7 c = 1 := fun h => by unfold rule7; rw [if_neg h]
     have r10a : withinF (Cfg.miss c) (Int.ofNat 1) (Int.ofNat 100) = withinF c.miss 1 100 := rfl
     have r10b : withinF (Cfg.good c) (Int.ofNat 1) (Int.ofNat 100) = withinF c.good 1 100 := rfl
     have r10c : withinF (Cfg.fresh c) (Int.ofNat 1) (Int.ofNat 100) = withinF c.fresh 1 100 := rfl
     rcases Nat.lt_or_ge i c.nt with hlt | hge
     · have hy := hiy hlt
       have e9 : rule9 c = ruleSt c i := rule9_stop him hlt hy
       refine (?_ : (∃ p r, n4R Tryz.prog c [some (n4S1 (.exit 0) [(1, .c (.ptr 1000 0 0))] [(1000, cfgB c), (3, sts c.nt c.ft)]), some (n4S2 .ret [(2, i64 (ruleSt c i))] [])] p = some r ∧ n4V c r) → _) (n4B c (ruleSt c i) (n4V c) ?_)
       · rintro ⟨p, r, q1, q2⟩
         exact ⟨p, _, r, q1, q2⟩
       simp only [cfgI_eq, cfgK_t, intsOk_ints, stsOk_sts, r1, r2, r4, hmx, r6, r8, r10a, r10b, r10c]
       repeat' (first | refine ⟨fun h => ?_, fun h => ?_⟩ | fail)
       all_goals (simp only [bne_iff_ne, ne_eq, bne_eq_false_iff_eq, Bool.not_eq_true', Bool.not_eq_false', z0, z1] at *)
       all_goals (refine ⟨?_, (by first | (unfold lim; omega) | (dsimp only; unfold lim; omega)), ?_, ?_⟩)
       all_goals (first
        | (intro q hq; cases hq; done)
        | (intro q hq
           rw [List.mem_singleton.1 hq]
           exact nb_sum c _ (by omega) (by omega) (by omega) c.nb (Nat.le_refl _) hmin (fun h => by omega) ⟨fun h => by omega, fun _ => ⟨rfl, rfl, rfl⟩⟩)
        | (intro q hq
           simp only [List.mem_cons, List.not_mem_nil, or_false] at hq
           rcases hq with rfl | rfl
           · exact nt_sum c _ (by omega) (by omega) (by omega) i hi him (fun _ => hy) ⟨fun _ => ⟨rfl, rfl, rfl⟩, fun h => by omega⟩
           · exact nb_sum c _ (by omega) (by omega) (by omega) c.nb (Nat.le_refl _) hmin (fun h => by omega) ⟨fun h => by omega, fun _ => ⟨rfl, rfl, rfl⟩⟩)
        | (simp_all [ref4, i64, rule10]; done)
        | (simp_all [allT, okPr, okSl]; done)
        | (simp_all [allT, okPr, okSl]; omega)
        | fail)
     · obtain rfl : i = c.nt := by omega
       have e9 : rule9 c = 0 := rule9_end him
       refine (?_ : (∃ p r, n4R Tryz.prog c [some (n4S1 (.exit 0) [(1, .c (.ptr 1000 0 0))] [(1000, cfgB c), (3, sts c.nt c.ft)]), some (n4S2 (.exit 2) [(1, .c (.ptr 1000 0 0))] [(1000, cfgB c)])] p = some r ∧ n4V c r) → _) (n4C c (n4V c) ?_)
       · rintro ⟨p, r, q1, q2⟩
         exact ⟨p, _, r, q1, q2⟩
       simp only [cfgI_eq, cfgK_t, intsOk_ints, stsOk_sts, r1, r2, r4, hmx, r6, r8, r10a, r10b, r10c]
       repeat' (first | refine ⟨fun h => ?_, fun h => ?_⟩ | fail)
       all_goals (simp only [bne_iff_ne, ne_eq, bne_eq_false_iff_eq, Bool.not_eq_true', Bool.not_eq_false', z0, z1] at *)
       all_goals (refine ⟨?_, (by first | (unfold lim; omega) | (dsimp only; unfold lim; omega)), ?_, ?_⟩)
       all_goals (first
        | (intro q hq; cases hq; done)
        | (intro q hq
           rw [List.mem_singleton.1 hq]
           exact nb_sum c _ (by omega) (by omega) (by omega) c.nb (Nat.le_refl _) hmin (fun h => by omega) ⟨fun h => by omega, fun _ => ⟨rfl, rfl, rfl⟩⟩)
        | (intro q hq
           simp only [List.mem_cons, List.not_mem_nil, or_false] at hq
           rcases hq with rfl | rfl
           · exact nt_sum c _ (by omega) (by omega) (by omega) c.nt (Nat.le_refl _) him (fun h => by omega) ⟨fun h => by omega, fun _ => ⟨rfl, rfl, rfl⟩⟩
           · exact nb_sum c _ (by omega) (by omega) (by omega) c.nb (Nat.le_refl _) hmin (fun h => by omega) ⟨fun h => by omega, fun _ => ⟨rfl, rfl, rfl⟩⟩)
        | (simp_all [ref4, i64, rule10]; done)
        | (simp_all [allT, okPr, okSl]; done)
        | (simp_all [allT, okPr, okSl]; omega)
        | fail)
 · refine (?_ : (∃ p r, n4R Tryz.prog c [some (n4S1 .ret [(2, i64 0)] [])] p = some r ∧ n4V c r) → _) (n4A c 0 (n4V c) ?_)
   · rintro ⟨p, r, q1, q2⟩
     exact ⟨p, _, r, q1, q2⟩
   simp only [r1]
   refine ⟨fun h => ⟨?_, (by first | (unfold lim; omega) | (dsimp only; unfold lim; omega)), ?_, fun q hq => (by cases hq)⟩, fun h => ?_⟩
   · show i64 (rule1 c) = i64 (ref4 c)
     unfold ref4
     rw [if_pos h1]
   · simp [allT]
     exact h1
   · exfalso
     simp at h
     exact h1 h
end Go.Proofs.YtpgaplcdbbnblaaGreatDoor
end
/- What the document says is wrong with a config is what configs.New says. No Go text is in sight. -/
section
namespace Go.Proofs.YtpgaplcdbbnblaaGreatDoor
open Go.RowKit
theorem slots_eq (c : Cfg) : slots4 c = all5 c c.np := by
 have hin : ((List.range c.ns).all fun k => decide (¬ BadS c k)) = insideF c.fs c.ns c.np := by
  unfold insideF BadS
  congr 1
  funext k
  simp only [decide_eq_decide]
  omega
 unfold slots4 all5
 rw [hin]
 cases hi : insideF c.fs c.ns c.np with
 | false => rfl
 | true =>
  have h0 : ∀ k, k < c.ns → 0 ≤ c.fs k := fun k hk => by
   have := List.all_eq_true.1 hi k (by simpa using hk)
   simp at this
   exact this.1
  rw [Bool.true_and, Bool.true_and]
  congr 1
  funext i
  unfold hasQ hasF
  rw [Bool.eq_iff_iff]
  simp only [Bool.not_eq_false, decide_eq_true_eq, List.any_eq_true, List.mem_range, beq_iff_eq]
  constructor
  · rintro ⟨p, h1, h2⟩
    exact ⟨p, h1, by have := h0 p h1; simp; omega⟩
  · rintro ⟨p, h1, h2⟩
    exact ⟨p, h1, by have := h0 p h1; simp at h2; omega⟩
theorem used_iff (c : Cfg) (k i : Nat) : usedF c k i = true ↔ ∃ p, p < k ∧ (i = (c.fp p).toNat ∨ i = (nxt4 c p).toNat) := by
 unfold usedF
 simp [List.any_eq_true]
def Fair (c : Cfg) : Prop := (∀ i, i < c.np → 0 ≤ c.fp i ∧ c.fp i < c.nodes) ∧ (∀ i, i + 1 < c.np → c.fp i ≤ c.fp (i + 1)) ∧ (∀ p q, p < q → q < c.np → c.fp p ≠ c.fp q ∧ c.fp p ≠ nxt4 c q ∧ nxt4 c p ≠ c.fp q ∧ nxt4 c p ≠ nxt4 c q)
theorem nxt4_ne (c : Cfg) (p : Nat) (h4 : 4 ≤ c.nodes) (h0 : 0 ≤ c.fp p) (h1 : c.fp p < c.nodes) : c.fp p ≠ nxt4 c p := by
 unfold nxt4
 rw [Int.tmod_eq_emod_of_nonneg (by omega)]
 rcases (by omega : c.fp p + 1 < c.nodes ∨ c.fp p + 1 = c.nodes) with h | h
 · rw [Int.emod_eq_of_lt (by omega) h]; omega
 · rw [h, Int.emod_self]; omega
theorem pairs_fair (c : Cfg) (h4 : 4 ≤ c.nodes) : pairs4 c = true ↔ Fair c := by
 have hp : pairs4 c = true ↔ ∀ k, k < c.np → ¬ BadP c k := by
  unfold pairs4
  simp [List.all_eq_true]
 rw [hp]
 constructor
 · intro h
   have hin : ∀ i, i < c.np → 0 ≤ c.fp i ∧ c.fp i < c.nodes := fun i hi => by
    have := h i hi
    unfold BadP at this
    omega
   refine ⟨hin, fun i hi => ?_, fun p q hpq hq => ?_⟩
   · have := h (i + 1) hi
     unfold BadP at this
     simp only [not_or, not_and, Nat.add_sub_cancel] at this
     have := this.2.2.1 (by omega)
     omega
   · have hq' := h q hq
     unfold BadP at hq'
     simp only [not_or, used_iff] at hq'
     obtain ⟨_, _, _, u1, u2⟩ := hq'
     obtain ⟨a0, a1⟩ := hin p (by omega)
     obtain ⟨b0, b1⟩ := hin q hq
     obtain ⟨n0, _⟩ := nxt4_in c p h4 a0
     obtain ⟨m0, _⟩ := nxt4_in c q h4 b0
     refine ⟨fun e => u1 ⟨p, hpq, .inl (by rw [e])⟩, fun e => u2 ⟨p, hpq, .inl (by rw [e])⟩, fun e => u1 ⟨p, hpq, .inr (by rw [e])⟩, fun e => u2 ⟨p, hpq, .inr (by rw [e])⟩⟩
 · rintro ⟨hin, hs, hd⟩ k hk
   obtain ⟨b0, b1⟩ := hin k hk
   obtain ⟨m0, _⟩ := nxt4_in c k h4 b0
   unfold BadP
   simp only [not_or, used_iff]
   refine ⟨by omega, by omega, ?_, ?_, ?_⟩
   · rintro ⟨h0, h1⟩
     have h2 := hs (k - 1) (by omega)
     rw [show k - 1 + 1 = k by omega] at h2
     exact (hd (k - 1) k (by omega) hk).1 (by omega)
   · rintro ⟨p, hpk, e⟩
     obtain ⟨a0, a1⟩ := hin p (by omega)
     obtain ⟨n0, _⟩ := nxt4_in c p h4 a0
     obtain ⟨d1, d2, d3, d4⟩ := hd p k hpk hk
     rcases e with e | e <;> omega
   · rintro ⟨p, hpk, e⟩
     obtain ⟨a0, a1⟩ := hin p (by omega)
     obtain ⟨n0, _⟩ := nxt4_in c p h4 a0
     obtain ⟨d1, d2, d3, d4⟩ := hd p k hpk hk
     rcases e with e | e <;> omega
theorem rule3_fair (c : Cfg) (h4 : 4 ≤ c.nodes) (h16 : c.nodes ≤ 16) : rule3 c = 0 ↔ Fair c := by
 have h3 : rule3 c = 0 ↔ (insideF c.fp c.np c.nodes = true ∧ sortedF c.fp c.np = true ∧ nodupF (halfF c) (2 * c.np) = true) := by
  unfold rule3
  simp only [Bool.and_eq_true]
  split <;> simp_all
 have hi : insideF c.fp c.np c.nodes = true ↔ ∀ i, i < c.np → 0 ≤ c.fp i ∧ c.fp i < c.nodes := by
  unfold insideF
  simp [List.all_eq_true]
 have hs : sortedF c.fp c.np = true ↔ ∀ i, i + 1 < c.np → c.fp i ≤ c.fp (i + 1) := by
  unfold sortedF
  simp only [List.all_eq_true, List.mem_range, decide_eq_true_eq]
  exact ⟨fun h i hi => h i (by omega), fun h i hi => h i (by omega)⟩
 have hn : nodupF (halfF c) (2 * c.np) = true ↔ ∀ q q', q < q' → q' < 2 * c.np → halfF c q ≠ halfF c q' := by
  unfold nodupF
  rw [decide_eq_true_eq, List.Nodup, List.pairwise_map, List.pairwise_iff_getElem]
  simp only [List.length_range, List.getElem_range]
  exact ⟨fun h q q' h1 h2 => h q q' (by omega) h2 h1, fun h q q' _ h2 h1 => h q q' h1 h2⟩
 rw [h3, hi, hs, hn]
 unfold Fair
 refine and_congr_right fun hin => and_congr_right fun _ => ?_
 have he : ∀ p, halfF c (2 * p) = c.fp p := fun p => by unfold halfF; rw [if_pos (by omega), show 2 * p / 2 = p by omega]
 have ho : ∀ p, p < c.np → halfF c (2 * p + 1) = nxt4 c p := fun p hp => by
  obtain ⟨a0, a1⟩ := hin p hp
  unfold halfF ringF nxt4
  rw [if_neg (by omega), show (2 * p + 1) / 2 = p by omega, if_pos ⟨h4, h16, a0, a1⟩, Int.tmod_eq_emod_of_nonneg (by omega)]
 constructor
 · intro h p q hpq hq
   refine ⟨?_, ?_, ?_, ?_⟩
   · have := h (2 * p) (2 * q) (by omega) (by omega); rwa [he, he] at this
   · have := h (2 * p) (2 * q + 1) (by omega) (by omega); rwa [he, ho q hq] at this
   · have := h (2 * p + 1) (2 * q) (by omega) (by omega); rwa [he, ho p (by omega)] at this
   · have := h (2 * p + 1) (2 * q + 1) (by omega) (by omega); rwa [ho p (by omega), ho q hq] at this
 · intro h q q' h1 h2
   obtain ⟨x, hx⟩ : ∃ x, x = q / 2 := ⟨_, rfl⟩
   obtain ⟨y, hy⟩ : ∃ y, y = q' / 2 := ⟨_, rfl⟩
   have hyn : y < c.np := by omega
   rcases Nat.lt_or_ge x y with hxy | hxy
   · obtain ⟨d1, d2, d3, d4⟩ := h x y hxy hyn
     rcases (by omega : q = 2 * x ∨ q = 2 * x + 1) with rfl | rfl <;> rcases (by omega : q' = 2 * y ∨ q' = 2 * y + 1) with rfl | rfl
     · rw [he, he]; exact d1
     · rw [he, ho y hyn]; exact d2
     · rw [he, ho x (by omega)]; exact d3
     · rw [ho x (by omega), ho y hyn]; exact d4
   · obtain rfl : x = y := by omega
     obtain rfl : q = 2 * x := by omega
     obtain rfl : q' = 2 * x + 1 := by omega
     obtain ⟨a0, a1⟩ := hin x hyn
     rw [he, ho x hyn]
     exact nxt4_ne c x h4 a0 a1
theorem ref4_eq (c : Cfg) : ref4 c = cfgErr c := by
 unfold ref4 cfgErr
 by_cases h1 : rule1 c = 0
 · obtain ⟨g4, g16⟩ := withinF_zero h1
   have hp : pairs4 c = false ↔ rule3 c ≠ 0 := by
    rw [← Bool.not_eq_true, pairs_fair c g4, ← rule3_fair c g4 g16]
   have h3 : rule3 c ≠ 0 → rule3 c = 1 := by
    unfold rule3
    split
    · intro h; exact absurd rfl h
    · intro _; rfl
   have h5 : slots4 c = false ↔ rule5 c ≠ 0 := by
    rw [slots_eq]
    unfold rule5
    cases all5 c c.np <;> simp
   have h5' : rule5 c ≠ 0 → rule5 c = 1 := by
    unfold rule5
    split
    · intro h; exact absurd rfl h
    · intro _; rfl
   by_cases e3 : rule3 c = 0
   · by_cases e5 : rule5 c = 0
     · simp [h1, hp, h5, e3, e5]
     · simp [h1, hp, h5, e3, e5, h5' e5]
   · simp [h1, hp, e3, h3 e3]
 · simp [h1]
end Go.Proofs.YtpgaplcdbbnblaaGreatDoor
end
/- sennitref04.New: contract. -/
section
namespace Go.Proofs.YtpgaplcdbbnblaaGreatDoor
open Go.RowKit
theorem ct_ref4 : CtOk Tryz.prog 16 (ctCfg (fun c => i64 (cfgErr c)) fun _ => true) := by
 refine ctCfg_of (E := ENq Tryz.prog) (fuel := 300) (str := 10000000000000000000000000000000000000000) hENq ⟨_, _, Tryz.func16, rfl⟩ (fun c => plain_i64 _) fun c _ => ?_
 obtain ⟨p, lp, r, h1, h2⟩ := ref4_run c
 unfold n4V at h2
 rw [ref4_eq] at h2
 exact ⟨p, lp, r, h1, h2⟩
end Go.Proofs.YtpgaplcdbbnblaaGreatDoor
end
