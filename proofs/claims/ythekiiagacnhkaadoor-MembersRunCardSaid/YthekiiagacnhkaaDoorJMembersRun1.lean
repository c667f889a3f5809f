/- Parts, one behind the other. members.First, Heard, empty, scores.Up, Penalty, Reward as the evaluator runs them. -/
import Derived.Test.YthekiiagacnhkaaDoorJB0x14
import Derived.Test.YthekiiagacnhkaaDoorJMembersRun0
import Derived.Test.YthekiiagacnhkaaDoorJB0x9
set_option linter.unusedSimpArgs false
set_option linter.unusedVariables false
/- members.First, Heard, empty, scores.Up, Penalty, Reward as the evaluator runs them. -/
section
namespace Go.Proofs.YthekiiagacnhkaaDoor
open Go.RowKit

def scE (P : Program) (f : FuncId) (k : IntKind) (z : Int) (path : List Dec) : Option VF := viewF [] (fCallF (E1 P) (fC (E1 P) 300) f [.c (.v (.int k z))] 1000 10000000000000000000000000000000000000000 (stA [] path []))
theorem scUp (z : Int) (Q : VF → Prop) (H : Q (.c (.v (.int .u8 (IntKind.wrap .u8 ((if Int.ofNat 99 < z then Int.ofNat 99 else z) + Int.ofNat 1)))), [], 1005, [], [])) :
    ∃ p r, scE Tryd.prog 58 .u8 z p = some r ∧ Q r :=
  ⟨pD 0 0, _, by kernel_rfl, H⟩
theorem scPen (z : Int) (Q : VF → Prop) (H : Q (.c (.v (.int .u16 (if Int.ofNat 1000 < IntKind.wrap .u16 ((if Int.ofNat 1000 < z then Int.ofNat 1000 else z) + Int.ofNat 8) then Int.ofNat 1000 else IntKind.wrap .u16 ((if Int.ofNat 1000 < z then Int.ofNat 1000 else z) + Int.ofNat 8)))), [], 1006, [], [])) :
    ∃ p r, scE Tryd.prog 60 .u16 z p = some r ∧ Q r :=
  ⟨pD 0 0, _, by kernel_rfl, H⟩
theorem scRew (z : Int) (Q : VF → Prop) (H : Q (.c (.v (.int .u16 (IntKind.wrap .u16 ((if Int.ofNat 1 > if Int.ofNat 1000 < z then Int.ofNat 1000 else z then Int.ofNat 1 else if Int.ofNat 1000 < z then Int.ofNat 1000 else z) - Int.ofNat 1)))), [], 1006, [], [])) :
    ∃ p r, scE Tryd.prog 59 .u16 z p = some r ∧ Q r :=
  ⟨pD 0 0, _, by kernel_rfl, H⟩
def emE (P : Program) (v : Vw) (k : Nat) (path : List Dec) : Option VF := viewF [] (fCallF (E1 P) (fC (E1 P) 300) 54 [.agg (vwL v), i64 (Int.ofNat k)] 1000 10000000000000000000000000000000000000000 (stA [] path []))
theorem mbEm (v : Vw) (k : Nat) (Q : VF → Prop) (H : let zz0 := (List.getD (vwL v) (0 + Int.toNat (Int.ofNat k) * 1) nov); let zz1 := (List.getD (vwL v) (32 + Int.toNat (Int.ofNat k) * 1) nov); let zz2 := (List.getD (vwL v) (8 + Int.toNat (Int.ofNat k) * 1) nov); let zz3 := (List.getD (vwL v) (16 + Int.toNat (Int.ofNat k) * 1) nov); (((!asB zz0) = true → (((!asB zz1) = true → (((asI zz2 == Int.ofNat 0) = true → (((asI zz3 == Int.ofNat 0) = true → Q (.c (.v (.bool (asI (List.getD (vwL v) (24 + Int.toNat (Int.ofNat k) * 1) nov) == Int.ofNat 0))), [], 1036, [ABlk.inb (ABlk.mk true false 47 0 (Cs.lit (vwL v))) 0 (24 + Int.toNat (Int.ofNat k) * 1 + 1), okl (Kd.i .u16) (List.getD (vwL v) (24 + Int.toNat (Int.ofNat k) * 1) nov), decide (Int.ofNat 0 ≤ Int.ofNat k ∧ Int.ofNat k < Int.ofNat 8), (asI zz3 == Int.ofNat 0) == true, ABlk.inb (ABlk.mk true false 47 0 (Cs.lit (vwL v))) 0 (16 + Int.toNat (Int.ofNat k) * 1 + 1), okl (Kd.i .u8) zz3, decide (Int.ofNat 0 ≤ Int.ofNat k ∧ Int.ofNat k < Int.ofNat 8), (asI zz2 == Int.ofNat 0) == true, ABlk.inb (ABlk.mk true false 47 0 (Cs.lit (vwL v))) 0 (8 + Int.toNat (Int.ofNat k) * 1 + 1), okl (Kd.i .u8) zz2, decide (Int.ofNat 0 ≤ Int.ofNat k ∧ Int.ofNat k < Int.ofNat 8), (!asB zz1) == true, ABlk.inb (ABlk.mk true false 47 0 (Cs.lit (vwL v))) 0 (32 + Int.toNat (Int.ofNat k) * 1 + 1), okl Kd.b zz1, decide (Int.ofNat 0 ≤ Int.ofNat k ∧ Int.ofNat k < Int.ofNat 8), (!asB zz0) == true, ABlk.inb (ABlk.mk true false 47 0 (Cs.lit (vwL v))) 0 (0 + Int.toNat (Int.ofNat k) * 1 + 1), okl Kd.b zz0, decide (Int.ofNat 0 ≤ Int.ofNat k ∧ Int.ofNat k < Int.ofNat 8)], [])) ∧ ((asI zz3 == Int.ofNat 0) = false → Q (.c (.v (.bool false)), [], 1031, [(asI zz3 == Int.ofNat 0) == false, ABlk.inb (ABlk.mk true false 47 0 (Cs.lit (vwL v))) 0 (16 + Int.toNat (Int.ofNat k) * 1 + 1), okl (Kd.i .u8) zz3, decide (Int.ofNat 0 ≤ Int.ofNat k ∧ Int.ofNat k < Int.ofNat 8), (asI zz2 == Int.ofNat 0) == true, ABlk.inb (ABlk.mk true false 47 0 (Cs.lit (vwL v))) 0 (8 + Int.toNat (Int.ofNat k) * 1 + 1), okl (Kd.i .u8) zz2, decide (Int.ofNat 0 ≤ Int.ofNat k ∧ Int.ofNat k < Int.ofNat 8), (!asB zz1) == true, ABlk.inb (ABlk.mk true false 47 0 (Cs.lit (vwL v))) 0 (32 + Int.toNat (Int.ofNat k) * 1 + 1), okl Kd.b zz1, decide (Int.ofNat 0 ≤ Int.ofNat k ∧ Int.ofNat k < Int.ofNat 8), (!asB zz0) == true, ABlk.inb (ABlk.mk true false 47 0 (Cs.lit (vwL v))) 0 (0 + Int.toNat (Int.ofNat k) * 1 + 1), okl Kd.b zz0, decide (Int.ofNat 0 ≤ Int.ofNat k ∧ Int.ofNat k < Int.ofNat 8)], [])))) ∧ ((asI zz2 == Int.ofNat 0) = false → Q (.c (.v (.bool false)), [], 1026, [(asI zz2 == Int.ofNat 0) == false, ABlk.inb (ABlk.mk true false 47 0 (Cs.lit (vwL v))) 0 (8 + Int.toNat (Int.ofNat k) * 1 + 1), okl (Kd.i .u8) zz2, decide (Int.ofNat 0 ≤ Int.ofNat k ∧ Int.ofNat k < Int.ofNat 8), (!asB zz1) == true, ABlk.inb (ABlk.mk true false 47 0 (Cs.lit (vwL v))) 0 (32 + Int.toNat (Int.ofNat k) * 1 + 1), okl Kd.b zz1, decide (Int.ofNat 0 ≤ Int.ofNat k ∧ Int.ofNat k < Int.ofNat 8), (!asB zz0) == true, ABlk.inb (ABlk.mk true false 47 0 (Cs.lit (vwL v))) 0 (0 + Int.toNat (Int.ofNat k) * 1 + 1), okl Kd.b zz0, decide (Int.ofNat 0 ≤ Int.ofNat k ∧ Int.ofNat k < Int.ofNat 8)], [])))) ∧ ((!asB zz1) = false → Q (.c (.v (.bool false)), [], 1021, [(!asB zz1) == false, ABlk.inb (ABlk.mk true false 47 0 (Cs.lit (vwL v))) 0 (32 + Int.toNat (Int.ofNat k) * 1 + 1), okl Kd.b zz1, decide (Int.ofNat 0 ≤ Int.ofNat k ∧ Int.ofNat k < Int.ofNat 8), (!asB zz0) == true, ABlk.inb (ABlk.mk true false 47 0 (Cs.lit (vwL v))) 0 (0 + Int.toNat (Int.ofNat k) * 1 + 1), okl Kd.b zz0, decide (Int.ofNat 0 ≤ Int.ofNat k ∧ Int.ofNat k < Int.ofNat 8)], [])))) ∧ ((!asB zz0) = false → Q (.c (.v (.bool false)), [], 1016, [(!asB zz0) == false, ABlk.inb (ABlk.mk true false 47 0 (Cs.lit (vwL v))) 0 (0 + Int.toNat (Int.ofNat k) * 1 + 1), okl Kd.b zz0, decide (Int.ofNat 0 ≤ Int.ofNat k ∧ Int.ofNat k < Int.ofNat 8)], [])))) :
    ∃ p r, emE Tryd.prog v k p = some r ∧ Q r :=
  two H
  (fun g1 => two g1
    (fun g2 => two g2
      (fun g3 => two g3
        (fun g4 => ⟨pD 20 14408200, _, by kernel_rfl, g4⟩)
        (fun g4 => ⟨pD 20 28757107, _, by kernel_rfl, g4⟩))
      (fun g3 => ⟨pD 20 118342, _, by kernel_rfl, g3⟩))
    (fun g2 => ⟨pD 20 487, _, by kernel_rfl, g2⟩))
  (fun g1 => ⟨pD 20 2, _, by kernel_rfl, g1⟩)
theorem mbHe (c : Cfg) (nq : Nat) (fq : Nat → Int) (v : Vw) (z : Int) (Q : VF → Prop) (H : let zz0 := ((intsOk (Cfg.np c) fun k => List.map AC.v ((fun i => [Value.int IntKind.i64 (Cfg.fp c i)]) k)) && ((intsOk (Cfg.ns c) fun k => List.map AC.v ((fun i => [Value.int IntKind.i64 (Cfg.fs c i)]) k)) && ((intsOk (Cfg.nb c) fun k => List.map AC.v ((fun i => [Value.int IntKind.i64 (Cfg.fb c i)]) k)) && ((stsOk (Cfg.nt c) fun k => List.map AC.v ((fun i => [Value.int IntKind.i64 (Station.node (Cfg.ft c i)), Value.int IntKind.u32 (Station.safe (Cfg.ft c i)), Value.int IntKind.i64 (Station.hold (Cfg.ft c i))]) k)) && intsOk nq fun k => List.map AC.v ((fun i => [Value.int IntKind.i64 (fq i)]) k))))); (((decide (headN c nq fq (List.headD [z] (Int.ofNat 0)) ≥ Int.ofNat 0)) = true → Q (.agg [.v (.bool (asB (pickC (Nat.beq 0 (32 + Int.toNat z * 1)) (.v (.bool true)) (.v (.bool (Vw.inn v 0)))))), .v (.bool (asB (pickC (Nat.beq 1 (32 + Int.toNat z * 1)) (.v (.bool true)) (.v (.bool (Vw.inn v 1)))))), .v (.bool (asB (pickC (Nat.beq 2 (32 + Int.toNat z * 1)) (.v (.bool true)) (.v (.bool (Vw.inn v 2)))))), .v (.bool (asB (pickC (Nat.beq 3 (32 + Int.toNat z * 1)) (.v (.bool true)) (.v (.bool (Vw.inn v 3)))))), .v (.bool (asB (pickC (Nat.beq 4 (32 + Int.toNat z * 1)) (.v (.bool true)) (.v (.bool (Vw.inn v 4)))))), .v (.bool (asB (pickC (Nat.beq 5 (32 + Int.toNat z * 1)) (.v (.bool true)) (.v (.bool (Vw.inn v 5)))))), .v (.bool (asB (pickC (Nat.beq 6 (32 + Int.toNat z * 1)) (.v (.bool true)) (.v (.bool (Vw.inn v 6)))))), .v (.bool (asB (pickC (Nat.beq 7 (32 + Int.toNat z * 1)) (.v (.bool true)) (.v (.bool (Vw.inn v 7)))))), .v (.int .u8 (asI (pickC (Nat.beq 8 (32 + Int.toNat z * 1)) (.v (.bool true)) (.v (.int .u8 (Vw.miss v 0)))))), .v (.int .u8 (asI (pickC (Nat.beq 9 (32 + Int.toNat z * 1)) (.v (.bool true)) (.v (.int .u8 (Vw.miss v 1)))))), .v (.int .u8 (asI (pickC (Nat.beq 10 (32 + Int.toNat z * 1)) (.v (.bool true)) (.v (.int .u8 (Vw.miss v 2)))))), .v (.int .u8 (asI (pickC (Nat.beq 11 (32 + Int.toNat z * 1)) (.v (.bool true)) (.v (.int .u8 (Vw.miss v 3)))))), .v (.int .u8 (asI (pickC (Nat.beq 12 (32 + Int.toNat z * 1)) (.v (.bool true)) (.v (.int .u8 (Vw.miss v 4)))))), .v (.int .u8 (asI (pickC (Nat.beq 13 (32 + Int.toNat z * 1)) (.v (.bool true)) (.v (.int .u8 (Vw.miss v 5)))))), .v (.int .u8 (asI (pickC (Nat.beq 14 (32 + Int.toNat z * 1)) (.v (.bool true)) (.v (.int .u8 (Vw.miss v 6)))))), .v (.int .u8 (asI (pickC (Nat.beq 15 (32 + Int.toNat z * 1)) (.v (.bool true)) (.v (.int .u8 (Vw.miss v 7)))))), .v (.int .u8 (asI (pickC (Nat.beq 16 (32 + Int.toNat z * 1)) (.v (.bool true)) (.v (.int .u8 (Vw.good v 0)))))), .v (.int .u8 (asI (pickC (Nat.beq 17 (32 + Int.toNat z * 1)) (.v (.bool true)) (.v (.int .u8 (Vw.good v 1)))))), .v (.int .u8 (asI (pickC (Nat.beq 18 (32 + Int.toNat z * 1)) (.v (.bool true)) (.v (.int .u8 (Vw.good v 2)))))), .v (.int .u8 (asI (pickC (Nat.beq 19 (32 + Int.toNat z * 1)) (.v (.bool true)) (.v (.int .u8 (Vw.good v 3)))))), .v (.int .u8 (asI (pickC (Nat.beq 20 (32 + Int.toNat z * 1)) (.v (.bool true)) (.v (.int .u8 (Vw.good v 4)))))), .v (.int .u8 (asI (pickC (Nat.beq 21 (32 + Int.toNat z * 1)) (.v (.bool true)) (.v (.int .u8 (Vw.good v 5)))))), .v (.int .u8 (asI (pickC (Nat.beq 22 (32 + Int.toNat z * 1)) (.v (.bool true)) (.v (.int .u8 (Vw.good v 6)))))), .v (.int .u8 (asI (pickC (Nat.beq 23 (32 + Int.toNat z * 1)) (.v (.bool true)) (.v (.int .u8 (Vw.good v 7)))))), .v (.int .u16 (asI (pickC (Nat.beq 24 (32 + Int.toNat z * 1)) (.v (.bool true)) (.v (.int .u16 (Vw.score v 0)))))), .v (.int .u16 (asI (pickC (Nat.beq 25 (32 + Int.toNat z * 1)) (.v (.bool true)) (.v (.int .u16 (Vw.score v 1)))))), .v (.int .u16 (asI (pickC (Nat.beq 26 (32 + Int.toNat z * 1)) (.v (.bool true)) (.v (.int .u16 (Vw.score v 2)))))), .v (.int .u16 (asI (pickC (Nat.beq 27 (32 + Int.toNat z * 1)) (.v (.bool true)) (.v (.int .u16 (Vw.score v 3)))))), .v (.int .u16 (asI (pickC (Nat.beq 28 (32 + Int.toNat z * 1)) (.v (.bool true)) (.v (.int .u16 (Vw.score v 4)))))), .v (.int .u16 (asI (pickC (Nat.beq 29 (32 + Int.toNat z * 1)) (.v (.bool true)) (.v (.int .u16 (Vw.score v 5)))))), .v (.int .u16 (asI (pickC (Nat.beq 30 (32 + Int.toNat z * 1)) (.v (.bool true)) (.v (.int .u16 (Vw.score v 6)))))), .v (.int .u16 (asI (pickC (Nat.beq 31 (32 + Int.toNat z * 1)) (.v (.bool true)) (.v (.int .u16 (Vw.score v 7)))))), .v (.bool (asB (pickC (Nat.beq 32 (32 + Int.toNat z * 1)) (.v (.bool true)) (.v (.bool (Vw.got v 0)))))), .v (.bool (asB (pickC (Nat.beq 33 (32 + Int.toNat z * 1)) (.v (.bool true)) (.v (.bool (Vw.got v 1)))))), .v (.bool (asB (pickC (Nat.beq 34 (32 + Int.toNat z * 1)) (.v (.bool true)) (.v (.bool (Vw.got v 2)))))), .v (.bool (asB (pickC (Nat.beq 35 (32 + Int.toNat z * 1)) (.v (.bool true)) (.v (.bool (Vw.got v 3)))))), .v (.bool (asB (pickC (Nat.beq 36 (32 + Int.toNat z * 1)) (.v (.bool true)) (.v (.bool (Vw.got v 4)))))), .v (.bool (asB (pickC (Nat.beq 37 (32 + Int.toNat z * 1)) (.v (.bool true)) (.v (.bool (Vw.got v 5)))))), .v (.bool (asB (pickC (Nat.beq 38 (32 + Int.toNat z * 1)) (.v (.bool true)) (.v (.bool (Vw.got v 6)))))), .v (.bool (asB (pickC (Nat.beq 39 (32 + Int.toNat z * 1)) (.v (.bool true)) (.v (.bool (Vw.got v 7)))))), .v (.int .i8 (asI (pickC (Nat.beq 40 (32 + Int.toNat z * 1)) (.v (.bool true)) (.v (.int .i8 (Vw.command v)))))), .v (.int .u8 (asI (pickC (Nat.beq 41 (32 + Int.toNat z * 1)) (.v (.bool true)) (.v (.int .u8 (Vw.mode v))))))], [], 1011, [true, true, true, true, true, true, true, true, true, true, true, true, true, true, true, true, true, true, true, true, true, true, true, true, true, true, true, true, true, true, true, true, true, true, true, true, true, true, true, true, true, true, true, true, true, okl Kd.b (pickC (Nat.beq 0 (32 + Int.toNat z * 1)) (.v (.bool true)) (.v (.bool (Vw.inn v 0)))), okl Kd.b (pickC (Nat.beq 1 (32 + Int.toNat z * 1)) (.v (.bool true)) (.v (.bool (Vw.inn v 1)))), okl Kd.b (pickC (Nat.beq 2 (32 + Int.toNat z * 1)) (.v (.bool true)) (.v (.bool (Vw.inn v 2)))), okl Kd.b (pickC (Nat.beq 3 (32 + Int.toNat z * 1)) (.v (.bool true)) (.v (.bool (Vw.inn v 3)))), okl Kd.b (pickC (Nat.beq 4 (32 + Int.toNat z * 1)) (.v (.bool true)) (.v (.bool (Vw.inn v 4)))), okl Kd.b (pickC (Nat.beq 5 (32 + Int.toNat z * 1)) (.v (.bool true)) (.v (.bool (Vw.inn v 5)))), okl Kd.b (pickC (Nat.beq 6 (32 + Int.toNat z * 1)) (.v (.bool true)) (.v (.bool (Vw.inn v 6)))), okl Kd.b (pickC (Nat.beq 7 (32 + Int.toNat z * 1)) (.v (.bool true)) (.v (.bool (Vw.inn v 7)))), okl (Kd.i .u8) (pickC (Nat.beq 8 (32 + Int.toNat z * 1)) (.v (.bool true)) (.v (.int .u8 (Vw.miss v 0)))), okl (Kd.i .u8) (pickC (Nat.beq 9 (32 + Int.toNat z * 1)) (.v (.bool true)) (.v (.int .u8 (Vw.miss v 1)))), okl (Kd.i .u8) (pickC (Nat.beq 10 (32 + Int.toNat z * 1)) (.v (.bool true)) (.v (.int .u8 (Vw.miss v 2)))), okl (Kd.i .u8) (pickC (Nat.beq 11 (32 + Int.toNat z * 1)) (.v (.bool true)) (.v (.int .u8 (Vw.miss v 3)))), okl (Kd.i .u8) (pickC (Nat.beq 12 (32 + Int.toNat z * 1)) (.v (.bool true)) (.v (.int .u8 (Vw.miss v 4)))), okl (Kd.i .u8) (pickC (Nat.beq 13 (32 + Int.toNat z * 1)) (.v (.bool true)) (.v (.int .u8 (Vw.miss v 5)))), okl (Kd.i .u8) (pickC (Nat.beq 14 (32 + Int.toNat z * 1)) (.v (.bool true)) (.v (.int .u8 (Vw.miss v 6)))), okl (Kd.i .u8) (pickC (Nat.beq 15 (32 + Int.toNat z * 1)) (.v (.bool true)) (.v (.int .u8 (Vw.miss v 7)))), okl (Kd.i .u8) (pickC (Nat.beq 16 (32 + Int.toNat z * 1)) (.v (.bool true)) (.v (.int .u8 (Vw.good v 0)))), okl (Kd.i .u8) (pickC (Nat.beq 17 (32 + Int.toNat z * 1)) (.v (.bool true)) (.v (.int .u8 (Vw.good v 1)))), okl (Kd.i .u8) (pickC (Nat.beq 18 (32 + Int.toNat z * 1)) (.v (.bool true)) (.v (.int .u8 (Vw.good v 2)))), okl (Kd.i .u8) (pickC (Nat.beq 19 (32 + Int.toNat z * 1)) (.v (.bool true)) (.v (.int .u8 (Vw.good v 3)))), okl (Kd.i .u8) (pickC (Nat.beq 20 (32 + Int.toNat z * 1)) (.v (.bool true)) (.v (.int .u8 (Vw.good v 4)))), okl (Kd.i .u8) (pickC (Nat.beq 21 (32 + Int.toNat z * 1)) (.v (.bool true)) (.v (.int .u8 (Vw.good v 5)))), okl (Kd.i .u8) (pickC (Nat.beq 22 (32 + Int.toNat z * 1)) (.v (.bool true)) (.v (.int .u8 (Vw.good v 6)))), okl (Kd.i .u8) (pickC (Nat.beq 23 (32 + Int.toNat z * 1)) (.v (.bool true)) (.v (.int .u8 (Vw.good v 7)))), okl (Kd.i .u16) (pickC (Nat.beq 24 (32 + Int.toNat z * 1)) (.v (.bool true)) (.v (.int .u16 (Vw.score v 0)))), okl (Kd.i .u16) (pickC (Nat.beq 25 (32 + Int.toNat z * 1)) (.v (.bool true)) (.v (.int .u16 (Vw.score v 1)))), okl (Kd.i .u16) (pickC (Nat.beq 26 (32 + Int.toNat z * 1)) (.v (.bool true)) (.v (.int .u16 (Vw.score v 2)))), okl (Kd.i .u16) (pickC (Nat.beq 27 (32 + Int.toNat z * 1)) (.v (.bool true)) (.v (.int .u16 (Vw.score v 3)))), okl (Kd.i .u16) (pickC (Nat.beq 28 (32 + Int.toNat z * 1)) (.v (.bool true)) (.v (.int .u16 (Vw.score v 4)))), okl (Kd.i .u16) (pickC (Nat.beq 29 (32 + Int.toNat z * 1)) (.v (.bool true)) (.v (.int .u16 (Vw.score v 5)))), okl (Kd.i .u16) (pickC (Nat.beq 30 (32 + Int.toNat z * 1)) (.v (.bool true)) (.v (.int .u16 (Vw.score v 6)))), okl (Kd.i .u16) (pickC (Nat.beq 31 (32 + Int.toNat z * 1)) (.v (.bool true)) (.v (.int .u16 (Vw.score v 7)))), okl Kd.b (pickC (Nat.beq 32 (32 + Int.toNat z * 1)) (.v (.bool true)) (.v (.bool (Vw.got v 0)))), okl Kd.b (pickC (Nat.beq 33 (32 + Int.toNat z * 1)) (.v (.bool true)) (.v (.bool (Vw.got v 1)))), okl Kd.b (pickC (Nat.beq 34 (32 + Int.toNat z * 1)) (.v (.bool true)) (.v (.bool (Vw.got v 2)))), okl Kd.b (pickC (Nat.beq 35 (32 + Int.toNat z * 1)) (.v (.bool true)) (.v (.bool (Vw.got v 3)))), okl Kd.b (pickC (Nat.beq 36 (32 + Int.toNat z * 1)) (.v (.bool true)) (.v (.bool (Vw.got v 4)))), okl Kd.b (pickC (Nat.beq 37 (32 + Int.toNat z * 1)) (.v (.bool true)) (.v (.bool (Vw.got v 5)))), okl Kd.b (pickC (Nat.beq 38 (32 + Int.toNat z * 1)) (.v (.bool true)) (.v (.bool (Vw.got v 6)))), okl Kd.b (pickC (Nat.beq 39 (32 + Int.toNat z * 1)) (.v (.bool true)) (.v (.bool (Vw.got v 7)))), okl (Kd.i .i8) (pickC (Nat.beq 40 (32 + Int.toNat z * 1)) (.v (.bool true)) (.v (.int .i8 (Vw.command v)))), okl (Kd.i .u8) (pickC (Nat.beq 41 (32 + Int.toNat z * 1)) (.v (.bool true)) (.v (.int .u8 (Vw.mode v)))), ABlk.inb (ABlk.mk true false 47 0 (Cs.lit (vwL v))) 0 (32 + Int.toNat z * 1 + 1), decide (Int.ofNat 0 ≤ z ∧ z < Int.ofNat 8), decide (headN c nq fq (List.headD [z] (Int.ofNat 0)) ≥ Int.ofNat 0) == true, decide (0 + c.np ≤ c.np) && (decide (0 + c.ns ≤ c.ns) && (decide (0 + c.nb ≤ c.nb) && (decide (0 + c.nt ≤ c.nt) && (decide (0 + nq ≤ nq) && zz0)))), true], [])) ∧ ((decide (headN c nq fq (List.headD [z] (Int.ofNat 0)) ≥ Int.ofNat 0)) = false → Q (AV.agg (vwL v), [], 1007, [true, true, true, true, true, true, true, true, true, true, true, true, true, true, true, true, true, true, true, true, true, true, true, true, true, true, true, true, true, true, true, true, true, true, true, true, true, true, true, true, true, true, true, true, true, true, true, true, true, true, true, true, true, true, true, true, true, true, true, true, true, true, true, true, true, true, true, true, true, true, true, true, true, true, true, true, true, true, true, true, true, true, true, true, true, true, true, decide (headN c nq fq (List.headD [z] (Int.ofNat 0)) ≥ Int.ofNat 0) == false, decide (0 + c.np ≤ c.np) && (decide (0 + c.ns ≤ c.ns) && (decide (0 + c.nb ≤ c.nb) && (decide (0 + c.nt ≤ c.nt) && (decide (0 + nq ≤ nq) && zz0)))), true], [])))) :
    ∃ p r, vwE (ENf Tryd.prog) 22 c nq fq v [i64 z] p [] = some r ∧ Q r :=
  two H
  (fun g1 => ⟨pD 1 1, _, by kernel_rfl, g1⟩)
  (fun g1 => ⟨pD 1 2, _, by kernel_rfl, g1⟩)
end Go.Proofs.YthekiiagacnhkaaDoor
end
/- Contracts of members.First, Heard, empty, scores.Up, Penalty, Reward. -/
section
namespace Go.Proofs.YthekiiagacnhkaaDoor
open Go.RowKit

theorem u8_wrap {z : Int} (h0 : 0 ≤ z) (h1 : z ≤ 255) : IntKind.wrap .u8 z = z := by
  simp only [IntKind.wrap, IntKind.bits, IntKind.signed]
  first | omega | (simp; omega)
theorem u16_wrap {z : Int} (h0 : 0 ≤ z) (h1 : z ≤ 65535) : IntKind.wrap .u16 z = z := by
  simp only [IntKind.wrap, IntKind.bits, IntKind.signed]
  first | omega | (simp; omega)
def scrR (k : IntKind) (g : Int → Int) : List AV → AV
  | [.c (.v (.int _ z))] => .c (.v (.int k (g z)))
  | _ => i64 0
def scP (k : IntKind) : List AV → Bool
  | [.c (.v (.int q z))] => decide (q = k) && decide (0 ≤ z)
  | _ => false
def ctSc (k : IntKind) (g : Int → Int) : CtF := ctRd (pureRd [] rfl) (scrR k g) (scP k)
theorem sc_of {f : FuncId} {k : IntKind} {g : Int → Int} (hf : ∃ (fn : Func) (c : Code), Tryd.prog.funcs[f]? = some fn ∧ fn.body = some c) (run : ∀ z : Int, 0 ≤ z → ∃ p q, scE Tryd.prog f k z p = some q ∧ GoodF (.c (.v (.int k (g z)))) q) : CtOk Tryd.prog f (ctSc k g) := by
  refine ctRd_ofE (E := E1 Tryd.prog) hE1 (pureRd [] rfl) (fuel := 300) (str := 10000000000000000000000000000000000000000) hf (fun s => by unfold scrR; split <;> rfl) fun s hs => ?_
  unfold scP at hs
  split at hs
  · rename_i q z
    simp only [Bool.and_eq_true, decide_eq_true_eq] at hs
    obtain ⟨rfl, h0⟩ := hs
    obtain ⟨p, r, h1, h2⟩ := run z h0
    exact ⟨p, [], r, h1, h2⟩
  · cases hs
theorem ct_up : CtOk Tryd.prog 58 (ctSc .u8 upZ) := by
  refine sc_of ⟨_, _, Tryd.func58, rfl⟩ fun z h0 => scUp z _ ?_
  refine ⟨?_, (by first | (unfold lim; omega) | (dsimp only; unfold lim; omega)), by simp [allT], by simp⟩
  have e : (if Int.ofNat 99 < z then Int.ofNat 99 else z) = min z 99 := by simp only [Int.ofNat_eq_natCast]; split <;> omega
  simp only [e]
  rw [show min z 99 + Int.ofNat 1 = upZ z from rfl, u8_wrap (by unfold upZ; omega) (by unfold upZ; omega)]
theorem ct_pen : CtOk Tryd.prog 60 (ctSc .u16 penZ) := by
  refine sc_of ⟨_, _, Tryd.func60, rfl⟩ fun z h0 => scPen z _ ?_
  refine ⟨?_, (by first | (unfold lim; omega) | (dsimp only; unfold lim; omega)), by simp [allT], by simp⟩
  have e : (if Int.ofNat 1000 < z then Int.ofNat 1000 else z) = min z 1000 := by simp only [Int.ofNat_eq_natCast]; split <;> omega
  simp only [e]
  rw [u16_wrap (z := min z 1000 + Int.ofNat 8) (by simp; omega) (by simp; omega)]
  have e2 : (if Int.ofNat 1000 < min z 1000 + Int.ofNat 8 then Int.ofNat 1000 else min z 1000 + Int.ofNat 8) = penZ z := by unfold penZ; simp only [Int.ofNat_eq_natCast]; split <;> omega
  rw [e2]
theorem ct_rew : CtOk Tryd.prog 59 (ctSc .u16 rewZ) := by
  refine sc_of ⟨_, _, Tryd.func59, rfl⟩ fun z h0 => scRew z _ ?_
  refine ⟨?_, (by first | (unfold lim; omega) | (dsimp only; unfold lim; omega)), by simp [allT], by simp⟩
  have e : (if Int.ofNat 1000 < z then Int.ofNat 1000 else z) = min z 1000 := by simp only [Int.ofNat_eq_natCast]; split <;> omega
  simp only [e]
  have e2 : (if Int.ofNat 1 > min z 1000 then Int.ofNat 1 else min z 1000) - Int.ofNat 1 = rewZ z := by unfold rewZ; simp only [Int.ofNat_eq_natCast]; split <;> omega
  rw [e2, u16_wrap (by unfold rewZ; omega) (by unfold rewZ; omega)]
/-! a view's cells at a place -/
theorem vw_cell {p : Vw → Nat → Prop} (h0 : ∀ v, p v 0) (h1 : ∀ v, p v 1) (h2 : ∀ v, p v 2) (h3 : ∀ v, p v 3) (h4 : ∀ v, p v 4) (h5 : ∀ v, p v 5) (h6 : ∀ v, p v 6) (h7 : ∀ v, p v 7) (v : Vw) (k : Nat) (h : k < 8) : p v k := by
  match k, h with
  | 0, _ => exact h0 v
  | 1, _ => exact h1 v
  | 2, _ => exact h2 v
  | 3, _ => exact h3 v
  | 4, _ => exact h4 v
  | 5, _ => exact h5 v
  | 6, _ => exact h6 v
  | 7, _ => exact h7 v
theorem vw_got (v : Vw) (k : Nat) (h : k < 8) : asB (List.getD (vwL v) (32 + Int.toNat (Int.ofNat k) * 1) nov) = v.got k ∧ okl .b (List.getD (vwL v) (32 + Int.toNat (Int.ofNat k) * 1) nov) = true :=
  vw_cell (p := fun v k => asB (List.getD (vwL v) (32 + Int.toNat (Int.ofNat k) * 1) nov) = v.got k ∧ okl .b (List.getD (vwL v) (32 + Int.toNat (Int.ofNat k) * 1) nov) = true) (fun _ => ⟨rfl, rfl⟩) (fun _ => ⟨rfl, rfl⟩) (fun _ => ⟨rfl, rfl⟩) (fun _ => ⟨rfl, rfl⟩) (fun _ => ⟨rfl, rfl⟩) (fun _ => ⟨rfl, rfl⟩) (fun _ => ⟨rfl, rfl⟩) (fun _ => ⟨rfl, rfl⟩) v k h
theorem vw_miss (v : Vw) (k : Nat) (h : k < 8) : asI (List.getD (vwL v) (8 + Int.toNat (Int.ofNat k) * 1) nov) = v.miss k ∧ okl (.i .u8) (List.getD (vwL v) (8 + Int.toNat (Int.ofNat k) * 1) nov) = true :=
  vw_cell (p := fun v k => asI (List.getD (vwL v) (8 + Int.toNat (Int.ofNat k) * 1) nov) = v.miss k ∧ okl (.i .u8) (List.getD (vwL v) (8 + Int.toNat (Int.ofNat k) * 1) nov) = true) (fun _ => ⟨rfl, rfl⟩) (fun _ => ⟨rfl, rfl⟩) (fun _ => ⟨rfl, rfl⟩) (fun _ => ⟨rfl, rfl⟩) (fun _ => ⟨rfl, rfl⟩) (fun _ => ⟨rfl, rfl⟩) (fun _ => ⟨rfl, rfl⟩) (fun _ => ⟨rfl, rfl⟩) v k h
theorem vw_good (v : Vw) (k : Nat) (h : k < 8) : asI (List.getD (vwL v) (16 + Int.toNat (Int.ofNat k) * 1) nov) = v.good k ∧ okl (.i .u8) (List.getD (vwL v) (16 + Int.toNat (Int.ofNat k) * 1) nov) = true :=
  vw_cell (p := fun v k => asI (List.getD (vwL v) (16 + Int.toNat (Int.ofNat k) * 1) nov) = v.good k ∧ okl (.i .u8) (List.getD (vwL v) (16 + Int.toNat (Int.ofNat k) * 1) nov) = true) (fun _ => ⟨rfl, rfl⟩) (fun _ => ⟨rfl, rfl⟩) (fun _ => ⟨rfl, rfl⟩) (fun _ => ⟨rfl, rfl⟩) (fun _ => ⟨rfl, rfl⟩) (fun _ => ⟨rfl, rfl⟩) (fun _ => ⟨rfl, rfl⟩) (fun _ => ⟨rfl, rfl⟩) v k h
theorem vw_score (v : Vw) (k : Nat) (h : k < 8) : asI (List.getD (vwL v) (24 + Int.toNat (Int.ofNat k) * 1) nov) = v.score k ∧ okl (.i .u16) (List.getD (vwL v) (24 + Int.toNat (Int.ofNat k) * 1) nov) = true :=
  vw_cell (p := fun v k => asI (List.getD (vwL v) (24 + Int.toNat (Int.ofNat k) * 1) nov) = v.score k ∧ okl (.i .u16) (List.getD (vwL v) (24 + Int.toNat (Int.ofNat k) * 1) nov) = true) (fun _ => ⟨rfl, rfl⟩) (fun _ => ⟨rfl, rfl⟩) (fun _ => ⟨rfl, rfl⟩) (fun _ => ⟨rfl, rfl⟩) (fun _ => ⟨rfl, rfl⟩) (fun _ => ⟨rfl, rfl⟩) (fun _ => ⟨rfl, rfl⟩) (fun _ => ⟨rfl, rfl⟩) v k h
/-! members.empty: a view, a pair -/
def emptyB (v : Vw) (k : Nat) : Bool := !v.inn k && (!v.got k && (decide (v.miss k = 0) && (decide (v.good k = 0) && decide (v.score k = 0))))
/-- a view and plain values -/
def vwPR (R : List AC → List AV → AV) : List AV → AV
  | .agg l :: r => R l r
  | _ => i64 0
def vwPP (pre : List AC → List AV → Bool) : List AV → Bool
  | .agg l :: r => isVw l && pre l r
  | _ => false
def emB (l : List AC) (z : Int) : Bool := !asB (l.getD z.toNat nov) && (!asB (l.getD (32 + z.toNat) nov) && (decide (asI (l.getD (8 + z.toNat) nov) = 0) && (decide (asI (l.getD (16 + z.toNat) nov) = 0) && decide (asI (l.getD (24 + z.toNat) nov) = 0))))
def emR (l : List AC) : List AV → AV
  | [.c (.v (.int .i64 z))] => bo (emB l z)
  | _ => i64 0
theorem emB_eq {v : Vw} {k : Nat} (hk : k < 8) : emB (vwL v) (Int.ofNat k) = emptyB v k := by
  have a0 := vw_inn v k hk
  have a1 := (vw_got v k hk).1
  have a2 := (vw_miss v k hk).1
  have a3 := (vw_good v k hk).1
  have a4 := (vw_score v k hk).1
  simp only [Nat.zero_add, Nat.mul_one, Int.ofNat_eq_natCast, Int.toNat_natCast] at a0 a1 a2 a3 a4
  simp only [emB, Int.ofNat_eq_natCast, Int.toNat_natCast, a0, a1, a2, a3, a4, emptyB]
def emPr (_ : List AC) : List AV → Bool
  | [.c (.v (.int .i64 z))] => decide (0 ≤ z) && decide (z < 8)
  | _ => false
def ctEmpty : CtF := ctRd (pureRd [] rfl) (vwPR emR) (vwPP emPr)
theorem ct_empty : CtOk Tryd.prog 54 ctEmpty := by
  refine ctRd_ofE (E := E1 Tryd.prog) hE1 (pureRd [] rfl) (fuel := 300) (str := 10000000000000000000000000000000000000000) ⟨_, _, Tryd.func54, rfl⟩ (fun s => by unfold vwPR emR; (repeat' split) <;> rfl) fun s hs => ?_
  unfold vwPP at hs
  split at hs
  · rename_i l r
    rw [Bool.and_eq_true] at hs
    obtain ⟨hl, hs⟩ := hs
    have e := vw_eq hl
    generalize vwOf l = v at e
    subst e
    unfold emPr at hs
    split at hs
    · rename_i z
      simp only [Bool.and_eq_true, decide_eq_true_eq] at hs
      obtain ⟨h0, h1⟩ := hs
      obtain ⟨k, rfl⟩ := Int.eq_ofNat_of_zero_le h0
      have hk : k < 8 := by omega
      refine (?_ : (∃ p q, emE Tryd.prog v k p = some q ∧ GoodF (vwPR emR [.agg (vwL v), i64 (Int.ofNat k)]) q) → _) (mbEm v k _ ?_)
      · rintro ⟨p, q, h1, h2⟩
        exact ⟨p, [], q, h1, h2⟩
      · have hR : vwPR emR [.agg (vwL v), i64 (Int.ofNat k)] = bo (emptyB v k) := by
          show bo _ = bo _
          rw [← emB_eq hk]
        rw [hR]
        simp only [vw_inn v k hk, (vw_got v k hk).1, (vw_miss v k hk).1, (vw_good v k hk).1, (vw_score v k hk).1, vw_innB v k hk, (vw_got v k hk).2, (vw_miss v k hk).2, (vw_good v k hk).2, (vw_score v k hk).2]
        (repeat' (first | refine ⟨fun h => ?_, fun h => ?_⟩ | fail))
        all_goals (refine ⟨?_, (by first | (unfold lim; omega) | (dsimp only; unfold lim; omega)), ?_, by simp⟩)
        all_goals first
          | (simp_all [emptyB, bo]; done)
          | (simp_all [emptyB, bo, Bool.beq_eq_decide_eq]; done)
          | (simp_all [emptyB, bo, decide_eq_decide, beq_eq_decide]; done)
          | (simp_all [allT, inb_lit, Vw.len]; done)
          | (simp_all [allT, inb_lit, Vw.len]; omega)
    · cases hs
  · cases hs
/-! members.First, members.Heard -/
def hrdR (c : Cfg) (nq : Nat) (fq : Nat → Int) (l : List AC) : List AV → AV
  | [.c (.v (.int .i64 z))] => .agg (hrdL (decide (0 ≤ headN c nq fq z)) z l)
  | _ => i64 0
def hrdC (c : Cfg) (_ : List AC) : List AV → Bool
  | [.c (.v (.int .i64 _))] => decide (c.np ≤ 8)
  | _ => false
/-- of a net, a view and plain values, with a condition on the config -/
def pW (pre : Cfg → List AC → List AV → Bool) : NetS → Bool
  | ⟨c, _, _, .agg l :: r⟩ => isVw l && pre c l r
  | _ => false
theorem ctVwW_of {G : AMem} (hG : (G.all fun p => Nat.ble lim p.1) = true) {E : Env} (hE : EnvOk E) {f : FuncId} {R : Cfg → Nat → (Nat → Int) → List AC → List AV → AV} {pre : Cfg → List AC → List AV → Bool} (hf : ∃ (fn : Func) (c : Code), E.P.funcs[f]? = some fn ∧ fn.body = some c) (hres : ∀ c nq fq v r, plainR (R c nq fq v r) = true)
    (run : ∀ c nq fq v r, pre c (vwL v) r = true → ∃ p lp q, viewF [] (fCallF E (fC E 300) f (.c (.ptr 5 0 0) :: .agg (vwL v) :: r) 1000 10000000000000000000000000000000000000000 (stA (G ++ netL c nq fq) p lp)) = some q ∧ GoodF (R c nq fq (vwL v) r) q) : CtOk E.P f (ctRd (netRdG G hG) (rV R) (pW pre)) := by
  refine ctRd_ofE hE (netRdG G hG) (fuel := 300) (str := 10000000000000000000000000000000000000000) hf (rV_plain hres) fun s hs => ?_
  unfold pW at hs
  split at hs
  · rename_i c nq fq l r
    rw [Bool.and_eq_true] at hs
    have e := vw_eq hs.1
    rw [e]
    rw [e] at hs
    exact run c nq fq (vwOf l) r hs.2
  · cases hs
theorem hrdV_f (z : Int) (v : Vw) : hrdV false z v = v := by
  cases v
  simp [hrdV, hGt]
def ctHrd : CtF := ctRd netRd (rV hrdR) (pW hrdC)
theorem headN_in {c : Cfg} {nq : Nat} {fq : Nat → Int} {z : Int} (h : 0 ≤ headN c nq fq z) : 0 ≤ z ∧ z < c.np := by
  unfold headN atF at h
  split at h
  · omega
  · split at h
    · assumption
    · omega
theorem ct_hrd : CtOk Tryd.prog 22 ctHrd := by
  refine ctVwW_of (G := mS) (by kernel_rfl) (E := ENf Tryd.prog) hENf ⟨_, _, Tryd.func22, rfl⟩ (fun c nq fq v r => by unfold hrdR; split <;> rfl) fun c nq fq v r hr => ?_
  unfold hrdC at hr
  split at hr
  · rename_i z
    have h8 : c.np ≤ 8 := of_decide_eq_true hr
    refine (?_ : (∃ p q, vwE (ENf Tryd.prog) 22 c nq fq v [i64 z] p [] = some q ∧ GoodF (.agg (hrdL (decide (0 ≤ headN c nq fq z)) z (vwL v))) q) → _) (mbHe c nq fq v z _ ?_)
    · rintro ⟨p, q, h1, h2⟩
      exact ⟨p, [], q, h1, h2⟩
    · refine ⟨fun h => ?_, fun h => ?_⟩
      · have hd : 0 ≤ headN c nq fq z := by simpa using h
        obtain ⟨z0, z1⟩ := headN_in hd
        have e : decide (0 ≤ headN c nq fq z) = true := decide_eq_true hd
        rw [e]
        have hz : z = 0 ∨ z = 1 ∨ z = 2 ∨ z = 3 ∨ z = 4 ∨ z = 5 ∨ z = 6 ∨ z = 7 := by omega
        rcases hz with rfl | rfl | rfl | rfl | rfl | rfl | rfl | rfl
        all_goals (refine ⟨rfl, (by first | (unfold lim; omega) | (dsimp only; unfold lim; omega)), ?_, by simp⟩)
        all_goals (simp_all [allT, cfgK_t, netK_t, intsOk_ints, stsOk_sts, intsOk_s, stsOk_s, pickC, okl, inb_lit, Vw.len])
      · have hd : decide (0 ≤ headN c nq fq z) = false := by simpa using h
        rw [hd]
        refine ⟨?_, (by first | (unfold lim; omega) | (dsimp only; unfold lim; omega)), ?_, by simp⟩
        · show AV.agg (vwL v) = AV.agg (hrdL false z (vwL v))
          rw [hrdL_eq, hrdV_f]
        · simp_all [allT, cfgK_t, netK_t, intsOk_ints, stsOk_sts, intsOk_s, stsOk_s]
  · cases hr
end Go.Proofs.YthekiiagacnhkaaDoor
end
/- What a net answers, Round, as the evaluator runs it. -/
section
namespace Go.Proofs.YthekiiagacnhkaaDoor
open Go.RowKit

theorem nRound (c : Cfg) (nq : Nat) (fq : Nat → Int) (Q : VF → Prop) (H : (((!decide (↑nq > Int.ofNat 0)) = true → Q (.c (.v (.int .i64 (Int.ofNat 0))), [], 1016, [(!decide (↑nq > Int.ofNat 0)) == true, true], [])) ∧ ((!decide (↑nq > Int.ofNat 0)) = false → Q (.c (.v (.int .i64 (IntKind.wrap .i64 (↑(c.ns) * c.long)))), [], 130000000000000000000000000000000000001015, [true, true, true, (!decide (↑nq > Int.ofNat 0)) == false, true], [])))) :
    ∃ p r, netR Tryd.prog 38 c nq fq [] p = some r ∧ Q r :=
  two H
  (fun g1 => ⟨pD 7 729, _, by kernel_rfl, g1⟩)
  (fun g1 => ⟨pD 7 1458, _, by kernel_rfl, g1⟩)
end Go.Proofs.YthekiiagacnhkaaDoor
end
/- Contract of what a net answers: Round. -/
section
namespace Go.Proofs.YthekiiagacnhkaaDoor
open Go.RowKit

theorem ct_round : CtOk Tryd.prog 38 (ctNet (fun c nq _ _ => i64 (roundN c nq)) fun c nq fq zs => true && decide (zs.length = 0)) := by
  refine ctNet_of ⟨_, _, Tryd.func38, rfl⟩ (fun c nq fq zs => plain_i64 _) 0 fun c nq fq zs _ hz => ?_
  obtain rfl := List.length_eq_zero_iff.1 hz
  refine (?_ : (∃ p r, netR Tryd.prog 38 c nq fq [] p = some r ∧ (r.1 = i64 (roundN c nq) ∧ r.2.2.1 ≤ lim ∧ allT r.2.2.2.1 ∧ ∀ q ∈ r.2.2.2.2, q)) → _) (nRound c nq fq _ ?_)
  · rintro ⟨p, r, h1, h2⟩
    exact ⟨E1 Tryd.prog, 300, 10000000000000000000000000000000000000000, rfl, hE1, p, [], r, h1, h2⟩
  · refine ⟨fun h => ?_, fun h => ?_⟩
    · refine ⟨?_, (by first | (unfold lim; omega) | (dsimp only; unfold lim; omega)), ?_, by simp⟩
      · show i64 _ = i64 _
        simp at h
        simp [roundN, h]
      · simp at h
        simp [allT, h]
    · refine ⟨?_, (by first | (unfold lim; omega) | (dsimp only; unfold lim; omega)), ?_, by simp⟩
      · show i64 _ = i64 _
        simp at h
        unfold roundN
        rw [if_neg (by omega)]
      · simp at h
        simp [allT]
        omega
end Go.Proofs.YthekiiagacnhkaaDoor
end
/- members.May as the evaluator runs it. -/
section
namespace Go.Proofs.YthekiiagacnhkaaDoor
open Go.RowKit

def ctsMy : List (FuncId × CtF) := [(53, ctFirst), (38, ctRoundN), (54, ctEmpty)]
theorem ctsMy_ok : ∀ f g, (f, g) ∈ ctsMy → CtOk Tryd.prog f g := by
  intro f g h
  simp only [ctsMy, List.mem_cons, Prod.mk.injEq, List.not_mem_nil, or_false] at h
  rcases h with ⟨rfl, rfl⟩ | ⟨rfl, rfl⟩ | ⟨rfl, rfl⟩
  · exact ct_first
  · exact ct_round
  · exact ct_empty
def ENmy (P : Program) : Env := ⟨P, ctsMy⟩
theorem hENmy : EnvOk (ENmy Tryd.prog) := envOk ctsMy_ok (by kernel_rfl) (by kernel_rfl)
abbrev myH : List Nat := [0, 3, 32]
abbrev myI : List Nat := netIds ++ [1000]
abbrev myV (k : Nat) : List AV := [.c (.ptr 5 0 0), .c (.ptr 1000 0 0), i64 (Int.ofNat k)]
def myRn (P : Program) (c : Cfg) (nq : Nat) (fq : Nat → Int) (v : Vw) (k : Nat) (path : List Dec) : Option VC :=
  view (myH ++ [4]) myI (fC (ENmy P) 100 (loopAt P 20 0) 1000000000000000000000000000000000000000000 10000000000000000000000000000000000000000 (stH 67 myH myI (myV k) (netBk c nq fq ++ [vwB v]) path []))
theorem mbMy (c : Cfg) (nq : Nat) (fq : Nat → Int) (v : Vw) (k : Nat) (Q : VC → Prop) (H : let zz0 := [some (ABlk.mk false false 163 0 (Cs.lit [AC.v (Value.int IntKind.i64 (Int.ofNat 1)), AC.v (Value.int IntKind.i64 (Int.negSucc 0))])), some (ABlk.mk false false 3 1 (Cs.arr (Cfg.np c) fun k => List.map AC.v ((fun i => [Value.int IntKind.i64 (Cfg.fp c i)]) k))), some (ABlk.mk false false 3 1 (Cs.arr (Cfg.ns c) fun k => List.map AC.v ((fun i => [Value.int IntKind.i64 (Cfg.fs c i)]) k))), some (ABlk.mk false false 3 1 (Cs.arr (Cfg.nb c) fun k => List.map AC.v ((fun i => [Value.int IntKind.i64 (Cfg.fb c i)]) k))), some (ABlk.mk false false 39 3 (Cs.arr (Cfg.nt c) fun k => List.map AC.v ((fun i => [Value.int IntKind.i64 (Station.node (Cfg.ft c i)), Value.int IntKind.u32 (Station.safe (Cfg.ft c i)), Value.int IntKind.i64 (Station.hold (Cfg.ft c i))]) k))), some (ABlk.mk false false 3 1 (Cs.arr nq fun k => List.map AC.v ((fun i => [Value.int IntKind.i64 (fq i)]) k))), some (ABlk.mk false false 106 0 (Cs.lit [AC.v (Value.int IntKind.i64 (Cfg.nodes c)), AC.sl 0 0 0 (Cfg.np c) none, AC.sl 1 0 0 (Cfg.ns c) none, AC.v (Value.int IntKind.i64 (Cfg.long c)), AC.sl 2 0 0 (Cfg.nb c) none, AC.sl 3 0 0 (Cfg.nt c) none, AC.v (Value.int IntKind.i64 (Cfg.miss c)), AC.v (Value.int IntKind.i64 (Cfg.good c)), AC.v (Value.int IntKind.i64 (Cfg.fresh c)), AC.sl 4 0 0 nq none])), some (ABlk.mk true false 47 0 (Cs.lit (vwL v)))]; let zz1 := (List.getD (vwL v) (8 + Int.toNat (Int.ofNat k) * 1) nov); let zz2 := [some (lkA (List.zip myH (myV k)) 0), some (lkA (List.zip myH (myV k)) 3), some (lkA (List.zip myH (myV k)) 32), some (AV.c (AC.v (Value.bool false)))]; let zz3 := (List.getD (vwL v) (16 + Int.toNat (Int.ofNat k) * 1) nov); let zz4 := (List.getD (vwL v) (24 + Int.toNat (Int.ofNat k) * 1) nov); let zz5 := [AV.agg (vwL v), AV.c (AC.v (Value.int IntKind.i64 (Int.ofNat k)))]; let zz6 := [some (lkA (List.zip myH (myV k)) 0), some (lkA (List.zip myH (myV k)) 3), some (AV.c (AC.v (Value.int IntKind.i64 (IntKind.wrap IntKind.i64 (Int.ofNat k + Int.ofNat 1))))), some (lkA (List.zip myH (myV k)) 4)]; (((decide (Int.ofNat k < Int.ofNat 8)) = true → (((decide (headN c nq fq (Int.ofNat k) < Int.ofNat 0)) = true → (((!emB (vwL v) (Int.ofNat k)) = true → Q (Exit.ret, zz2, zz0, 67, 1000000000000000000000000000000000000000013, [(!emB (vwL v) (Int.ofNat k)) == true, true, vwPP emPr zz5, true, true, true, true, true, true, true, true, true, true, true, true, true, true, true, true, true, true, true, true, true, true, true, true, true, true, true, true, true, true, true, true, true, true, true, true, true, true, true, true, true, true, true, decide (headN c nq fq (Int.ofNat k) < Int.ofNat 0) == true, netK c nq fq, true, decide (Int.ofNat k < Int.ofNat 8) == true], [])) ∧ ((!emB (vwL v) (Int.ofNat k)) = false → (((decide (asI zz1 > Int.ofNat 100)) = true → Q (Exit.ret, zz2, zz0, 67, 1000000000000000000000000000000000000000023, [decide (asI zz1 > Int.ofNat 100) == true, ABlk.inb (ABlk.mk true false 47 0 (Cs.lit (vwL v))) 0 (8 + Int.toNat (Int.ofNat k) * 1 + 1), okl (Kd.i .u8) zz1, decide (Int.ofNat 0 ≤ Int.ofNat k ∧ Int.ofNat k < Int.ofNat 8), (!emB (vwL v) (Int.ofNat k)) == false, true, vwPP emPr zz5, true, true, true, true, true, true, true, true, true, true, true, true, true, true, true, true, true, true, true, true, true, true, true, true, true, true, true, true, true, true, true, true, true, true, true, true, true, true, true, true, true, true, true, decide (headN c nq fq (Int.ofNat k) < Int.ofNat 0) == true, netK c nq fq, true, decide (Int.ofNat k < Int.ofNat 8) == true], [])) ∧ ((decide (asI zz1 > Int.ofNat 100)) = false → (((decide (asI zz3 > Int.ofNat 100)) = true → Q (Exit.ret, zz2, zz0, 67, 1000000000000000000000000000000000000000028, [decide (asI zz3 > Int.ofNat 100) == true, ABlk.inb (ABlk.mk true false 47 0 (Cs.lit (vwL v))) 0 (16 + Int.toNat (Int.ofNat k) * 1 + 1), okl (Kd.i .u8) zz3, decide (Int.ofNat 0 ≤ Int.ofNat k ∧ Int.ofNat k < Int.ofNat 8), decide (asI zz1 > Int.ofNat 100) == false, ABlk.inb (ABlk.mk true false 47 0 (Cs.lit (vwL v))) 0 (8 + Int.toNat (Int.ofNat k) * 1 + 1), okl (Kd.i .u8) zz1, decide (Int.ofNat 0 ≤ Int.ofNat k ∧ Int.ofNat k < Int.ofNat 8), (!emB (vwL v) (Int.ofNat k)) == false, true, vwPP emPr zz5, true, true, true, true, true, true, true, true, true, true, true, true, true, true, true, true, true, true, true, true, true, true, true, true, true, true, true, true, true, true, true, true, true, true, true, true, true, true, true, true, true, true, true, decide (headN c nq fq (Int.ofNat k) < Int.ofNat 0) == true, netK c nq fq, true, decide (Int.ofNat k < Int.ofNat 8) == true], [])) ∧ ((decide (asI zz3 > Int.ofNat 100)) = false → (((decide (asI zz4 > Int.ofNat 1000)) = true → Q (Exit.ret, zz2, zz0, 67, 1000000000000000000000000000000000000000033, [decide (asI zz4 > Int.ofNat 1000) == true, ABlk.inb (ABlk.mk true false 47 0 (Cs.lit (vwL v))) 0 (24 + Int.toNat (Int.ofNat k) * 1 + 1), okl (Kd.i .u16) zz4, decide (Int.ofNat 0 ≤ Int.ofNat k ∧ Int.ofNat k < Int.ofNat 8), decide (asI zz3 > Int.ofNat 100) == false, ABlk.inb (ABlk.mk true false 47 0 (Cs.lit (vwL v))) 0 (16 + Int.toNat (Int.ofNat k) * 1 + 1), okl (Kd.i .u8) zz3, decide (Int.ofNat 0 ≤ Int.ofNat k ∧ Int.ofNat k < Int.ofNat 8), decide (asI zz1 > Int.ofNat 100) == false, ABlk.inb (ABlk.mk true false 47 0 (Cs.lit (vwL v))) 0 (8 + Int.toNat (Int.ofNat k) * 1 + 1), okl (Kd.i .u8) zz1, decide (Int.ofNat 0 ≤ Int.ofNat k ∧ Int.ofNat k < Int.ofNat 8), (!emB (vwL v) (Int.ofNat k)) == false, true, vwPP emPr zz5, true, true, true, true, true, true, true, true, true, true, true, true, true, true, true, true, true, true, true, true, true, true, true, true, true, true, true, true, true, true, true, true, true, true, true, true, true, true, true, true, true, true, true, decide (headN c nq fq (Int.ofNat k) < Int.ofNat 0) == true, netK c nq fq, true, decide (Int.ofNat k < Int.ofNat 8) == true], [])) ∧ ((decide (asI zz4 > Int.ofNat 1000)) = false → Q (Exit.normal, zz6, zz0, 67, 1000000000000000000000000000000000000000034, [decide (asI zz4 > Int.ofNat 1000) == false, ABlk.inb (ABlk.mk true false 47 0 (Cs.lit (vwL v))) 0 (24 + Int.toNat (Int.ofNat k) * 1 + 1), okl (Kd.i .u16) zz4, decide (Int.ofNat 0 ≤ Int.ofNat k ∧ Int.ofNat k < Int.ofNat 8), decide (asI zz3 > Int.ofNat 100) == false, ABlk.inb (ABlk.mk true false 47 0 (Cs.lit (vwL v))) 0 (16 + Int.toNat (Int.ofNat k) * 1 + 1), okl (Kd.i .u8) zz3, decide (Int.ofNat 0 ≤ Int.ofNat k ∧ Int.ofNat k < Int.ofNat 8), decide (asI zz1 > Int.ofNat 100) == false, ABlk.inb (ABlk.mk true false 47 0 (Cs.lit (vwL v))) 0 (8 + Int.toNat (Int.ofNat k) * 1 + 1), okl (Kd.i .u8) zz1, decide (Int.ofNat 0 ≤ Int.ofNat k ∧ Int.ofNat k < Int.ofNat 8), (!emB (vwL v) (Int.ofNat k)) == false, true, vwPP emPr zz5, true, true, true, true, true, true, true, true, true, true, true, true, true, true, true, true, true, true, true, true, true, true, true, true, true, true, true, true, true, true, true, true, true, true, true, true, true, true, true, true, true, true, true, decide (headN c nq fq (Int.ofNat k) < Int.ofNat 0) == true, netK c nq fq, true, decide (Int.ofNat k < Int.ofNat 8) == true], [])))))))))) ∧ ((decide (headN c nq fq (Int.ofNat k) < Int.ofNat 0)) = false → (((decide (asI zz1 > Int.ofNat 100)) = true → Q (Exit.ret, zz2, zz0, 67, 1000000000000000000000000000000000000000020, [decide (asI zz1 > Int.ofNat 100) == true, ABlk.inb (ABlk.mk true false 47 0 (Cs.lit (vwL v))) 0 (8 + Int.toNat (Int.ofNat k) * 1 + 1), okl (Kd.i .u8) zz1, decide (Int.ofNat 0 ≤ Int.ofNat k ∧ Int.ofNat k < Int.ofNat 8), decide (headN c nq fq (Int.ofNat k) < Int.ofNat 0) == false, netK c nq fq, true, decide (Int.ofNat k < Int.ofNat 8) == true], [])) ∧ ((decide (asI zz1 > Int.ofNat 100)) = false → (((decide (asI zz3 > Int.ofNat 100)) = true → Q (Exit.ret, zz2, zz0, 67, 1000000000000000000000000000000000000000025, [decide (asI zz3 > Int.ofNat 100) == true, ABlk.inb (ABlk.mk true false 47 0 (Cs.lit (vwL v))) 0 (16 + Int.toNat (Int.ofNat k) * 1 + 1), okl (Kd.i .u8) zz3, decide (Int.ofNat 0 ≤ Int.ofNat k ∧ Int.ofNat k < Int.ofNat 8), decide (asI zz1 > Int.ofNat 100) == false, ABlk.inb (ABlk.mk true false 47 0 (Cs.lit (vwL v))) 0 (8 + Int.toNat (Int.ofNat k) * 1 + 1), okl (Kd.i .u8) zz1, decide (Int.ofNat 0 ≤ Int.ofNat k ∧ Int.ofNat k < Int.ofNat 8), decide (headN c nq fq (Int.ofNat k) < Int.ofNat 0) == false, netK c nq fq, true, decide (Int.ofNat k < Int.ofNat 8) == true], [])) ∧ ((decide (asI zz3 > Int.ofNat 100)) = false → (((decide (asI zz4 > Int.ofNat 1000)) = true → Q (Exit.ret, zz2, zz0, 67, 1000000000000000000000000000000000000000030, [decide (asI zz4 > Int.ofNat 1000) == true, ABlk.inb (ABlk.mk true false 47 0 (Cs.lit (vwL v))) 0 (24 + Int.toNat (Int.ofNat k) * 1 + 1), okl (Kd.i .u16) zz4, decide (Int.ofNat 0 ≤ Int.ofNat k ∧ Int.ofNat k < Int.ofNat 8), decide (asI zz3 > Int.ofNat 100) == false, ABlk.inb (ABlk.mk true false 47 0 (Cs.lit (vwL v))) 0 (16 + Int.toNat (Int.ofNat k) * 1 + 1), okl (Kd.i .u8) zz3, decide (Int.ofNat 0 ≤ Int.ofNat k ∧ Int.ofNat k < Int.ofNat 8), decide (asI zz1 > Int.ofNat 100) == false, ABlk.inb (ABlk.mk true false 47 0 (Cs.lit (vwL v))) 0 (8 + Int.toNat (Int.ofNat k) * 1 + 1), okl (Kd.i .u8) zz1, decide (Int.ofNat 0 ≤ Int.ofNat k ∧ Int.ofNat k < Int.ofNat 8), decide (headN c nq fq (Int.ofNat k) < Int.ofNat 0) == false, netK c nq fq, true, decide (Int.ofNat k < Int.ofNat 8) == true], [])) ∧ ((decide (asI zz4 > Int.ofNat 1000)) = false → Q (Exit.normal, zz6, zz0, 67, 1000000000000000000000000000000000000000031, [decide (asI zz4 > Int.ofNat 1000) == false, ABlk.inb (ABlk.mk true false 47 0 (Cs.lit (vwL v))) 0 (24 + Int.toNat (Int.ofNat k) * 1 + 1), okl (Kd.i .u16) zz4, decide (Int.ofNat 0 ≤ Int.ofNat k ∧ Int.ofNat k < Int.ofNat 8), decide (asI zz3 > Int.ofNat 100) == false, ABlk.inb (ABlk.mk true false 47 0 (Cs.lit (vwL v))) 0 (16 + Int.toNat (Int.ofNat k) * 1 + 1), okl (Kd.i .u8) zz3, decide (Int.ofNat 0 ≤ Int.ofNat k ∧ Int.ofNat k < Int.ofNat 8), decide (asI zz1 > Int.ofNat 100) == false, ABlk.inb (ABlk.mk true false 47 0 (Cs.lit (vwL v))) 0 (8 + Int.toNat (Int.ofNat k) * 1 + 1), okl (Kd.i .u8) zz1, decide (Int.ofNat 0 ≤ Int.ofNat k ∧ Int.ofNat k < Int.ofNat 8), decide (headN c nq fq (Int.ofNat k) < Int.ofNat 0) == false, netK c nq fq, true, decide (Int.ofNat k < Int.ofNat 8) == true], [])))))))))) ∧ ((decide (Int.ofNat k < Int.ofNat 8)) = false → Q (Exit.exit 0, [some (lkA (List.zip myH (myV k)) 0), some (lkA (List.zip myH (myV k)) 3), some (lkA (List.zip myH (myV k)) 32), some (lkA (List.zip myH (myV k)) 4)], zz0, 67, 1000000000000000000000000000000000000000001, [decide (Int.ofNat k < Int.ofNat 8) == false], [])))) :
    ∃ p r, myRn Tryd.prog c nq fq v k p = some r ∧ Q r :=
  two H
  (fun g1 => two g1
    (fun g2 => two g2
      (fun g3 => ⟨pD 6 247, _, by kernel_rfl, g3⟩)
      (fun g3 => two g3
        (fun g4 => ⟨pD 17 1219, _, by kernel_rfl, g4⟩)
        (fun g4 => two g4
          (fun g5 => ⟨pD 17 179095, _, by kernel_rfl, g5⟩)
          (fun g5 => two g5
            (fun g6 => ⟨pD 17 43402963, _, by kernel_rfl, g6⟩)
            (fun g6 => ⟨pD 17 86449684, _, by kernel_rfl, g6⟩)))))
    (fun g2 => two g2
      (fun g3 => ⟨pD 17 736, _, by kernel_rfl, g3⟩)
      (fun g3 => two g3
        (fun g4 => ⟨pD 17 178612, _, by kernel_rfl, g4⟩)
        (fun g4 => two g4
          (fun g5 => ⟨pD 17 43402480, _, by kernel_rfl, g5⟩)
          (fun g5 => ⟨pD 17 86449201, _, by kernel_rfl, g5⟩)))))
  (fun g1 => ⟨pD 1 2, _, by kernel_rfl, g1⟩)
theorem mbMyN (c : Cfg) (nq : Nat) (fq : Nat → Int) (v : Vw) (Q : VF → Prop) (H : let zz0 := [some (ABlk.mk false false 163 0 (Cs.lit [AC.v (Value.int IntKind.i64 (Int.ofNat 1)), AC.v (Value.int IntKind.i64 (Int.negSucc 0))])), some (ABlk.mk false false 3 1 (Cs.arr (Cfg.np c) fun k => List.map AC.v ((fun i => [Value.int IntKind.i64 (Cfg.fp c i)]) k))), some (ABlk.mk false false 3 1 (Cs.arr (Cfg.ns c) fun k => List.map AC.v ((fun i => [Value.int IntKind.i64 (Cfg.fs c i)]) k))), some (ABlk.mk false false 3 1 (Cs.arr (Cfg.nb c) fun k => List.map AC.v ((fun i => [Value.int IntKind.i64 (Cfg.fb c i)]) k))), some (ABlk.mk false false 39 3 (Cs.arr (Cfg.nt c) fun k => List.map AC.v ((fun i => [Value.int IntKind.i64 (Station.node (Cfg.ft c i)), Value.int IntKind.u32 (Station.safe (Cfg.ft c i)), Value.int IntKind.i64 (Station.hold (Cfg.ft c i))]) k))), some (ABlk.mk false false 3 1 (Cs.arr nq fun k => List.map AC.v ((fun i => [Value.int IntKind.i64 (fq i)]) k))), some (ABlk.mk false false 106 0 (Cs.lit [AC.v (Value.int IntKind.i64 (Cfg.nodes c)), AC.sl 0 0 0 (Cfg.np c) none, AC.sl 1 0 0 (Cfg.ns c) none, AC.v (Value.int IntKind.i64 (Cfg.long c)), AC.sl 2 0 0 (Cfg.nb c) none, AC.sl 3 0 0 (Cfg.nt c) none, AC.v (Value.int IntKind.i64 (Cfg.miss c)), AC.v (Value.int IntKind.i64 (Cfg.good c)), AC.v (Value.int IntKind.i64 (Cfg.fresh c)), AC.sl 4 0 0 nq none])), some (ABlk.mk true false 47 0 (Cs.lit (vwL v)))]; let zz1 := (headN c nq fq (IntKind.wrap IntKind.i64 (Vw.command v)) < Int.ofNat 0); (((roundN c nq == Int.ofNat 0) = true → Q (.c (.v (.bool false)), [], 1011, [(roundN c nq == Int.ofNat 0) == true, netK c nq fq, true], [])) ∧ ((roundN c nq == Int.ofNat 0) = false → (((decide (Vw.command v < Int.negSucc 0)) = true → Q (.c (.v (.bool false)), [], 1014, [decide (Vw.command v < Int.negSucc 0) == true, true, true, (roundN c nq == Int.ofNat 0) == false, netK c nq fq, true], [])) ∧ ((decide (Vw.command v < Int.negSucc 0)) = false → (((decide (Vw.command v ≥ Int.ofNat 0)) = true → (((decide zz1) = true → Q (.c (.v (.bool false)), [], 1024, [decide zz1 == true, netK c nq fq, true, true, true, decide (Vw.command v ≥ Int.ofNat 0) == true, true, true, decide (Vw.command v < Int.negSucc 0) == false, true, true, (roundN c nq == Int.ofNat 0) == false, netK c nq fq, true], [])) ∧ ((decide zz1) = false → (((decide (Vw.mode v > Int.ofNat 4)) = true → Q (.c (.v (.bool false)), [], 1027, [decide (Vw.mode v > Int.ofNat 4) == true, true, true, decide zz1 == false, netK c nq fq, true, true, true, decide (Vw.command v ≥ Int.ofNat 0) == true, true, true, decide (Vw.command v < Int.negSucc 0) == false, true, true, (roundN c nq == Int.ofNat 0) == false, netK c nq fq, true], [])) ∧ ((decide (Vw.mode v > Int.ofNat 4)) = false → Q (.c (.v (.bool false)), [], 100000000000000000000000000000000000000000000000000, [decide (Vw.mode v > Int.ofNat 4) == false, true, true, decide zz1 == false, netK c nq fq, true, true, true, decide (Vw.command v ≥ Int.ofNat 0) == true, true, true, decide (Vw.command v < Int.negSucc 0) == false, true, true, (roundN c nq == Int.ofNat 0) == false, netK c nq fq, true], [LoopV Tryd.prog (loopAt Tryd.prog 20 0) myH myI [some (.c (.ptr 5 0 0)), some (.c (.ptr 1000 0 0)), some (.c (.v (.int .i64 (Int.ofNat 0))))] zz0 67 1027 (mkFr 67 [(4, bo false)]) [] 100000000000000000000000000000000000000000000000000 Exit.ret none])))))) ∧ ((decide (Vw.command v ≥ Int.ofNat 0)) = false → (((decide (Vw.mode v > Int.ofNat 4)) = true → Q (.c (.v (.bool false)), [], 1022, [decide (Vw.mode v > Int.ofNat 4) == true, true, true, decide (Vw.command v ≥ Int.ofNat 0) == false, true, true, decide (Vw.command v < Int.negSucc 0) == false, true, true, (roundN c nq == Int.ofNat 0) == false, netK c nq fq, true], [])) ∧ ((decide (Vw.mode v > Int.ofNat 4)) = false → Q (.c (.v (.bool false)), [], 100000000000000000000000000000000000000000000000000, [decide (Vw.mode v > Int.ofNat 4) == false, true, true, decide (Vw.command v ≥ Int.ofNat 0) == false, true, true, decide (Vw.command v < Int.negSucc 0) == false, true, true, (roundN c nq == Int.ofNat 0) == false, netK c nq fq, true], [LoopV Tryd.prog (loopAt Tryd.prog 20 0) myH myI [some (.c (.ptr 5 0 0)), some (.c (.ptr 1000 0 0)), some (.c (.v (.int .i64 (Int.ofNat 0))))] zz0 67 1022 (mkFr 67 [(4, bo false)]) [] 100000000000000000000000000000000000000000000000000 Exit.ret none])))))))))) :
    ∃ p r, vwE (ENmy Tryd.prog) 20 c nq fq v [] p [some ⟨myH, myI, mkFr 67 [(4, bo false)], [], 100000000000000000000000000000000000000000000000000, .ret⟩] = some r ∧ Q r :=
  two H
  (fun g1 => ⟨pD 12 1, _, by kernel_rfl, g1⟩)
  (fun g1 => two g1
    (fun g2 => ⟨pD 12 29, _, by kernel_rfl, g2⟩)
    (fun g2 => two g2
      (fun g3 => two g3
        (fun g4 => ⟨pD 18 4785212, _, by kernel_rfl, g4⟩)
        (fun g4 => two g4
          (fun g5 => ⟨pD 18 138708344, _, by kernel_rfl, g5⟩)
          (fun g5 => ⟨pD 18 267848507, _, by kernel_rfl, g5⟩)))
      (fun g3 => two g3
        (fun g4 => ⟨pD 18 129144593, _, by kernel_rfl, g4⟩)
        (fun g4 => ⟨pD 18 258284756, _, by kernel_rfl, g4⟩))))
theorem mbMyY (c : Cfg) (nq : Nat) (fq : Nat → Int) (v : Vw) (Q : VF → Prop) (H : let zz0 := [some (ABlk.mk false false 163 0 (Cs.lit [AC.v (Value.int IntKind.i64 (Int.ofNat 1)), AC.v (Value.int IntKind.i64 (Int.negSucc 0))])), some (ABlk.mk false false 3 1 (Cs.arr (Cfg.np c) fun k => List.map AC.v ((fun i => [Value.int IntKind.i64 (Cfg.fp c i)]) k))), some (ABlk.mk false false 3 1 (Cs.arr (Cfg.ns c) fun k => List.map AC.v ((fun i => [Value.int IntKind.i64 (Cfg.fs c i)]) k))), some (ABlk.mk false false 3 1 (Cs.arr (Cfg.nb c) fun k => List.map AC.v ((fun i => [Value.int IntKind.i64 (Cfg.fb c i)]) k))), some (ABlk.mk false false 39 3 (Cs.arr (Cfg.nt c) fun k => List.map AC.v ((fun i => [Value.int IntKind.i64 (Station.node (Cfg.ft c i)), Value.int IntKind.u32 (Station.safe (Cfg.ft c i)), Value.int IntKind.i64 (Station.hold (Cfg.ft c i))]) k))), some (ABlk.mk false false 3 1 (Cs.arr nq fun k => List.map AC.v ((fun i => [Value.int IntKind.i64 (fq i)]) k))), some (ABlk.mk false false 106 0 (Cs.lit [AC.v (Value.int IntKind.i64 (Cfg.nodes c)), AC.sl 0 0 0 (Cfg.np c) none, AC.sl 1 0 0 (Cfg.ns c) none, AC.v (Value.int IntKind.i64 (Cfg.long c)), AC.sl 2 0 0 (Cfg.nb c) none, AC.sl 3 0 0 (Cfg.nt c) none, AC.v (Value.int IntKind.i64 (Cfg.miss c)), AC.v (Value.int IntKind.i64 (Cfg.good c)), AC.v (Value.int IntKind.i64 (Cfg.fresh c)), AC.sl 4 0 0 nq none])), some (ABlk.mk true false 47 0 (Cs.lit (vwL v)))]; let zz1 := (headN c nq fq (IntKind.wrap IntKind.i64 (Vw.command v)) < Int.ofNat 0); (((roundN c nq == Int.ofNat 0) = true → Q (.c (.v (.bool false)), [], 1011, [(roundN c nq == Int.ofNat 0) == true, netK c nq fq, true], [])) ∧ ((roundN c nq == Int.ofNat 0) = false → (((decide (Vw.command v < Int.negSucc 0)) = true → Q (.c (.v (.bool false)), [], 1014, [decide (Vw.command v < Int.negSucc 0) == true, true, true, (roundN c nq == Int.ofNat 0) == false, netK c nq fq, true], [])) ∧ ((decide (Vw.command v < Int.negSucc 0)) = false → (((decide (Vw.command v ≥ Int.ofNat 0)) = true → (((decide zz1) = true → Q (.c (.v (.bool false)), [], 1024, [decide zz1 == true, netK c nq fq, true, true, true, decide (Vw.command v ≥ Int.ofNat 0) == true, true, true, decide (Vw.command v < Int.negSucc 0) == false, true, true, (roundN c nq == Int.ofNat 0) == false, netK c nq fq, true], [])) ∧ ((decide zz1) = false → (((decide (Vw.mode v > Int.ofNat 4)) = true → Q (.c (.v (.bool false)), [], 1027, [decide (Vw.mode v > Int.ofNat 4) == true, true, true, decide zz1 == false, netK c nq fq, true, true, true, decide (Vw.command v ≥ Int.ofNat 0) == true, true, true, decide (Vw.command v < Int.negSucc 0) == false, true, true, (roundN c nq == Int.ofNat 0) == false, netK c nq fq, true], [])) ∧ ((decide (Vw.mode v > Int.ofNat 4)) = false → Q (.c (.v (.bool true)), [], 100000000000000000000000000000000000000000000000001, [decide (Vw.mode v > Int.ofNat 4) == false, true, true, decide zz1 == false, netK c nq fq, true, true, true, decide (Vw.command v ≥ Int.ofNat 0) == true, true, true, decide (Vw.command v < Int.negSucc 0) == false, true, true, (roundN c nq == Int.ofNat 0) == false, netK c nq fq, true], [LoopV Tryd.prog (loopAt Tryd.prog 20 0) myH myI [some (.c (.ptr 5 0 0)), some (.c (.ptr 1000 0 0)), some (.c (.v (.int .i64 (Int.ofNat 0))))] zz0 67 1027 (mkFr 67 []) [] 100000000000000000000000000000000000000000000000000 (Exit.exit 0) none])))))) ∧ ((decide (Vw.command v ≥ Int.ofNat 0)) = false → (((decide (Vw.mode v > Int.ofNat 4)) = true → Q (.c (.v (.bool false)), [], 1022, [decide (Vw.mode v > Int.ofNat 4) == true, true, true, decide (Vw.command v ≥ Int.ofNat 0) == false, true, true, decide (Vw.command v < Int.negSucc 0) == false, true, true, (roundN c nq == Int.ofNat 0) == false, netK c nq fq, true], [])) ∧ ((decide (Vw.mode v > Int.ofNat 4)) = false → Q (.c (.v (.bool true)), [], 100000000000000000000000000000000000000000000000001, [decide (Vw.mode v > Int.ofNat 4) == false, true, true, decide (Vw.command v ≥ Int.ofNat 0) == false, true, true, decide (Vw.command v < Int.negSucc 0) == false, true, true, (roundN c nq == Int.ofNat 0) == false, netK c nq fq, true], [LoopV Tryd.prog (loopAt Tryd.prog 20 0) myH myI [some (.c (.ptr 5 0 0)), some (.c (.ptr 1000 0 0)), some (.c (.v (.int .i64 (Int.ofNat 0))))] zz0 67 1022 (mkFr 67 []) [] 100000000000000000000000000000000000000000000000000 (Exit.exit 0) none])))))))))) :
    ∃ p r, vwE (ENmy Tryd.prog) 20 c nq fq v [] p [some ⟨myH, myI, mkFr 67 [], [], 100000000000000000000000000000000000000000000000000, .exit 0⟩] = some r ∧ Q r :=
  two H
  (fun g1 => ⟨pD 12 1, _, by kernel_rfl, g1⟩)
  (fun g1 => two g1
    (fun g2 => ⟨pD 12 29, _, by kernel_rfl, g2⟩)
    (fun g2 => two g2
      (fun g3 => two g3
        (fun g4 => ⟨pD 18 4785212, _, by kernel_rfl, g4⟩)
        (fun g4 => two g4
          (fun g5 => ⟨pD 18 138708344, _, by kernel_rfl, g5⟩)
          (fun g5 => ⟨pD 18 267848507, _, by kernel_rfl, g5⟩)))
      (fun g3 => two g3
        (fun g4 => ⟨pD 18 129144593, _, by kernel_rfl, g4⟩)
        (fun g4 => ⟨pD 18 258284756, _, by kernel_rfl, g4⟩))))
end Go.Proofs.YthekiiagacnhkaaDoor
end
/- members.May: its contract. -/
section
namespace Go.Proofs.YthekiiagacnhkaaDoor
open Go.RowKit

theorem mayP_eq (t : Nat → Bool) (v : Vw) (k : Nat) : mayP t v k = ((t k || emptyB v k) && (decide (v.miss k ≤ 100) && (decide (v.good k ≤ 100) && decide (v.score k ≤ 1000)))) := rfl
set_option maxHeartbeats 1000000 in
theorem my_ob (c : Cfg) (nq : Nat) (fq : Nat → Int) (v : Vw) (N : Nat) (hN : 1010 ≤ N) (hN2 : N ≤ 1000000000000000000000000000000000000000000) (hk : myI.all (keptB N 100000000000000000000000000000000000000000000000000) = true) (hv : ∀ k, (myV k).all (okV N) = true) (j : Nat) (hj : j ≤ 8) (hmin : ∀ i, i < j → mayP (hasB c nq fq) v i = true) (hyes : j < 8 → mayP (hasB c nq fq) v j = false) {e : Exit} {out : List (Nat × AV)}
    (hF : (j < 8 → e = .ret ∧ out = [(4, bo false)]) ∧ (j = 8 → e = .exit 0 ∧ out = [])) :
    LoopV Tryd.prog (loopAt Tryd.prog 20 0) myH myI ((myV 0).map some) ((netBk c nq fq ++ [vwB v]).map some) 67 N (mkFr 67 out) [] 100000000000000000000000000000000000000000000000000 e none := by
  refine scan_ob hENmy (fuel := 100) (str := 10000000000000000000000000000000000000000) (nh := 1000000000000000000000000000000000000000000) myH [4] myI myV (netBk c nq fq ++ [vwB v]) j hN2 (by decide) (by unfold lim; omega) ?_ (fun _ => ⟨rfl, rfl⟩) hk (fun k _ => hv k) ?_ ?_ ?_
  · rcases Nat.lt_or_ge j 8 with h | h
    · rw [(hF.1 h).1]; simp
    · rw [(hF.2 (by omega)).1]; simp
  · intro b hb
    rcases List.mem_append.1 hb with h | h
    · exact netBk_low (by omega) b h
    · rw [List.mem_singleton.1 h]; exact vwB_low
  · intro k hkj
    have hm := hmin k hkj
    have hk8 : k < 8 := by omega
    refine mbMy c nq fq v k _ ?_
    rw [mayP_eq] at hm
    clear hmin hyes hF hv hk
    have w1 : IntKind.wrap IntKind.i64 (Int.ofNat k + Int.ofNat 1) = Int.ofNat (k + 1) := by rw [wrap_nat _ (by simp; omega) (by simp; omega)]; rfl
    rw [show hasB c nq fq k = decide (0 ≤ headN c nq fq (Int.ofNat k)) from rfl] at hm
    obtain ⟨b0, hb0⟩ : ∃ b, emptyB v k = b := ⟨_, rfl⟩
    rw [hb0] at hm
    simp only [emB_eq hk8, (vw_miss v k hk8).1, (vw_good v k hk8).1, (vw_score v k hk8).1, (vw_miss v k hk8).2, (vw_good v k hk8).2, (vw_score v k hk8).2, List.headD_cons, w1, hb0]
    clear hb0
    cases b0
    all_goals (simp only [Bool.or_true, Bool.or_false, Bool.true_and, Bool.and_eq_true, Bool.and_eq_false_iff, decide_eq_true_eq, decide_eq_false_iff_not] at hm)
    all_goals (repeat' (first | refine ⟨fun h => ?_, fun h => ?_⟩ | fail))
    all_goals (first | contradiction | (exfalso; have hx := ‹(!true) = true›; cases hx; done) | (exfalso; have hx := ‹(!false) = false›; cases hx; done) | (exfalso; simp only [decide_eq_true_eq, decide_eq_false_iff_not, Int.ofNat_eq_natCast, Int.cast_ofNat_Int, gt_iff_lt] at *; omega) | skip)
    all_goals (refine ⟨⟨?_, rfl, by dsimp only; omega, rfl⟩, rfl, rfl, BL.refl _⟩)
    all_goals first
      | (simp_all [allT, cfgK_t, netK_t, intsOk_ints, stsOk_sts, intsOk_s, stsOk_s, inb_lit, Vw.len, isVw_cells, vwPP, emPr]; done)
      | (simp_all [allT, cfgK_t, netK_t, intsOk_ints, stsOk_sts, intsOk_s, stsOk_s, inb_lit, Vw.len, isVw_cells, vwPP, emPr]; omega)
      | (simp_all [allT, cfgK_t, netK_t, intsOk_ints, stsOk_sts, intsOk_s, stsOk_s, inb_lit, Vw.len, isVw_cells, vwPP, emPr]; omega)
  · rcases Nat.lt_or_ge j 8 with hk8 | hge
    · obtain ⟨rfl, rfl⟩ := hF.1 hk8
      have hm := hyes hk8
      clear hmin hyes hF hv hk
      rw [mayP_eq] at hm
      refine mbMy c nq fq v j _ ?_
      rw [show hasB c nq fq j = decide (0 ≤ headN c nq fq (Int.ofNat j)) from rfl] at hm
      obtain ⟨b0, hb0⟩ : ∃ b, emptyB v j = b := ⟨_, rfl⟩
      rw [hb0] at hm
      simp only [emB_eq hk8, (vw_miss v j hk8).1, (vw_good v j hk8).1, (vw_score v j hk8).1, (vw_miss v j hk8).2, (vw_good v j hk8).2, (vw_score v j hk8).2, List.headD_cons, hb0]
      clear hb0
      cases b0
      all_goals (simp only [Bool.or_true, Bool.or_false, Bool.true_and, Bool.and_eq_true, Bool.and_eq_false_iff, decide_eq_true_eq, decide_eq_false_iff_not] at hm)
      all_goals (repeat' (first | refine ⟨fun h => ?_, fun h => ?_⟩ | fail))
      all_goals (first | contradiction | (exfalso; have hx := ‹(!true) = true›; cases hx; done) | (exfalso; have hx := ‹(!false) = false›; cases hx; done) | (exfalso; simp only [decide_eq_true_eq, decide_eq_false_iff_not, Int.ofNat_eq_natCast, Int.cast_ofNat_Int, gt_iff_lt] at *; omega) | skip)
      all_goals (refine EndV_one ⟨?_, rfl, by dsimp only; omega, rfl⟩ rfl rfl ?_)
      all_goals first
        | (simp [bo]; done)
        | (simp_all [allT, cfgK_t, netK_t, intsOk_ints, stsOk_sts, intsOk_s, stsOk_s, inb_lit, Vw.len, isVw_cells, vwPP, emPr]; done)
        | (simp_all [allT, cfgK_t, netK_t, intsOk_ints, stsOk_sts, intsOk_s, stsOk_s, inb_lit, Vw.len, isVw_cells, vwPP, emPr]; omega)
        | (simp_all [allT, cfgK_t, netK_t, intsOk_ints, stsOk_sts, intsOk_s, stsOk_s, inb_lit, Vw.len, isVw_cells, vwPP, emPr]; omega)
    · obtain ⟨rfl, rfl⟩ := hF.2 (by omega)
      refine mbMy c nq fq v j _ ?_
      refine ⟨fun h1 => ?_, fun h1 => ?_⟩
      · exfalso; simp at h1; omega
      · refine EndV_nil ⟨?_, rfl, by dsimp only; omega, rfl⟩ rfl
        simp [allT]; omega
/-- may a view's command and mode be? -/
def mayH (c : Cfg) (nq : Nat) (fq : Nat → Int) (cmd mode : Int) : Bool := decide (roundN c nq ≠ 0) && (decide (-1 ≤ cmd) && ((decide (cmd < 0) || decide (0 ≤ headN c nq fq (IntKind.wrap .i64 cmd))) && decide (mode ≤ 4)))
def mayB (c : Cfg) (nq : Nat) (fq : Nat → Int) (l : List AC) : Bool := mayH c nq fq (asI (l.getD 40 nov)) (asI (l.getD 41 nov)) && mayL (hasB c nq fq) l
theorem mayB_eq (c : Cfg) (nq : Nat) (fq : Nat → Int) (v : Vw) : mayB c nq fq (vwL v) = (mayH c nq fq v.command v.mode && mayL (hasB c nq fq) (vwL v)) := rfl
def mayR (c : Cfg) (nq : Nat) (fq : Nat → Int) (l : List AC) (_ : List AV) : AV := bo (mayB c nq fq l)
def ctMay : CtF := ctRd netRd (rV mayR) (pV fun _ r => r.isEmpty)
theorem ct_may : CtOk Tryd.prog 20 ctMay := by
  refine ctVw_of (E := ENmy Tryd.prog) hENmy ⟨_, _, Tryd.func20, rfl⟩ (fun _ _ _ _ _ => rfl) fun c nq fq v r hr => ?_
  obtain rfl := List.isEmpty_iff.1 hr
  have hR : mayR c nq fq (vwL v) [] = bo (mayH c nq fq v.command v.mode && mayL (hasB c nq fq) (vwL v)) := rfl
  rw [hR]
  obtain ⟨j, hj, hmin, hyes⟩ := first_stop 8 fun p => !mayP (hasB c nq fq) v p
  have hmin : ∀ i, i < j → mayP (hasB c nq fq) v i = true := fun i hi => by simpa using hmin i hi
  have hyes : j < 8 → mayP (hasB c nq fq) v j = false := fun h => by simpa using hyes h
  rcases Nat.lt_or_ge j 8 with h8 | h8
  · have hL : mayL (hasB c nq fq) (vwL v) = false := by
      cases h : mayL (hasB c nq fq) (vwL v) with
      | false => rfl
      | true => rw [(mayL_iff _ _).1 h j h8] at hyes; exact absurd (hyes h8) (by simp)
    rw [hL, Bool.and_false]
    refine (?_ : (∃ p q, vwE (ENmy Tryd.prog) 20 c nq fq v [] p [some ⟨myH, myI, mkFr 67 [(4, bo false)], [], 100000000000000000000000000000000000000000000000000, .ret⟩] = some q ∧ GoodF (bo false) q) → _) (mbMyN c nq fq v _ ?_)
    · rintro ⟨p, q, h1, h2⟩
      exact ⟨p, _, q, h1, h2⟩
    · have hs : ∀ N, 1010 ≤ N → N ≤ 1000000000000000000000000000000000000000000 → myI.all (keptB N 100000000000000000000000000000000000000000000000000) = true → (∀ k, (myV k).all (okV N) = true) → _ := fun N a b d f => my_ob c nq fq v N a b d f j hj hmin hyes (e := .ret) (out := [(4, bo false)]) ⟨fun _ => ⟨rfl, rfl⟩, fun h => by omega⟩
      (repeat' (first | refine ⟨fun h => ?_, fun h => ?_⟩ | fail))
      all_goals (refine ⟨rfl, (by first | (unfold lim; omega) | (dsimp only; unfold lim; omega)), ?_, fun q hq => ?_⟩)
      all_goals first
        | (cases hq; done)
        | (rw [List.mem_singleton.1 hq]; exact hs _ (by omega) (by omega) (by kernel_rfl) (fun _ => rfl))
        | (simp_all [allT, cfgK_t, netK_t, intsOk_ints, stsOk_sts, intsOk_s, stsOk_s, isVw_cells]; done)
        | (simp_all [allT, cfgK_t, netK_t, intsOk_ints, stsOk_sts, intsOk_s, stsOk_s, isVw_cells]; omega)
  · obtain rfl : j = 8 := by omega
    have hL : mayL (hasB c nq fq) (vwL v) = true := (mayL_iff _ _).2 hmin
    rw [hL, Bool.and_true]
    refine (?_ : (∃ p q, vwE (ENmy Tryd.prog) 20 c nq fq v [] p [some ⟨myH, myI, mkFr 67 [], [], 100000000000000000000000000000000000000000000000000, .exit 0⟩] = some q ∧ GoodF (bo (mayH c nq fq v.command v.mode)) q) → _) (mbMyY c nq fq v _ ?_)
    · rintro ⟨p, q, h1, h2⟩
      exact ⟨p, _, q, h1, h2⟩
    · have hs : ∀ N, 1010 ≤ N → N ≤ 1000000000000000000000000000000000000000000 → myI.all (keptB N 100000000000000000000000000000000000000000000000000) = true → (∀ k, (myV k).all (okV N) = true) → _ := fun N a b d f => my_ob c nq fq v N a b d f 8 hj hmin hyes (e := .exit 0) (out := []) ⟨fun h => by omega, fun _ => ⟨rfl, rfl⟩⟩
      (repeat' (first | refine ⟨fun h => ?_, fun h => ?_⟩ | fail))
      all_goals (refine ⟨?_, (by first | (unfold lim; omega) | (dsimp only; unfold lim; omega)), ?_, fun q hq => ?_⟩)
      all_goals first
        | (cases hq; done)
        | (rw [List.mem_singleton.1 hq]; exact hs _ (by omega) (by omega) (by kernel_rfl) (fun _ => rfl))
        | (simp_all [mayH, bo]; done)
        | (simp_all [mayH, bo]; omega)
        | (simp_all [allT, cfgK_t, netK_t, intsOk_ints, stsOk_sts, intsOk_s, stsOk_s, isVw_cells]; done)
        | (simp_all [allT, cfgK_t, netK_t, intsOk_ints, stsOk_sts, intsOk_s, stsOk_s, isVw_cells]; omega)
end Go.Proofs.YthekiiagacnhkaaDoor
end
/- members.Round as the evaluator runs it. -/
section
namespace Go.Proofs.YthekiiagacnhkaaDoor
open Go.RowKit

def ctsRd : List (FuncId × CtF) := [(97, ctClnSt), (58, ctSc .u8 upZ), (60, ctSc .u16 penZ), (59, ctSc .u16 rewZ)]
theorem ctsRd_ok : ∀ f g, (f, g) ∈ ctsRd → CtOk Tryd.prog f g := by
  intro f g h
  simp only [ctsRd, List.mem_cons, Prod.mk.injEq, List.not_mem_nil, or_false] at h
  rcases h with ⟨rfl, rfl⟩ | ⟨rfl, rfl⟩ | ⟨rfl, rfl⟩ | ⟨rfl, rfl⟩
  · exact ct_clnSt
  · exact ct_up
  · exact ct_pen
  · exact ct_rew
def ENrd (P : Program) : Env := ⟨P, ctsRd⟩
theorem hENrd : EnvOk (ENrd Tryd.prog) := envOk ctsRd_ok (by kernel_rfl) (by kernel_rfl)
def vw0 : Vw := ⟨fun _ => false, fun _ => 0, fun _ => 0, fun _ => 0, fun _ => false, 0, 0⟩
abbrev rdH : List Nat := [3, 4, 5, 11, 12]
abbrev rdS (u : Vw) : LSum := ⟨rdH, [1000, 1001, 1128], mkFr 99 [(3, .c (.ptr 1000 0 0)), (4, .c (.ptr 1001 0 0))], [(1000, vwB u), (1001, vwB vw0)], 100000000000000000000000000000000000000000000000000, .exit 0⟩
theorem mbRdD (c : Cfg) (nq : Nat) (fq : Nat → Int) (v u : Vw) (Q : VF → Prop) (H : Q (.agg [.v (.bool (Vw.inn u 0)), .v (.bool (Vw.inn u 1)), .v (.bool (Vw.inn u 2)), .v (.bool (Vw.inn u 3)), .v (.bool (Vw.inn u 4)), .v (.bool (Vw.inn u 5)), .v (.bool (Vw.inn u 6)), .v (.bool (Vw.inn u 7)), .v (.int .u8 (Vw.miss u 0)), .v (.int .u8 (Vw.miss u 1)), .v (.int .u8 (Vw.miss u 2)), .v (.int .u8 (Vw.miss u 3)), .v (.int .u8 (Vw.miss u 4)), .v (.int .u8 (Vw.miss u 5)), .v (.int .u8 (Vw.miss u 6)), .v (.int .u8 (Vw.miss u 7)), .v (.int .u8 (Vw.good u 0)), .v (.int .u8 (Vw.good u 1)), .v (.int .u8 (Vw.good u 2)), .v (.int .u8 (Vw.good u 3)), .v (.int .u8 (Vw.good u 4)), .v (.int .u8 (Vw.good u 5)), .v (.int .u8 (Vw.good u 6)), .v (.int .u8 (Vw.good u 7)), .v (.int .u16 (Vw.score u 0)), .v (.int .u16 (Vw.score u 1)), .v (.int .u16 (Vw.score u 2)), .v (.int .u16 (Vw.score u 3)), .v (.int .u16 (Vw.score u 4)), .v (.int .u16 (Vw.score u 5)), .v (.int .u16 (Vw.score u 6)), .v (.int .u16 (Vw.score u 7)), .v (.bool (Vw.got u 0)), .v (.bool (Vw.got u 1)), .v (.bool (Vw.got u 2)), .v (.bool (Vw.got u 3)), .v (.bool (Vw.got u 4)), .v (.bool (Vw.got u 5)), .v (.bool (Vw.got u 6)), .v (.bool (Vw.got u 7)), .v (.int .i8 (Vw.command u)), .v (.int .u8 (Vw.mode u))], [], 100000000000000000000000000000000000000000000000002, [true, true, true, true, true, true, true, true, true, true, true, true, true, true, true, true, true, true, true, true, true, true, true, true, true, true, true, true, true, true, true, true, true, true, true, true, true, true, true, true, true, true, true, true, true, true, true, true, true, true, true, true, true, true, true, true, true, true, true, true, true, true, true, true, true, true, true, true, true, true, true, true, true, true, true, true, true, true, true, true, true, true, true, true, true, true, true, true, true, true, true, true, true, true, true, true, true, true, true, true, true, true, true, true, true, true, true, true, true, true, decide (Int.ofNat 0 ≤ Int.ofNat 0 ∧ Int.ofNat 0 ≤ Option.getD (some ↑(c.nt)) ↑(c.nt) ∧ Option.getD (some ↑(c.nt)) ↑(c.nt) ≤ slC none (c.nt) (some ↑(c.nt))), true, decide (slC none (c.nt) (some ↑(c.nt)) ≤ ↑(Option.getD none (c.nt))), true, slRow none (ABlk.mk true true 39 3 (Cs.arr (c.nt) fun k => List.map AC.v ((fun i => [Value.int .i64 (Station.node (stOf (eltZ (ABlk.mk false false 39 3 (Cs.arr (c.nt) fun k => List.map AC.v ((fun i => [Value.int .i64 (Station.node (c.ft i)), Value.int .u32 (Station.safe (c.ft i)), Value.int .i64 (Station.hold (c.ft i))]) k))) 0 0 3) i)), Value.int .u32 (Station.safe (stOf (eltZ (ABlk.mk false false 39 3 (Cs.arr (c.nt) fun k => List.map AC.v ((fun i => [Value.int .i64 (Station.node (c.ft i)), Value.int .u32 (Station.safe (c.ft i)), Value.int .i64 (Station.hold (c.ft i))]) k))) 0 0 3) i)), Value.int .i64 (Station.hold (stOf (eltZ (ABlk.mk false false 39 3 (Cs.arr (c.nt) fun k => List.map AC.v ((fun i => [Value.int .i64 (Station.node (c.ft i)), Value.int .u32 (Station.safe (c.ft i)), Value.int .i64 (Station.hold (c.ft i))]) k))) 0 0 3) i))]) k))) 0 (c.nt), decide (0 + c.nt ≤ c.nt), decide (c.nt ≤ 1000000), stsOk (c.nt) fun k => List.map AC.v ((fun i => [Value.int .i64 (Station.node (c.ft i)), Value.int .u32 (Station.safe (c.ft i)), Value.int .i64 (Station.hold (c.ft i))]) k), true, true, decide (Int.ofNat 0 ≤ Int.ofNat 0 ∧ Int.ofNat 0 ≤ Option.getD (some ↑(0 + c.nb)) ↑(0 + c.nb) ∧ Option.getD (some ↑(0 + c.nb)) ↑(0 + c.nb) ≤ slC none (0 + c.nb) (some ↑(0 + c.nb))), true, decide (slC none (0 + c.nb) (some ↑(0 + c.nb)) ≤ ↑(Option.getD none (0 + c.nb))), true, slRow none (ABlk.mk true true 3 1 (Cs.arr (0 + c.nb) fun i => if i < 0 then [] else elt (ABlk.mk false false 3 1 (Cs.arr (c.nb) fun k => List.map AC.v ((fun i => [Value.int .i64 (c.fb i)]) k))) 0 0 1 (i - 0))) 0 (0 + c.nb), decide (0 + c.nb ≤ c.nb), true, true, decide ((0 + c.nb) * 8 ≤ 140737488355328), ABlk.inb (ABlk.mk false false 3 1 (Cs.arr (c.nb) fun k => List.map AC.v ((fun i => [Value.int .i64 (c.fb i)]) k))) 0 1, true, true, true, true, decide (Int.ofNat 0 ≤ Int.ofNat 0 ∧ Int.ofNat 0 ≤ Option.getD (some ↑(0 + c.ns)) ↑(0 + c.ns) ∧ Option.getD (some ↑(0 + c.ns)) ↑(0 + c.ns) ≤ slC none (0 + c.ns) (some ↑(0 + c.ns))), true, decide (slC none (0 + c.ns) (some ↑(0 + c.ns)) ≤ ↑(Option.getD none (0 + c.ns))), true, slRow none (ABlk.mk true true 3 1 (Cs.arr (0 + c.ns) fun i => if i < 0 then [] else elt (ABlk.mk false false 3 1 (Cs.arr (c.ns) fun k => List.map AC.v ((fun i => [Value.int .i64 (c.fs i)]) k))) 0 0 1 (i - 0))) 0 (0 + c.ns), decide (0 + c.ns ≤ c.ns), true, true, decide ((0 + c.ns) * 8 ≤ 140737488355328), ABlk.inb (ABlk.mk false false 3 1 (Cs.arr (c.ns) fun k => List.map AC.v ((fun i => [Value.int .i64 (c.fs i)]) k))) 0 1, true, true, true, true, decide (Int.ofNat 0 ≤ Int.ofNat 0 ∧ Int.ofNat 0 ≤ Option.getD (some ↑(0 + c.np)) ↑(0 + c.np) ∧ Option.getD (some ↑(0 + c.np)) ↑(0 + c.np) ≤ slC none (0 + c.np) (some ↑(0 + c.np))), true, decide (slC none (0 + c.np) (some ↑(0 + c.np)) ≤ ↑(Option.getD none (0 + c.np))), true, slRow none (ABlk.mk true true 3 1 (Cs.arr (0 + c.np) fun i => if i < 0 then [] else elt (ABlk.mk false false 3 1 (Cs.arr (c.np) fun k => List.map AC.v ((fun i => [Value.int .i64 (c.fp i)]) k))) 0 0 1 (i - 0))) 0 (0 + c.np), decide (0 + c.np ≤ c.np), true, true, decide ((0 + c.np) * 8 ≤ 140737488355328), ABlk.inb (ABlk.mk false false 3 1 (Cs.arr (c.np) fun k => List.map AC.v ((fun i => [Value.int .i64 (c.fp i)]) k))) 0 1, true, true, true, true, true, true, true, true, true, (!decide (↑nq > Int.ofNat 0)) == false, true], [LoopV Tryd.prog (loopAt Tryd.prog 23 0) rdH [1000, 1001, 1128] [some (.c (.ptr 1000 0 0)), some (.c (.ptr 1001 0 0)), some (.c (.ptr 1128 0 0)), some (.c (.v (.int .i64 ↑(Int.toNat (Option.getD (some ↑(0 + c.np)) ↑(0 + c.np) - Int.ofNat 0))))), some (.c (.v (.int .i64 (Int.ofNat 0))))] [some (ABlk.mk true false 47 0 (Cs.lit (vwL v))), some (ABlk.mk true false 47 0 (Cs.lit [.v (.bool false), .v (.bool false), .v (.bool false), .v (.bool false), .v (.bool false), .v (.bool false), .v (.bool false), .v (.bool false), .v (.int .u8 (Int.ofNat 0)), .v (.int .u8 (Int.ofNat 0)), .v (.int .u8 (Int.ofNat 0)), .v (.int .u8 (Int.ofNat 0)), .v (.int .u8 (Int.ofNat 0)), .v (.int .u8 (Int.ofNat 0)), .v (.int .u8 (Int.ofNat 0)), .v (.int .u8 (Int.ofNat 0)), .v (.int .u8 (Int.ofNat 0)), .v (.int .u8 (Int.ofNat 0)), .v (.int .u8 (Int.ofNat 0)), .v (.int .u8 (Int.ofNat 0)), .v (.int .u8 (Int.ofNat 0)), .v (.int .u8 (Int.ofNat 0)), .v (.int .u8 (Int.ofNat 0)), .v (.int .u8 (Int.ofNat 0)), .v (.int .u16 (Int.ofNat 0)), .v (.int .u16 (Int.ofNat 0)), .v (.int .u16 (Int.ofNat 0)), .v (.int .u16 (Int.ofNat 0)), .v (.int .u16 (Int.ofNat 0)), .v (.int .u16 (Int.ofNat 0)), .v (.int .u16 (Int.ofNat 0)), .v (.int .u16 (Int.ofNat 0)), .v (.bool false), .v (.bool false), .v (.bool false), .v (.bool false), .v (.bool false), .v (.bool false), .v (.bool false), .v (.bool false), .v (.int .i8 (Int.ofNat 0)), .v (.int .u8 (Int.ofNat 0))])), some (ABlk.mk true false 25 0 (Cs.lit [.v (.int .i64 (c.nodes)), AC.sl 1043 0 0 (Int.toNat (Option.getD (some ↑(0 + c.np)) ↑(0 + c.np) - Int.ofNat 0)) (some (Int.toNat (↑(0 + c.np) - Int.ofNat 0))), AC.sl 1070 0 0 (Int.toNat (Option.getD (some ↑(0 + c.ns)) ↑(0 + c.ns) - Int.ofNat 0)) (some (Int.toNat (↑(0 + c.ns) - Int.ofNat 0))), .v (.int .i64 (c.long)), AC.sl 1097 0 0 (Int.toNat (Option.getD (some ↑(0 + c.nb)) ↑(0 + c.nb) - Int.ofNat 0)) (some (Int.toNat (↑(0 + c.nb) - Int.ofNat 0))), AC.sl 1114 0 0 (Int.toNat (Option.getD (some ↑(c.nt)) ↑(c.nt) - Int.ofNat 0)) (some (Int.toNat (↑(c.nt) - Int.ofNat 0))), .v (.int .i64 (c.miss)), .v (.int .i64 (c.good)), .v (.int .i64 (c.fresh))]))] 99 1134 (mkFr 99 [(3, .c (.ptr 1000 0 0)), (4, .c (.ptr 1001 0 0))]) [(1000, vwB u), (1001, vwB vw0)] 100000000000000000000000000000000000000000000000000 (Exit.exit 0) none])) :
    ∃ p r, vwE (ENrd Tryd.prog) 23 c nq fq v [] p [none, some (rdS u)] = some r ∧ Q r :=
  ⟨pD 14 1458, _, by kernel_rfl, H⟩
end Go.Proofs.YthekiiagacnhkaaDoor
end
/- members.Round: its loop's rounds as the evaluator runs them, pair by pair. Printed by wip/gen_rd.py. -/
section
namespace Go.Proofs.YthekiiagacnhkaaDoor
open Go.RowKit

abbrev rdC (c : Cfg) : ABlk := ⟨true, false, 25, 0, .lit [.v (.int .i64 c.nodes), .sl 1043 0 0 c.np (some c.np), .sl 1070 0 0 c.ns (some c.ns), .v (.int .i64 c.long), .sl 1097 0 0 c.nb (some c.nb), .sl 1114 0 0 c.nt (some c.nt), .v (.int .i64 c.miss), .v (.int .i64 c.good), .v (.int .i64 c.fresh)]⟩
abbrev rdI : List Nat := [1000, 1001, 1128]
abbrev mrV (c : Cfg) (k : Nat) : List AV := [.c (.ptr 1000 0 0), .c (.ptr 1001 0 0), .c (.ptr 1128 0 0), i64 (Int.ofNat c.np), i64 (Int.ofNat k)]
def mrR (P : Program) (c : Cfg) (u v : Vw) (k : Nat) (path : List Dec) : Option VC :=
  view (rdH ++ []) rdI (fC (ENrd P) 100 (loopAt P 23 0) 1000000000000000000000000000000000000000000 10000000000000000000000000000000000000000 (stH 99 rdH rdI (mrV c k) [vwB u, vwB v, rdC c] path []))
theorem mr0 (c : Cfg) (u v : Vw) (Q : VC → Prop) (H : let zz0 := (ABlk.mk true false 25 0 (Cs.lit [AC.v (Value.int IntKind.i64 (Cfg.nodes c)), AC.sl 1043 0 0 (Cfg.np c) (some (Cfg.np c)), AC.sl 1070 0 0 (Cfg.ns c) (some (Cfg.ns c)), AC.v (Value.int IntKind.i64 (Cfg.long c)), AC.sl 1097 0 0 (Cfg.nb c) (some (Cfg.nb c)), AC.sl 1114 0 0 (Cfg.nt c) (some (Cfg.nt c)), AC.v (Value.int IntKind.i64 (Cfg.miss c)), AC.v (Value.int IntKind.i64 (Cfg.good c)), AC.v (Value.int IntKind.i64 (Cfg.fresh c))])); let zz1 := [some (lkA (List.zip rdH (mrV c 0)) 3), some (lkA (List.zip rdH (mrV c 0)) 4), some (lkA (List.zip rdH (mrV c 0)) 5), some (lkA (List.zip rdH (mrV c 0)) 11), some (AV.c (AC.v (Value.int IntKind.i64 (Int.ofNat 1))))]; let zz2 := [AV.c (AC.v (Value.int IntKind.u16 (Vw.score u 0)))]; let zz3 := [some (ABlk.mk true false 47 0 (Cs.lit (vwL (updV 0 (Vw.inn u 0) (Int.ofNat 0) (upZ (Vw.good u 0)) (rewZ (Vw.score u 0)) false u)))), some (ABlk.mk true false 47 0 (Cs.lit (vwL v))), some zz0]; let zz4 := [some (ABlk.mk true false 47 0 (Cs.lit (vwL (updV 0 (Vw.inn u 0) (upZ (Vw.miss u 0)) (Int.ofNat 0) (penZ (Vw.score u 0)) false u)))), some (ABlk.mk true false 47 0 (Cs.lit (vwL v))), some zz0]; let zz5 := (IntKind.wrap IntKind.i64 (upZ (Vw.good u 0)) ≥ Cfg.good c); let zz6 := (IntKind.wrap IntKind.i64 (upZ (Vw.miss u 0)) ≥ Cfg.miss c); let zz7 := [AV.c (AC.v (Value.int IntKind.u8 (Vw.good u 0)))]; let zz8 := [AV.c (AC.v (Value.int IntKind.u8 (Vw.miss u 0)))]; let zz9 := [some (ABlk.mk true false 47 0 (Cs.lit (vwL (updV 0 true (Int.ofNat 0) (upZ (Vw.good u 0)) (rewZ (Vw.score u 0)) false u)))), some (ABlk.mk true false 47 0 (Cs.lit (vwL v))), some zz0]; let zz10 := [some (ABlk.mk true false 47 0 (Cs.lit (vwL (updV 0 true (upZ (Vw.miss u 0)) (Int.ofNat 0) (penZ (Vw.score u 0)) false u)))), some (ABlk.mk true false 47 0 (Cs.lit (vwL v))), some zz0]; (((Vw.got u 0) = true → (((Vw.inn u 0) = true → (((decide (Int.ofNat 0 ≥ c.miss)) = true → Q (Exit.normal, zz1, [some (ABlk.mk true false 47 0 (Cs.lit (vwL (updV 0 false (Int.ofNat 0) (upZ (Vw.good u 0)) (rewZ (Vw.score u 0)) false u)))), some (ABlk.mk true false 47 0 (Cs.lit (vwL v))), some zz0], 99, 1370000000000000000000000000000000000000017, [true, true, true, true, decide (Int.ofNat 0 ≥ c.miss) == true, true, true, true, true, true, Vw.inn u 0 == true, true, true, true, true, true, true, true, true, true, true, scP .u16 zz2, true, true, true, true, scP .u8 zz7, true, true, true, Vw.got u 0 == true, true, true, true, decide (Int.ofNat 0 < Int.ofNat (c.np)) == true], [])) ∧ ((decide (Int.ofNat 0 ≥ c.miss)) = false → (((!Vw.inn u 0) = true → (((decide zz5) = true → Q (Exit.normal, zz1, zz9, 99, 1530000000000000000000000000000000000000017, [true, true, true, true, decide zz5 == true, true, true, true, true, true, (!Vw.inn u 0) == true, true, true, true, decide (Int.ofNat 0 ≥ c.miss) == false, true, true, true, true, true, Vw.inn u 0 == true, true, true, true, true, true, true, true, true, true, true, scP .u16 zz2, true, true, true, true, scP .u8 zz7, true, true, true, Vw.got u 0 == true, true, true, true, decide (Int.ofNat 0 < Int.ofNat (c.np)) == true], [])) ∧ ((decide zz5) = false → Q (Exit.normal, zz1, zz3, 99, 1530000000000000000000000000000000000000013, [true, true, decide zz5 == false, true, true, true, true, true, (!Vw.inn u 0) == true, true, true, true, decide (Int.ofNat 0 ≥ c.miss) == false, true, true, true, true, true, Vw.inn u 0 == true, true, true, true, true, true, true, true, true, true, true, scP .u16 zz2, true, true, true, true, scP .u8 zz7, true, true, true, Vw.got u 0 == true, true, true, true, decide (Int.ofNat 0 < Int.ofNat (c.np)) == true], [])))) ∧ ((!Vw.inn u 0) = false → Q (Exit.normal, zz1, zz3, 99, 1530000000000000000000000000000000000000013, [true, true, (!Vw.inn u 0) == false, true, true, true, decide (Int.ofNat 0 ≥ c.miss) == false, true, true, true, true, true, Vw.inn u 0 == true, true, true, true, true, true, true, true, true, true, true, scP .u16 zz2, true, true, true, true, scP .u8 zz7, true, true, true, Vw.got u 0 == true, true, true, true, decide (Int.ofNat 0 < Int.ofNat (c.np)) == true], [])))))) ∧ ((Vw.inn u 0) = false → (((!Vw.inn u 0) = true → (((decide zz5) = true → Q (Exit.normal, zz1, zz9, 99, 1530000000000000000000000000000000000000017, [true, true, true, true, decide zz5 == true, true, true, true, true, true, (!Vw.inn u 0) == true, true, true, true, Vw.inn u 0 == false, true, true, true, true, true, true, true, true, true, true, scP .u16 zz2, true, true, true, true, scP .u8 zz7, true, true, true, Vw.got u 0 == true, true, true, true, decide (Int.ofNat 0 < Int.ofNat (c.np)) == true], [])) ∧ ((decide zz5) = false → Q (Exit.normal, zz1, zz3, 99, 1530000000000000000000000000000000000000013, [true, true, decide zz5 == false, true, true, true, true, true, (!Vw.inn u 0) == true, true, true, true, Vw.inn u 0 == false, true, true, true, true, true, true, true, true, true, true, scP .u16 zz2, true, true, true, true, scP .u8 zz7, true, true, true, Vw.got u 0 == true, true, true, true, decide (Int.ofNat 0 < Int.ofNat (c.np)) == true], [])))) ∧ ((!Vw.inn u 0) = false → Q (Exit.normal, zz1, zz3, 99, 1530000000000000000000000000000000000000013, [true, true, (!Vw.inn u 0) == false, true, true, true, Vw.inn u 0 == false, true, true, true, true, true, true, true, true, true, true, scP .u16 zz2, true, true, true, true, scP .u8 zz7, true, true, true, Vw.got u 0 == true, true, true, true, decide (Int.ofNat 0 < Int.ofNat (c.np)) == true], [])))))) ∧ ((Vw.got u 0) = false → (((Vw.inn u 0) = true → (((decide zz6) = true → Q (Exit.normal, zz1, [some (ABlk.mk true false 47 0 (Cs.lit (vwL (updV 0 false (upZ (Vw.miss u 0)) (Int.ofNat 0) (penZ (Vw.score u 0)) false u)))), some (ABlk.mk true false 47 0 (Cs.lit (vwL v))), some zz0], 99, 1370000000000000000000000000000000000000017, [true, true, true, true, decide zz6 == true, true, true, true, true, true, Vw.inn u 0 == true, true, true, true, true, true, true, true, true, true, true, scP .u16 zz2, true, true, true, true, scP .u8 zz8, true, true, true, Vw.got u 0 == false, true, true, true, decide (Int.ofNat 0 < Int.ofNat (c.np)) == true], [])) ∧ ((decide zz6) = false → (((!Vw.inn u 0) = true → (((decide (Int.ofNat 0 ≥ c.good)) = true → Q (Exit.normal, zz1, zz10, 99, 1530000000000000000000000000000000000000017, [true, true, true, true, decide (Int.ofNat 0 ≥ c.good) == true, true, true, true, true, true, (!Vw.inn u 0) == true, true, true, true, decide zz6 == false, true, true, true, true, true, Vw.inn u 0 == true, true, true, true, true, true, true, true, true, true, true, scP .u16 zz2, true, true, true, true, scP .u8 zz8, true, true, true, Vw.got u 0 == false, true, true, true, decide (Int.ofNat 0 < Int.ofNat (c.np)) == true], [])) ∧ ((decide (Int.ofNat 0 ≥ c.good)) = false → Q (Exit.normal, zz1, zz4, 99, 1530000000000000000000000000000000000000013, [true, true, decide (Int.ofNat 0 ≥ c.good) == false, true, true, true, true, true, (!Vw.inn u 0) == true, true, true, true, decide zz6 == false, true, true, true, true, true, Vw.inn u 0 == true, true, true, true, true, true, true, true, true, true, true, scP .u16 zz2, true, true, true, true, scP .u8 zz8, true, true, true, Vw.got u 0 == false, true, true, true, decide (Int.ofNat 0 < Int.ofNat (c.np)) == true], [])))) ∧ ((!Vw.inn u 0) = false → Q (Exit.normal, zz1, zz4, 99, 1530000000000000000000000000000000000000013, [true, true, (!Vw.inn u 0) == false, true, true, true, decide zz6 == false, true, true, true, true, true, Vw.inn u 0 == true, true, true, true, true, true, true, true, true, true, true, scP .u16 zz2, true, true, true, true, scP .u8 zz8, true, true, true, Vw.got u 0 == false, true, true, true, decide (Int.ofNat 0 < Int.ofNat (c.np)) == true], [])))))) ∧ ((Vw.inn u 0) = false → (((!Vw.inn u 0) = true → (((decide (Int.ofNat 0 ≥ c.good)) = true → Q (Exit.normal, zz1, zz10, 99, 1530000000000000000000000000000000000000017, [true, true, true, true, decide (Int.ofNat 0 ≥ c.good) == true, true, true, true, true, true, (!Vw.inn u 0) == true, true, true, true, Vw.inn u 0 == false, true, true, true, true, true, true, true, true, true, true, scP .u16 zz2, true, true, true, true, scP .u8 zz8, true, true, true, Vw.got u 0 == false, true, true, true, decide (Int.ofNat 0 < Int.ofNat (c.np)) == true], [])) ∧ ((decide (Int.ofNat 0 ≥ c.good)) = false → Q (Exit.normal, zz1, zz4, 99, 1530000000000000000000000000000000000000013, [true, true, decide (Int.ofNat 0 ≥ c.good) == false, true, true, true, true, true, (!Vw.inn u 0) == true, true, true, true, Vw.inn u 0 == false, true, true, true, true, true, true, true, true, true, true, scP .u16 zz2, true, true, true, true, scP .u8 zz8, true, true, true, Vw.got u 0 == false, true, true, true, decide (Int.ofNat 0 < Int.ofNat (c.np)) == true], [])))) ∧ ((!Vw.inn u 0) = false → Q (Exit.normal, zz1, zz4, 99, 1530000000000000000000000000000000000000013, [true, true, (!Vw.inn u 0) == false, true, true, true, Vw.inn u 0 == false, true, true, true, true, true, true, true, true, true, true, scP .u16 zz2, true, true, true, true, scP .u8 zz8, true, true, true, Vw.got u 0 == false, true, true, true, decide (Int.ofNat 0 < Int.ofNat (c.np)) == true], [])))))))) :
    ∃ p r, mrR Tryd.prog c u v 0 p = some r ∧ Q r :=
  two H
  (fun g1 => two g1
    (fun g2 => two g2
      (fun g3 => ⟨pD 11 59062, _, by kernel_rfl, g3⟩)
      (fun g3 => two g3
        (fun g4 => two g4
          (fun g5 => ⟨pD 20 1162556725, _, by kernel_rfl, g5⟩)
          (fun g5 => ⟨pD 20 2324818192, _, by kernel_rfl, g5⟩))
        (fun g4 => ⟨pD 20 472405, _, by kernel_rfl, g4⟩)))
    (fun g2 => two g2
      (fun g3 => two g3
        (fun g4 => ⟨pD 20 1162438636, _, by kernel_rfl, g4⟩)
        (fun g4 => ⟨pD 20 2324700103, _, by kernel_rfl, g4⟩))
      (fun g3 => ⟨pD 20 354316, _, by kernel_rfl, g3⟩)))
  (fun g1 => two g1
    (fun g2 => two g2
      (fun g3 => ⟨pD 11 59065, _, by kernel_rfl, g3⟩)
      (fun g3 => two g3
        (fun g4 => two g4
          (fun g5 => ⟨pD 20 1162556728, _, by kernel_rfl, g5⟩)
          (fun g5 => ⟨pD 20 2324818195, _, by kernel_rfl, g5⟩))
        (fun g4 => ⟨pD 20 472408, _, by kernel_rfl, g4⟩)))
    (fun g2 => two g2
      (fun g3 => two g3
        (fun g4 => ⟨pD 20 1162438639, _, by kernel_rfl, g4⟩)
        (fun g4 => ⟨pD 20 2324700106, _, by kernel_rfl, g4⟩))
      (fun g3 => ⟨pD 20 354319, _, by kernel_rfl, g3⟩)))
theorem mr1 (c : Cfg) (u v : Vw) (Q : VC → Prop) (H : let zz0 := (ABlk.mk true false 25 0 (Cs.lit [AC.v (Value.int IntKind.i64 (Cfg.nodes c)), AC.sl 1043 0 0 (Cfg.np c) (some (Cfg.np c)), AC.sl 1070 0 0 (Cfg.ns c) (some (Cfg.ns c)), AC.v (Value.int IntKind.i64 (Cfg.long c)), AC.sl 1097 0 0 (Cfg.nb c) (some (Cfg.nb c)), AC.sl 1114 0 0 (Cfg.nt c) (some (Cfg.nt c)), AC.v (Value.int IntKind.i64 (Cfg.miss c)), AC.v (Value.int IntKind.i64 (Cfg.good c)), AC.v (Value.int IntKind.i64 (Cfg.fresh c))])); let zz1 := [some (lkA (List.zip rdH (mrV c 1)) 3), some (lkA (List.zip rdH (mrV c 1)) 4), some (lkA (List.zip rdH (mrV c 1)) 5), some (lkA (List.zip rdH (mrV c 1)) 11), some (AV.c (AC.v (Value.int IntKind.i64 (Int.ofNat 2))))]; let zz2 := [AV.c (AC.v (Value.int IntKind.u16 (Vw.score u 1)))]; let zz3 := [some (ABlk.mk true false 47 0 (Cs.lit (vwL (updV 1 (Vw.inn u 1) (Int.ofNat 0) (upZ (Vw.good u 1)) (rewZ (Vw.score u 1)) false u)))), some (ABlk.mk true false 47 0 (Cs.lit (vwL v))), some zz0]; let zz4 := [some (ABlk.mk true false 47 0 (Cs.lit (vwL (updV 1 (Vw.inn u 1) (upZ (Vw.miss u 1)) (Int.ofNat 0) (penZ (Vw.score u 1)) false u)))), some (ABlk.mk true false 47 0 (Cs.lit (vwL v))), some zz0]; let zz5 := (IntKind.wrap IntKind.i64 (upZ (Vw.good u 1)) ≥ Cfg.good c); let zz6 := (IntKind.wrap IntKind.i64 (upZ (Vw.miss u 1)) ≥ Cfg.miss c); let zz7 := [AV.c (AC.v (Value.int IntKind.u8 (Vw.good u 1)))]; let zz8 := [AV.c (AC.v (Value.int IntKind.u8 (Vw.miss u 1)))]; let zz9 := [some (ABlk.mk true false 47 0 (Cs.lit (vwL (updV 1 true (Int.ofNat 0) (upZ (Vw.good u 1)) (rewZ (Vw.score u 1)) false u)))), some (ABlk.mk true false 47 0 (Cs.lit (vwL v))), some zz0]; let zz10 := [some (ABlk.mk true false 47 0 (Cs.lit (vwL (updV 1 true (upZ (Vw.miss u 1)) (Int.ofNat 0) (penZ (Vw.score u 1)) false u)))), some (ABlk.mk true false 47 0 (Cs.lit (vwL v))), some zz0]; (((Vw.got u 1) = true → (((Vw.inn u 1) = true → (((decide (Int.ofNat 0 ≥ c.miss)) = true → Q (Exit.normal, zz1, [some (ABlk.mk true false 47 0 (Cs.lit (vwL (updV 1 false (Int.ofNat 0) (upZ (Vw.good u 1)) (rewZ (Vw.score u 1)) false u)))), some (ABlk.mk true false 47 0 (Cs.lit (vwL v))), some zz0], 99, 1370000000000000000000000000000000000000017, [true, true, true, true, decide (Int.ofNat 0 ≥ c.miss) == true, true, true, true, true, true, Vw.inn u 1 == true, true, true, true, true, true, true, true, true, true, true, scP .u16 zz2, true, true, true, true, scP .u8 zz7, true, true, true, Vw.got u 1 == true, true, true, true, decide (Int.ofNat 1 < Int.ofNat (c.np)) == true], [])) ∧ ((decide (Int.ofNat 0 ≥ c.miss)) = false → (((!Vw.inn u 1) = true → (((decide zz5) = true → Q (Exit.normal, zz1, zz9, 99, 1530000000000000000000000000000000000000017, [true, true, true, true, decide zz5 == true, true, true, true, true, true, (!Vw.inn u 1) == true, true, true, true, decide (Int.ofNat 0 ≥ c.miss) == false, true, true, true, true, true, Vw.inn u 1 == true, true, true, true, true, true, true, true, true, true, true, scP .u16 zz2, true, true, true, true, scP .u8 zz7, true, true, true, Vw.got u 1 == true, true, true, true, decide (Int.ofNat 1 < Int.ofNat (c.np)) == true], [])) ∧ ((decide zz5) = false → Q (Exit.normal, zz1, zz3, 99, 1530000000000000000000000000000000000000013, [true, true, decide zz5 == false, true, true, true, true, true, (!Vw.inn u 1) == true, true, true, true, decide (Int.ofNat 0 ≥ c.miss) == false, true, true, true, true, true, Vw.inn u 1 == true, true, true, true, true, true, true, true, true, true, true, scP .u16 zz2, true, true, true, true, scP .u8 zz7, true, true, true, Vw.got u 1 == true, true, true, true, decide (Int.ofNat 1 < Int.ofNat (c.np)) == true], [])))) ∧ ((!Vw.inn u 1) = false → Q (Exit.normal, zz1, zz3, 99, 1530000000000000000000000000000000000000013, [true, true, (!Vw.inn u 1) == false, true, true, true, decide (Int.ofNat 0 ≥ c.miss) == false, true, true, true, true, true, Vw.inn u 1 == true, true, true, true, true, true, true, true, true, true, true, scP .u16 zz2, true, true, true, true, scP .u8 zz7, true, true, true, Vw.got u 1 == true, true, true, true, decide (Int.ofNat 1 < Int.ofNat (c.np)) == true], [])))))) ∧ ((Vw.inn u 1) = false → (((!Vw.inn u 1) = true → (((decide zz5) = true → Q (Exit.normal, zz1, zz9, 99, 1530000000000000000000000000000000000000017, [true, true, true, true, decide zz5 == true, true, true, true, true, true, (!Vw.inn u 1) == true, true, true, true, Vw.inn u 1 == false, true, true, true, true, true, true, true, true, true, true, scP .u16 zz2, true, true, true, true, scP .u8 zz7, true, true, true, Vw.got u 1 == true, true, true, true, decide (Int.ofNat 1 < Int.ofNat (c.np)) == true], [])) ∧ ((decide zz5) = false → Q (Exit.normal, zz1, zz3, 99, 1530000000000000000000000000000000000000013, [true, true, decide zz5 == false, true, true, true, true, true, (!Vw.inn u 1) == true, true, true, true, Vw.inn u 1 == false, true, true, true, true, true, true, true, true, true, true, scP .u16 zz2, true, true, true, true, scP .u8 zz7, true, true, true, Vw.got u 1 == true, true, true, true, decide (Int.ofNat 1 < Int.ofNat (c.np)) == true], [])))) ∧ ((!Vw.inn u 1) = false → Q (Exit.normal, zz1, zz3, 99, 1530000000000000000000000000000000000000013, [true, true, (!Vw.inn u 1) == false, true, true, true, Vw.inn u 1 == false, true, true, true, true, true, true, true, true, true, true, scP .u16 zz2, true, true, true, true, scP .u8 zz7, true, true, true, Vw.got u 1 == true, true, true, true, decide (Int.ofNat 1 < Int.ofNat (c.np)) == true], [])))))) ∧ ((Vw.got u 1) = false → (((Vw.inn u 1) = true → (((decide zz6) = true → Q (Exit.normal, zz1, [some (ABlk.mk true false 47 0 (Cs.lit (vwL (updV 1 false (upZ (Vw.miss u 1)) (Int.ofNat 0) (penZ (Vw.score u 1)) false u)))), some (ABlk.mk true false 47 0 (Cs.lit (vwL v))), some zz0], 99, 1370000000000000000000000000000000000000017, [true, true, true, true, decide zz6 == true, true, true, true, true, true, Vw.inn u 1 == true, true, true, true, true, true, true, true, true, true, true, scP .u16 zz2, true, true, true, true, scP .u8 zz8, true, true, true, Vw.got u 1 == false, true, true, true, decide (Int.ofNat 1 < Int.ofNat (c.np)) == true], [])) ∧ ((decide zz6) = false → (((!Vw.inn u 1) = true → (((decide (Int.ofNat 0 ≥ c.good)) = true → Q (Exit.normal, zz1, zz10, 99, 1530000000000000000000000000000000000000017, [true, true, true, true, decide (Int.ofNat 0 ≥ c.good) == true, true, true, true, true, true, (!Vw.inn u 1) == true, true, true, true, decide zz6 == false, true, true, true, true, true, Vw.inn u 1 == true, true, true, true, true, true, true, true, true, true, true, scP .u16 zz2, true, true, true, true, scP .u8 zz8, true, true, true, Vw.got u 1 == false, true, true, true, decide (Int.ofNat 1 < Int.ofNat (c.np)) == true], [])) ∧ ((decide (Int.ofNat 0 ≥ c.good)) = false → Q (Exit.normal, zz1, zz4, 99, 1530000000000000000000000000000000000000013, [true, true, decide (Int.ofNat 0 ≥ c.good) == false, true, true, true, true, true, (!Vw.inn u 1) == true, true, true, true, decide zz6 == false, true, true, true, true, true, Vw.inn u 1 == true, true, true, true, true, true, true, true, true, true, true, scP .u16 zz2, true, true, true, true, scP .u8 zz8, true, true, true, Vw.got u 1 == false, true, true, true, decide (Int.ofNat 1 < Int.ofNat (c.np)) == true], [])))) ∧ ((!Vw.inn u 1) = false → Q (Exit.normal, zz1, zz4, 99, 1530000000000000000000000000000000000000013, [true, true, (!Vw.inn u 1) == false, true, true, true, decide zz6 == false, true, true, true, true, true, Vw.inn u 1 == true, true, true, true, true, true, true, true, true, true, true, scP .u16 zz2, true, true, true, true, scP .u8 zz8, true, true, true, Vw.got u 1 == false, true, true, true, decide (Int.ofNat 1 < Int.ofNat (c.np)) == true], [])))))) ∧ ((Vw.inn u 1) = false → (((!Vw.inn u 1) = true → (((decide (Int.ofNat 0 ≥ c.good)) = true → Q (Exit.normal, zz1, zz10, 99, 1530000000000000000000000000000000000000017, [true, true, true, true, decide (Int.ofNat 0 ≥ c.good) == true, true, true, true, true, true, (!Vw.inn u 1) == true, true, true, true, Vw.inn u 1 == false, true, true, true, true, true, true, true, true, true, true, scP .u16 zz2, true, true, true, true, scP .u8 zz8, true, true, true, Vw.got u 1 == false, true, true, true, decide (Int.ofNat 1 < Int.ofNat (c.np)) == true], [])) ∧ ((decide (Int.ofNat 0 ≥ c.good)) = false → Q (Exit.normal, zz1, zz4, 99, 1530000000000000000000000000000000000000013, [true, true, decide (Int.ofNat 0 ≥ c.good) == false, true, true, true, true, true, (!Vw.inn u 1) == true, true, true, true, Vw.inn u 1 == false, true, true, true, true, true, true, true, true, true, true, scP .u16 zz2, true, true, true, true, scP .u8 zz8, true, true, true, Vw.got u 1 == false, true, true, true, decide (Int.ofNat 1 < Int.ofNat (c.np)) == true], [])))) ∧ ((!Vw.inn u 1) = false → Q (Exit.normal, zz1, zz4, 99, 1530000000000000000000000000000000000000013, [true, true, (!Vw.inn u 1) == false, true, true, true, Vw.inn u 1 == false, true, true, true, true, true, true, true, true, true, true, scP .u16 zz2, true, true, true, true, scP .u8 zz8, true, true, true, Vw.got u 1 == false, true, true, true, decide (Int.ofNat 1 < Int.ofNat (c.np)) == true], [])))))))) :
    ∃ p r, mrR Tryd.prog c u v 1 p = some r ∧ Q r :=
  two H
  (fun g1 => two g1
    (fun g2 => two g2
      (fun g3 => ⟨pD 11 59062, _, by kernel_rfl, g3⟩)
      (fun g3 => two g3
        (fun g4 => two g4
          (fun g5 => ⟨pD 20 1162556725, _, by kernel_rfl, g5⟩)
          (fun g5 => ⟨pD 20 2324818192, _, by kernel_rfl, g5⟩))
        (fun g4 => ⟨pD 20 472405, _, by kernel_rfl, g4⟩)))
    (fun g2 => two g2
      (fun g3 => two g3
        (fun g4 => ⟨pD 20 1162438636, _, by kernel_rfl, g4⟩)
        (fun g4 => ⟨pD 20 2324700103, _, by kernel_rfl, g4⟩))
      (fun g3 => ⟨pD 20 354316, _, by kernel_rfl, g3⟩)))
  (fun g1 => two g1
    (fun g2 => two g2
      (fun g3 => ⟨pD 11 59065, _, by kernel_rfl, g3⟩)
      (fun g3 => two g3
        (fun g4 => two g4
          (fun g5 => ⟨pD 20 1162556728, _, by kernel_rfl, g5⟩)
          (fun g5 => ⟨pD 20 2324818195, _, by kernel_rfl, g5⟩))
        (fun g4 => ⟨pD 20 472408, _, by kernel_rfl, g4⟩)))
    (fun g2 => two g2
      (fun g3 => two g3
        (fun g4 => ⟨pD 20 1162438639, _, by kernel_rfl, g4⟩)
        (fun g4 => ⟨pD 20 2324700106, _, by kernel_rfl, g4⟩))
      (fun g3 => ⟨pD 20 354319, _, by kernel_rfl, g3⟩)))
theorem mr2 (c : Cfg) (u v : Vw) (Q : VC → Prop) (H : let zz0 := (ABlk.mk true false 25 0 (Cs.lit [AC.v (Value.int IntKind.i64 (Cfg.nodes c)), AC.sl 1043 0 0 (Cfg.np c) (some (Cfg.np c)), AC.sl 1070 0 0 (Cfg.ns c) (some (Cfg.ns c)), AC.v (Value.int IntKind.i64 (Cfg.long c)), AC.sl 1097 0 0 (Cfg.nb c) (some (Cfg.nb c)), AC.sl 1114 0 0 (Cfg.nt c) (some (Cfg.nt c)), AC.v (Value.int IntKind.i64 (Cfg.miss c)), AC.v (Value.int IntKind.i64 (Cfg.good c)), AC.v (Value.int IntKind.i64 (Cfg.fresh c))])); let zz1 := [some (lkA (List.zip rdH (mrV c 2)) 3), some (lkA (List.zip rdH (mrV c 2)) 4), some (lkA (List.zip rdH (mrV c 2)) 5), some (lkA (List.zip rdH (mrV c 2)) 11), some (AV.c (AC.v (Value.int IntKind.i64 (Int.ofNat 3))))]; let zz2 := [AV.c (AC.v (Value.int IntKind.u16 (Vw.score u 2)))]; let zz3 := [some (ABlk.mk true false 47 0 (Cs.lit (vwL (updV 2 (Vw.inn u 2) (Int.ofNat 0) (upZ (Vw.good u 2)) (rewZ (Vw.score u 2)) false u)))), some (ABlk.mk true false 47 0 (Cs.lit (vwL v))), some zz0]; let zz4 := [some (ABlk.mk true false 47 0 (Cs.lit (vwL (updV 2 (Vw.inn u 2) (upZ (Vw.miss u 2)) (Int.ofNat 0) (penZ (Vw.score u 2)) false u)))), some (ABlk.mk true false 47 0 (Cs.lit (vwL v))), some zz0]; let zz5 := (IntKind.wrap IntKind.i64 (upZ (Vw.good u 2)) ≥ Cfg.good c); let zz6 := (IntKind.wrap IntKind.i64 (upZ (Vw.miss u 2)) ≥ Cfg.miss c); let zz7 := [AV.c (AC.v (Value.int IntKind.u8 (Vw.good u 2)))]; let zz8 := [AV.c (AC.v (Value.int IntKind.u8 (Vw.miss u 2)))]; let zz9 := [some (ABlk.mk true false 47 0 (Cs.lit (vwL (updV 2 true (Int.ofNat 0) (upZ (Vw.good u 2)) (rewZ (Vw.score u 2)) false u)))), some (ABlk.mk true false 47 0 (Cs.lit (vwL v))), some zz0]; let zz10 := [some (ABlk.mk true false 47 0 (Cs.lit (vwL (updV 2 true (upZ (Vw.miss u 2)) (Int.ofNat 0) (penZ (Vw.score u 2)) false u)))), some (ABlk.mk true false 47 0 (Cs.lit (vwL v))), some zz0]; (((Vw.got u 2) = true → (((Vw.inn u 2) = true → (((decide (Int.ofNat 0 ≥ c.miss)) = true → Q (Exit.normal, zz1, [some (ABlk.mk true false 47 0 (Cs.lit (vwL (updV 2 false (Int.ofNat 0) (upZ (Vw.good u 2)) (rewZ (Vw.score u 2)) false u)))), some (ABlk.mk true false 47 0 (Cs.lit (vwL v))), some zz0], 99, 1370000000000000000000000000000000000000017, [true, true, true, true, decide (Int.ofNat 0 ≥ c.miss) == true, true, true, true, true, true, Vw.inn u 2 == true, true, true, true, true, true, true, true, true, true, true, scP .u16 zz2, true, true, true, true, scP .u8 zz7, true, true, true, Vw.got u 2 == true, true, true, true, decide (Int.ofNat 2 < Int.ofNat (c.np)) == true], [])) ∧ ((decide (Int.ofNat 0 ≥ c.miss)) = false → (((!Vw.inn u 2) = true → (((decide zz5) = true → Q (Exit.normal, zz1, zz9, 99, 1530000000000000000000000000000000000000017, [true, true, true, true, decide zz5 == true, true, true, true, true, true, (!Vw.inn u 2) == true, true, true, true, decide (Int.ofNat 0 ≥ c.miss) == false, true, true, true, true, true, Vw.inn u 2 == true, true, true, true, true, true, true, true, true, true, true, scP .u16 zz2, true, true, true, true, scP .u8 zz7, true, true, true, Vw.got u 2 == true, true, true, true, decide (Int.ofNat 2 < Int.ofNat (c.np)) == true], [])) ∧ ((decide zz5) = false → Q (Exit.normal, zz1, zz3, 99, 1530000000000000000000000000000000000000013, [true, true, decide zz5 == false, true, true, true, true, true, (!Vw.inn u 2) == true, true, true, true, decide (Int.ofNat 0 ≥ c.miss) == false, true, true, true, true, true, Vw.inn u 2 == true, true, true, true, true, true, true, true, true, true, true, scP .u16 zz2, true, true, true, true, scP .u8 zz7, true, true, true, Vw.got u 2 == true, true, true, true, decide (Int.ofNat 2 < Int.ofNat (c.np)) == true], [])))) ∧ ((!Vw.inn u 2) = false → Q (Exit.normal, zz1, zz3, 99, 1530000000000000000000000000000000000000013, [true, true, (!Vw.inn u 2) == false, true, true, true, decide (Int.ofNat 0 ≥ c.miss) == false, true, true, true, true, true, Vw.inn u 2 == true, true, true, true, true, true, true, true, true, true, true, scP .u16 zz2, true, true, true, true, scP .u8 zz7, true, true, true, Vw.got u 2 == true, true, true, true, decide (Int.ofNat 2 < Int.ofNat (c.np)) == true], [])))))) ∧ ((Vw.inn u 2) = false → (((!Vw.inn u 2) = true → (((decide zz5) = true → Q (Exit.normal, zz1, zz9, 99, 1530000000000000000000000000000000000000017, [true, true, true, true, decide zz5 == true, true, true, true, true, true, (!Vw.inn u 2) == true, true, true, true, Vw.inn u 2 == false, true, true, true, true, true, true, true, true, true, true, scP .u16 zz2, true, true, true, true, scP .u8 zz7, true, true, true, Vw.got u 2 == true, true, true, true, decide (Int.ofNat 2 < Int.ofNat (c.np)) == true], [])) ∧ ((decide zz5) = false → Q (Exit.normal, zz1, zz3, 99, 1530000000000000000000000000000000000000013, [true, true, decide zz5 == false, true, true, true, true, true, (!Vw.inn u 2) == true, true, true, true, Vw.inn u 2 == false, true, true, true, true, true, true, true, true, true, true, scP .u16 zz2, true, true, true, true, scP .u8 zz7, true, true, true, Vw.got u 2 == true, true, true, true, decide (Int.ofNat 2 < Int.ofNat (c.np)) == true], [])))) ∧ ((!Vw.inn u 2) = false → Q (Exit.normal, zz1, zz3, 99, 1530000000000000000000000000000000000000013, [true, true, (!Vw.inn u 2) == false, true, true, true, Vw.inn u 2 == false, true, true, true, true, true, true, true, true, true, true, scP .u16 zz2, true, true, true, true, scP .u8 zz7, true, true, true, Vw.got u 2 == true, true, true, true, decide (Int.ofNat 2 < Int.ofNat (c.np)) == true], [])))))) ∧ ((Vw.got u 2) = false → (((Vw.inn u 2) = true → (((decide zz6) = true → Q (Exit.normal, zz1, [some (ABlk.mk true false 47 0 (Cs.lit (vwL (updV 2 false (upZ (Vw.miss u 2)) (Int.ofNat 0) (penZ (Vw.score u 2)) false u)))), some (ABlk.mk true false 47 0 (Cs.lit (vwL v))), some zz0], 99, 1370000000000000000000000000000000000000017, [true, true, true, true, decide zz6 == true, true, true, true, true, true, Vw.inn u 2 == true, true, true, true, true, true, true, true, true, true, true, scP .u16 zz2, true, true, true, true, scP .u8 zz8, true, true, true, Vw.got u 2 == false, true, true, true, decide (Int.ofNat 2 < Int.ofNat (c.np)) == true], [])) ∧ ((decide zz6) = false → (((!Vw.inn u 2) = true → (((decide (Int.ofNat 0 ≥ c.good)) = true → Q (Exit.normal, zz1, zz10, 99, 1530000000000000000000000000000000000000017, [true, true, true, true, decide (Int.ofNat 0 ≥ c.good) == true, true, true, true, true, true, (!Vw.inn u 2) == true, true, true, true, decide zz6 == false, true, true, true, true, true, Vw.inn u 2 == true, true, true, true, true, true, true, true, true, true, true, scP .u16 zz2, true, true, true, true, scP .u8 zz8, true, true, true, Vw.got u 2 == false, true, true, true, decide (Int.ofNat 2 < Int.ofNat (c.np)) == true], [])) ∧ ((decide (Int.ofNat 0 ≥ c.good)) = false → Q (Exit.normal, zz1, zz4, 99, 1530000000000000000000000000000000000000013, [true, true, decide (Int.ofNat 0 ≥ c.good) == false, true, true, true, true, true, (!Vw.inn u 2) == true, true, true, true, decide zz6 == false, true, true, true, true, true, Vw.inn u 2 == true, true, true, true, true, true, true, true, true, true, true, scP .u16 zz2, true, true, true, true, scP .u8 zz8, true, true, true, Vw.got u 2 == false, true, true, true, decide (Int.ofNat 2 < Int.ofNat (c.np)) == true], [])))) ∧ ((!Vw.inn u 2) = false → Q (Exit.normal, zz1, zz4, 99, 1530000000000000000000000000000000000000013, [true, true, (!Vw.inn u 2) == false, true, true, true, decide zz6 == false, true, true, true, true, true, Vw.inn u 2 == true, true, true, true, true, true, true, true, true, true, true, scP .u16 zz2, true, true, true, true, scP .u8 zz8, true, true, true, Vw.got u 2 == false, true, true, true, decide (Int.ofNat 2 < Int.ofNat (c.np)) == true], [])))))) ∧ ((Vw.inn u 2) = false → (((!Vw.inn u 2) = true → (((decide (Int.ofNat 0 ≥ c.good)) = true → Q (Exit.normal, zz1, zz10, 99, 1530000000000000000000000000000000000000017, [true, true, true, true, decide (Int.ofNat 0 ≥ c.good) == true, true, true, true, true, true, (!Vw.inn u 2) == true, true, true, true, Vw.inn u 2 == false, true, true, true, true, true, true, true, true, true, true, scP .u16 zz2, true, true, true, true, scP .u8 zz8, true, true, true, Vw.got u 2 == false, true, true, true, decide (Int.ofNat 2 < Int.ofNat (c.np)) == true], [])) ∧ ((decide (Int.ofNat 0 ≥ c.good)) = false → Q (Exit.normal, zz1, zz4, 99, 1530000000000000000000000000000000000000013, [true, true, decide (Int.ofNat 0 ≥ c.good) == false, true, true, true, true, true, (!Vw.inn u 2) == true, true, true, true, Vw.inn u 2 == false, true, true, true, true, true, true, true, true, true, true, scP .u16 zz2, true, true, true, true, scP .u8 zz8, true, true, true, Vw.got u 2 == false, true, true, true, decide (Int.ofNat 2 < Int.ofNat (c.np)) == true], [])))) ∧ ((!Vw.inn u 2) = false → Q (Exit.normal, zz1, zz4, 99, 1530000000000000000000000000000000000000013, [true, true, (!Vw.inn u 2) == false, true, true, true, Vw.inn u 2 == false, true, true, true, true, true, true, true, true, true, true, scP .u16 zz2, true, true, true, true, scP .u8 zz8, true, true, true, Vw.got u 2 == false, true, true, true, decide (Int.ofNat 2 < Int.ofNat (c.np)) == true], [])))))))) :
    ∃ p r, mrR Tryd.prog c u v 2 p = some r ∧ Q r :=
  two H
  (fun g1 => two g1
    (fun g2 => two g2
      (fun g3 => ⟨pD 11 59062, _, by kernel_rfl, g3⟩)
      (fun g3 => two g3
        (fun g4 => two g4
          (fun g5 => ⟨pD 20 1162556725, _, by kernel_rfl, g5⟩)
          (fun g5 => ⟨pD 20 2324818192, _, by kernel_rfl, g5⟩))
        (fun g4 => ⟨pD 20 472405, _, by kernel_rfl, g4⟩)))
    (fun g2 => two g2
      (fun g3 => two g3
        (fun g4 => ⟨pD 20 1162438636, _, by kernel_rfl, g4⟩)
        (fun g4 => ⟨pD 20 2324700103, _, by kernel_rfl, g4⟩))
      (fun g3 => ⟨pD 20 354316, _, by kernel_rfl, g3⟩)))
  (fun g1 => two g1
    (fun g2 => two g2
      (fun g3 => ⟨pD 11 59065, _, by kernel_rfl, g3⟩)
      (fun g3 => two g3
        (fun g4 => two g4
          (fun g5 => ⟨pD 20 1162556728, _, by kernel_rfl, g5⟩)
          (fun g5 => ⟨pD 20 2324818195, _, by kernel_rfl, g5⟩))
        (fun g4 => ⟨pD 20 472408, _, by kernel_rfl, g4⟩)))
    (fun g2 => two g2
      (fun g3 => two g3
        (fun g4 => ⟨pD 20 1162438639, _, by kernel_rfl, g4⟩)
        (fun g4 => ⟨pD 20 2324700106, _, by kernel_rfl, g4⟩))
      (fun g3 => ⟨pD 20 354319, _, by kernel_rfl, g3⟩)))
theorem mr3 (c : Cfg) (u v : Vw) (Q : VC → Prop) (H : let zz0 := (ABlk.mk true false 25 0 (Cs.lit [AC.v (Value.int IntKind.i64 (Cfg.nodes c)), AC.sl 1043 0 0 (Cfg.np c) (some (Cfg.np c)), AC.sl 1070 0 0 (Cfg.ns c) (some (Cfg.ns c)), AC.v (Value.int IntKind.i64 (Cfg.long c)), AC.sl 1097 0 0 (Cfg.nb c) (some (Cfg.nb c)), AC.sl 1114 0 0 (Cfg.nt c) (some (Cfg.nt c)), AC.v (Value.int IntKind.i64 (Cfg.miss c)), AC.v (Value.int IntKind.i64 (Cfg.good c)), AC.v (Value.int IntKind.i64 (Cfg.fresh c))])); let zz1 := [some (lkA (List.zip rdH (mrV c 3)) 3), some (lkA (List.zip rdH (mrV c 3)) 4), some (lkA (List.zip rdH (mrV c 3)) 5), some (lkA (List.zip rdH (mrV c 3)) 11), some (AV.c (AC.v (Value.int IntKind.i64 (Int.ofNat 4))))]; let zz2 := [AV.c (AC.v (Value.int IntKind.u16 (Vw.score u 3)))]; let zz3 := [some (ABlk.mk true false 47 0 (Cs.lit (vwL (updV 3 (Vw.inn u 3) (Int.ofNat 0) (upZ (Vw.good u 3)) (rewZ (Vw.score u 3)) false u)))), some (ABlk.mk true false 47 0 (Cs.lit (vwL v))), some zz0]; let zz4 := [some (ABlk.mk true false 47 0 (Cs.lit (vwL (updV 3 (Vw.inn u 3) (upZ (Vw.miss u 3)) (Int.ofNat 0) (penZ (Vw.score u 3)) false u)))), some (ABlk.mk true false 47 0 (Cs.lit (vwL v))), some zz0]; let zz5 := (IntKind.wrap IntKind.i64 (upZ (Vw.good u 3)) ≥ Cfg.good c); let zz6 := (IntKind.wrap IntKind.i64 (upZ (Vw.miss u 3)) ≥ Cfg.miss c); let zz7 := [AV.c (AC.v (Value.int IntKind.u8 (Vw.good u 3)))]; let zz8 := [AV.c (AC.v (Value.int IntKind.u8 (Vw.miss u 3)))]; let zz9 := [some (ABlk.mk true false 47 0 (Cs.lit (vwL (updV 3 true (Int.ofNat 0) (upZ (Vw.good u 3)) (rewZ (Vw.score u 3)) false u)))), some (ABlk.mk true false 47 0 (Cs.lit (vwL v))), some zz0]; let zz10 := [some (ABlk.mk true false 47 0 (Cs.lit (vwL (updV 3 true (upZ (Vw.miss u 3)) (Int.ofNat 0) (penZ (Vw.score u 3)) false u)))), some (ABlk.mk true false 47 0 (Cs.lit (vwL v))), some zz0]; (((Vw.got u 3) = true → (((Vw.inn u 3) = true → (((decide (Int.ofNat 0 ≥ c.miss)) = true → Q (Exit.normal, zz1, [some (ABlk.mk true false 47 0 (Cs.lit (vwL (updV 3 false (Int.ofNat 0) (upZ (Vw.good u 3)) (rewZ (Vw.score u 3)) false u)))), some (ABlk.mk true false 47 0 (Cs.lit (vwL v))), some zz0], 99, 1370000000000000000000000000000000000000017, [true, true, true, true, decide (Int.ofNat 0 ≥ c.miss) == true, true, true, true, true, true, Vw.inn u 3 == true, true, true, true, true, true, true, true, true, true, true, scP .u16 zz2, true, true, true, true, scP .u8 zz7, true, true, true, Vw.got u 3 == true, true, true, true, decide (Int.ofNat 3 < Int.ofNat (c.np)) == true], [])) ∧ ((decide (Int.ofNat 0 ≥ c.miss)) = false → (((!Vw.inn u 3) = true → (((decide zz5) = true → Q (Exit.normal, zz1, zz9, 99, 1530000000000000000000000000000000000000017, [true, true, true, true, decide zz5 == true, true, true, true, true, true, (!Vw.inn u 3) == true, true, true, true, decide (Int.ofNat 0 ≥ c.miss) == false, true, true, true, true, true, Vw.inn u 3 == true, true, true, true, true, true, true, true, true, true, true, scP .u16 zz2, true, true, true, true, scP .u8 zz7, true, true, true, Vw.got u 3 == true, true, true, true, decide (Int.ofNat 3 < Int.ofNat (c.np)) == true], [])) ∧ ((decide zz5) = false → Q (Exit.normal, zz1, zz3, 99, 1530000000000000000000000000000000000000013, [true, true, decide zz5 == false, true, true, true, true, true, (!Vw.inn u 3) == true, true, true, true, decide (Int.ofNat 0 ≥ c.miss) == false, true, true, true, true, true, Vw.inn u 3 == true, true, true, true, true, true, true, true, true, true, true, scP .u16 zz2, true, true, true, true, scP .u8 zz7, true, true, true, Vw.got u 3 == true, true, true, true, decide (Int.ofNat 3 < Int.ofNat (c.np)) == true], [])))) ∧ ((!Vw.inn u 3) = false → Q (Exit.normal, zz1, zz3, 99, 1530000000000000000000000000000000000000013, [true, true, (!Vw.inn u 3) == false, true, true, true, decide (Int.ofNat 0 ≥ c.miss) == false, true, true, true, true, true, Vw.inn u 3 == true, true, true, true, true, true, true, true, true, true, true, scP .u16 zz2, true, true, true, true, scP .u8 zz7, true, true, true, Vw.got u 3 == true, true, true, true, decide (Int.ofNat 3 < Int.ofNat (c.np)) == true], [])))))) ∧ ((Vw.inn u 3) = false → (((!Vw.inn u 3) = true → (((decide zz5) = true → Q (Exit.normal, zz1, zz9, 99, 1530000000000000000000000000000000000000017, [true, true, true, true, decide zz5 == true, true, true, true, true, true, (!Vw.inn u 3) == true, true, true, true, Vw.inn u 3 == false, true, true, true, true, true, true, true, true, true, true, scP .u16 zz2, true, true, true, true, scP .u8 zz7, true, true, true, Vw.got u 3 == true, true, true, true, decide (Int.ofNat 3 < Int.ofNat (c.np)) == true], [])) ∧ ((decide zz5) = false → Q (Exit.normal, zz1, zz3, 99, 1530000000000000000000000000000000000000013, [true, true, decide zz5 == false, true, true, true, true, true, (!Vw.inn u 3) == true, true, true, true, Vw.inn u 3 == false, true, true, true, true, true, true, true, true, true, true, scP .u16 zz2, true, true, true, true, scP .u8 zz7, true, true, true, Vw.got u 3 == true, true, true, true, decide (Int.ofNat 3 < Int.ofNat (c.np)) == true], [])))) ∧ ((!Vw.inn u 3) = false → Q (Exit.normal, zz1, zz3, 99, 1530000000000000000000000000000000000000013, [true, true, (!Vw.inn u 3) == false, true, true, true, Vw.inn u 3 == false, true, true, true, true, true, true, true, true, true, true, scP .u16 zz2, true, true, true, true, scP .u8 zz7, true, true, true, Vw.got u 3 == true, true, true, true, decide (Int.ofNat 3 < Int.ofNat (c.np)) == true], [])))))) ∧ ((Vw.got u 3) = false → (((Vw.inn u 3) = true → (((decide zz6) = true → Q (Exit.normal, zz1, [some (ABlk.mk true false 47 0 (Cs.lit (vwL (updV 3 false (upZ (Vw.miss u 3)) (Int.ofNat 0) (penZ (Vw.score u 3)) false u)))), some (ABlk.mk true false 47 0 (Cs.lit (vwL v))), some zz0], 99, 1370000000000000000000000000000000000000017, [true, true, true, true, decide zz6 == true, true, true, true, true, true, Vw.inn u 3 == true, true, true, true, true, true, true, true, true, true, true, scP .u16 zz2, true, true, true, true, scP .u8 zz8, true, true, true, Vw.got u 3 == false, true, true, true, decide (Int.ofNat 3 < Int.ofNat (c.np)) == true], [])) ∧ ((decide zz6) = false → (((!Vw.inn u 3) = true → (((decide (Int.ofNat 0 ≥ c.good)) = true → Q (Exit.normal, zz1, zz10, 99, 1530000000000000000000000000000000000000017, [true, true, true, true, decide (Int.ofNat 0 ≥ c.good) == true, true, true, true, true, true, (!Vw.inn u 3) == true, true, true, true, decide zz6 == false, true, true, true, true, true, Vw.inn u 3 == true, true, true, true, true, true, true, true, true, true, true, scP .u16 zz2, true, true, true, true, scP .u8 zz8, true, true, true, Vw.got u 3 == false, true, true, true, decide (Int.ofNat 3 < Int.ofNat (c.np)) == true], [])) ∧ ((decide (Int.ofNat 0 ≥ c.good)) = false → Q (Exit.normal, zz1, zz4, 99, 1530000000000000000000000000000000000000013, [true, true, decide (Int.ofNat 0 ≥ c.good) == false, true, true, true, true, true, (!Vw.inn u 3) == true, true, true, true, decide zz6 == false, true, true, true, true, true, Vw.inn u 3 == true, true, true, true, true, true, true, true, true, true, true, scP .u16 zz2, true, true, true, true, scP .u8 zz8, true, true, true, Vw.got u 3 == false, true, true, true, decide (Int.ofNat 3 < Int.ofNat (c.np)) == true], [])))) ∧ ((!Vw.inn u 3) = false → Q (Exit.normal, zz1, zz4, 99, 1530000000000000000000000000000000000000013, [true, true, (!Vw.inn u 3) == false, true, true, true, decide zz6 == false, true, true, true, true, true, Vw.inn u 3 == true, true, true, true, true, true, true, true, true, true, true, scP .u16 zz2, true, true, true, true, scP .u8 zz8, true, true, true, Vw.got u 3 == false, true, true, true, decide (Int.ofNat 3 < Int.ofNat (c.np)) == true], [])))))) ∧ ((Vw.inn u 3) = false → (((!Vw.inn u 3) = true → (((decide (Int.ofNat 0 ≥ c.good)) = true → Q (Exit.normal, zz1, zz10, 99, 1530000000000000000000000000000000000000017, [true, true, true, true, decide (Int.ofNat 0 ≥ c.good) == true, true, true, true, true, true, (!Vw.inn u 3) == true, true, true, true, Vw.inn u 3 == false, true, true, true, true, true, true, true, true, true, true, scP .u16 zz2, true, true, true, true, scP .u8 zz8, true, true, true, Vw.got u 3 == false, true, true, true, decide (Int.ofNat 3 < Int.ofNat (c.np)) == true], [])) ∧ ((decide (Int.ofNat 0 ≥ c.good)) = false → Q (Exit.normal, zz1, zz4, 99, 1530000000000000000000000000000000000000013, [true, true, decide (Int.ofNat 0 ≥ c.good) == false, true, true, true, true, true, (!Vw.inn u 3) == true, true, true, true, Vw.inn u 3 == false, true, true, true, true, true, true, true, true, true, true, scP .u16 zz2, true, true, true, true, scP .u8 zz8, true, true, true, Vw.got u 3 == false, true, true, true, decide (Int.ofNat 3 < Int.ofNat (c.np)) == true], [])))) ∧ ((!Vw.inn u 3) = false → Q (Exit.normal, zz1, zz4, 99, 1530000000000000000000000000000000000000013, [true, true, (!Vw.inn u 3) == false, true, true, true, Vw.inn u 3 == false, true, true, true, true, true, true, true, true, true, true, scP .u16 zz2, true, true, true, true, scP .u8 zz8, true, true, true, Vw.got u 3 == false, true, true, true, decide (Int.ofNat 3 < Int.ofNat (c.np)) == true], [])))))))) :
    ∃ p r, mrR Tryd.prog c u v 3 p = some r ∧ Q r :=
  two H
  (fun g1 => two g1
    (fun g2 => two g2
      (fun g3 => ⟨pD 11 59062, _, by kernel_rfl, g3⟩)
      (fun g3 => two g3
        (fun g4 => two g4
          (fun g5 => ⟨pD 20 1162556725, _, by kernel_rfl, g5⟩)
          (fun g5 => ⟨pD 20 2324818192, _, by kernel_rfl, g5⟩))
        (fun g4 => ⟨pD 20 472405, _, by kernel_rfl, g4⟩)))
    (fun g2 => two g2
      (fun g3 => two g3
        (fun g4 => ⟨pD 20 1162438636, _, by kernel_rfl, g4⟩)
        (fun g4 => ⟨pD 20 2324700103, _, by kernel_rfl, g4⟩))
      (fun g3 => ⟨pD 20 354316, _, by kernel_rfl, g3⟩)))
  (fun g1 => two g1
    (fun g2 => two g2
      (fun g3 => ⟨pD 11 59065, _, by kernel_rfl, g3⟩)
      (fun g3 => two g3
        (fun g4 => two g4
          (fun g5 => ⟨pD 20 1162556728, _, by kernel_rfl, g5⟩)
          (fun g5 => ⟨pD 20 2324818195, _, by kernel_rfl, g5⟩))
        (fun g4 => ⟨pD 20 472408, _, by kernel_rfl, g4⟩)))
    (fun g2 => two g2
      (fun g3 => two g3
        (fun g4 => ⟨pD 20 1162438639, _, by kernel_rfl, g4⟩)
        (fun g4 => ⟨pD 20 2324700106, _, by kernel_rfl, g4⟩))
      (fun g3 => ⟨pD 20 354319, _, by kernel_rfl, g3⟩)))
theorem rdE (c : Cfg) (u v : Vw) (k : Nat) (Q : VC → Prop) (H : Q (Exit.exit 0, [some (lkA (List.zip rdH (mrV c k)) 3), some (lkA (List.zip rdH (mrV c k)) 4), some (lkA (List.zip rdH (mrV c k)) 5), some (lkA (List.zip rdH (mrV c k)) 11), some (lkA (List.zip rdH (mrV c k)) 12)], [some (ABlk.mk true false 47 0 (Cs.lit (vwL u))), some (ABlk.mk true false 47 0 (Cs.lit (vwL v))), some (ABlk.mk true false 25 0 (Cs.lit [.v (.int .i64 (c.nodes)), AC.sl 1043 0 0 (c.np) (some (c.np)), AC.sl 1070 0 0 (c.ns) (some (c.ns)), .v (.int .i64 (c.long)), AC.sl 1097 0 0 (c.nb) (some (c.nb)), AC.sl 1114 0 0 (c.nt) (some (c.nt)), .v (.int .i64 (c.miss)), .v (.int .i64 (c.good)), .v (.int .i64 (c.fresh))]))], 99, 1000000000000000000000000000000000000000001, [decide (Int.ofNat k < Int.ofNat (c.np)) == false], [])) :
    ∃ p r, mrR Tryd.prog c u v k p = some r ∧ Q r :=
  ⟨pD 1 2, _, by kernel_rfl, H⟩
end Go.Proofs.YthekiiagacnhkaaDoor
end
/- members.Round: its loop's rounds as the evaluator runs them, pair by pair. Printed by wip/gen_rd.py. -/
section
namespace Go.Proofs.YthekiiagacnhkaaDoor
open Go.RowKit

theorem mr4 (c : Cfg) (u v : Vw) (Q : VC → Prop) (H : let zz0 := (ABlk.mk true false 25 0 (Cs.lit [AC.v (Value.int IntKind.i64 (Cfg.nodes c)), AC.sl 1043 0 0 (Cfg.np c) (some (Cfg.np c)), AC.sl 1070 0 0 (Cfg.ns c) (some (Cfg.ns c)), AC.v (Value.int IntKind.i64 (Cfg.long c)), AC.sl 1097 0 0 (Cfg.nb c) (some (Cfg.nb c)), AC.sl 1114 0 0 (Cfg.nt c) (some (Cfg.nt c)), AC.v (Value.int IntKind.i64 (Cfg.miss c)), AC.v (Value.int IntKind.i64 (Cfg.good c)), AC.v (Value.int IntKind.i64 (Cfg.fresh c))])); let zz1 := [some (lkA (List.zip rdH (mrV c 4)) 3), some (lkA (List.zip rdH (mrV c 4)) 4), some (lkA (List.zip rdH (mrV c 4)) 5), some (lkA (List.zip rdH (mrV c 4)) 11), some (AV.c (AC.v (Value.int IntKind.i64 (Int.ofNat 5))))]; let zz2 := [AV.c (AC.v (Value.int IntKind.u16 (Vw.score u 4)))]; let zz3 := [some (ABlk.mk true false 47 0 (Cs.lit (vwL (updV 4 (Vw.inn u 4) (Int.ofNat 0) (upZ (Vw.good u 4)) (rewZ (Vw.score u 4)) false u)))), some (ABlk.mk true false 47 0 (Cs.lit (vwL v))), some zz0]; let zz4 := [some (ABlk.mk true false 47 0 (Cs.lit (vwL (updV 4 (Vw.inn u 4) (upZ (Vw.miss u 4)) (Int.ofNat 0) (penZ (Vw.score u 4)) false u)))), some (ABlk.mk true false 47 0 (Cs.lit (vwL v))), some zz0]; let zz5 := (IntKind.wrap IntKind.i64 (upZ (Vw.good u 4)) ≥ Cfg.good c); let zz6 := (IntKind.wrap IntKind.i64 (upZ (Vw.miss u 4)) ≥ Cfg.miss c); let zz7 := [AV.c (AC.v (Value.int IntKind.u8 (Vw.good u 4)))]; let zz8 := [AV.c (AC.v (Value.int IntKind.u8 (Vw.miss u 4)))]; let zz9 := [some (ABlk.mk true false 47 0 (Cs.lit (vwL (updV 4 true (Int.ofNat 0) (upZ (Vw.good u 4)) (rewZ (Vw.score u 4)) false u)))), some (ABlk.mk true false 47 0 (Cs.lit (vwL v))), some zz0]; let zz10 := [some (ABlk.mk true false 47 0 (Cs.lit (vwL (updV 4 true (upZ (Vw.miss u 4)) (Int.ofNat 0) (penZ (Vw.score u 4)) false u)))), some (ABlk.mk true false 47 0 (Cs.lit (vwL v))), some zz0]; (((Vw.got u 4) = true → (((Vw.inn u 4) = true → (((decide (Int.ofNat 0 ≥ c.miss)) = true → Q (Exit.normal, zz1, [some (ABlk.mk true false 47 0 (Cs.lit (vwL (updV 4 false (Int.ofNat 0) (upZ (Vw.good u 4)) (rewZ (Vw.score u 4)) false u)))), some (ABlk.mk true false 47 0 (Cs.lit (vwL v))), some zz0], 99, 1370000000000000000000000000000000000000017, [true, true, true, true, decide (Int.ofNat 0 ≥ c.miss) == true, true, true, true, true, true, Vw.inn u 4 == true, true, true, true, true, true, true, true, true, true, true, scP .u16 zz2, true, true, true, true, scP .u8 zz7, true, true, true, Vw.got u 4 == true, true, true, true, decide (Int.ofNat 4 < Int.ofNat (c.np)) == true], [])) ∧ ((decide (Int.ofNat 0 ≥ c.miss)) = false → (((!Vw.inn u 4) = true → (((decide zz5) = true → Q (Exit.normal, zz1, zz9, 99, 1530000000000000000000000000000000000000017, [true, true, true, true, decide zz5 == true, true, true, true, true, true, (!Vw.inn u 4) == true, true, true, true, decide (Int.ofNat 0 ≥ c.miss) == false, true, true, true, true, true, Vw.inn u 4 == true, true, true, true, true, true, true, true, true, true, true, scP .u16 zz2, true, true, true, true, scP .u8 zz7, true, true, true, Vw.got u 4 == true, true, true, true, decide (Int.ofNat 4 < Int.ofNat (c.np)) == true], [])) ∧ ((decide zz5) = false → Q (Exit.normal, zz1, zz3, 99, 1530000000000000000000000000000000000000013, [true, true, decide zz5 == false, true, true, true, true, true, (!Vw.inn u 4) == true, true, true, true, decide (Int.ofNat 0 ≥ c.miss) == false, true, true, true, true, true, Vw.inn u 4 == true, true, true, true, true, true, true, true, true, true, true, scP .u16 zz2, true, true, true, true, scP .u8 zz7, true, true, true, Vw.got u 4 == true, true, true, true, decide (Int.ofNat 4 < Int.ofNat (c.np)) == true], [])))) ∧ ((!Vw.inn u 4) = false → Q (Exit.normal, zz1, zz3, 99, 1530000000000000000000000000000000000000013, [true, true, (!Vw.inn u 4) == false, true, true, true, decide (Int.ofNat 0 ≥ c.miss) == false, true, true, true, true, true, Vw.inn u 4 == true, true, true, true, true, true, true, true, true, true, true, scP .u16 zz2, true, true, true, true, scP .u8 zz7, true, true, true, Vw.got u 4 == true, true, true, true, decide (Int.ofNat 4 < Int.ofNat (c.np)) == true], [])))))) ∧ ((Vw.inn u 4) = false → (((!Vw.inn u 4) = true → (((decide zz5) = true → Q (Exit.normal, zz1, zz9, 99, 1530000000000000000000000000000000000000017, [true, true, true, true, decide zz5 == true, true, true, true, true, true, (!Vw.inn u 4) == true, true, true, true, Vw.inn u 4 == false, true, true, true, true, true, true, true, true, true, true, scP .u16 zz2, true, true, true, true, scP .u8 zz7, true, true, true, Vw.got u 4 == true, true, true, true, decide (Int.ofNat 4 < Int.ofNat (c.np)) == true], [])) ∧ ((decide zz5) = false → Q (Exit.normal, zz1, zz3, 99, 1530000000000000000000000000000000000000013, [true, true, decide zz5 == false, true, true, true, true, true, (!Vw.inn u 4) == true, true, true, true, Vw.inn u 4 == false, true, true, true, true, true, true, true, true, true, true, scP .u16 zz2, true, true, true, true, scP .u8 zz7, true, true, true, Vw.got u 4 == true, true, true, true, decide (Int.ofNat 4 < Int.ofNat (c.np)) == true], [])))) ∧ ((!Vw.inn u 4) = false → Q (Exit.normal, zz1, zz3, 99, 1530000000000000000000000000000000000000013, [true, true, (!Vw.inn u 4) == false, true, true, true, Vw.inn u 4 == false, true, true, true, true, true, true, true, true, true, true, scP .u16 zz2, true, true, true, true, scP .u8 zz7, true, true, true, Vw.got u 4 == true, true, true, true, decide (Int.ofNat 4 < Int.ofNat (c.np)) == true], [])))))) ∧ ((Vw.got u 4) = false → (((Vw.inn u 4) = true → (((decide zz6) = true → Q (Exit.normal, zz1, [some (ABlk.mk true false 47 0 (Cs.lit (vwL (updV 4 false (upZ (Vw.miss u 4)) (Int.ofNat 0) (penZ (Vw.score u 4)) false u)))), some (ABlk.mk true false 47 0 (Cs.lit (vwL v))), some zz0], 99, 1370000000000000000000000000000000000000017, [true, true, true, true, decide zz6 == true, true, true, true, true, true, Vw.inn u 4 == true, true, true, true, true, true, true, true, true, true, true, scP .u16 zz2, true, true, true, true, scP .u8 zz8, true, true, true, Vw.got u 4 == false, true, true, true, decide (Int.ofNat 4 < Int.ofNat (c.np)) == true], [])) ∧ ((decide zz6) = false → (((!Vw.inn u 4) = true → (((decide (Int.ofNat 0 ≥ c.good)) = true → Q (Exit.normal, zz1, zz10, 99, 1530000000000000000000000000000000000000017, [true, true, true, true, decide (Int.ofNat 0 ≥ c.good) == true, true, true, true, true, true, (!Vw.inn u 4) == true, true, true, true, decide zz6 == false, true, true, true, true, true, Vw.inn u 4 == true, true, true, true, true, true, true, true, true, true, true, scP .u16 zz2, true, true, true, true, scP .u8 zz8, true, true, true, Vw.got u 4 == false, true, true, true, decide (Int.ofNat 4 < Int.ofNat (c.np)) == true], [])) ∧ ((decide (Int.ofNat 0 ≥ c.good)) = false → Q (Exit.normal, zz1, zz4, 99, 1530000000000000000000000000000000000000013, [true, true, decide (Int.ofNat 0 ≥ c.good) == false, true, true, true, true, true, (!Vw.inn u 4) == true, true, true, true, decide zz6 == false, true, true, true, true, true, Vw.inn u 4 == true, true, true, true, true, true, true, true, true, true, true, scP .u16 zz2, true, true, true, true, scP .u8 zz8, true, true, true, Vw.got u 4 == false, true, true, true, decide (Int.ofNat 4 < Int.ofNat (c.np)) == true], [])))) ∧ ((!Vw.inn u 4) = false → Q (Exit.normal, zz1, zz4, 99, 1530000000000000000000000000000000000000013, [true, true, (!Vw.inn u 4) == false, true, true, true, decide zz6 == false, true, true, true, true, true, Vw.inn u 4 == true, true, true, true, true, true, true, true, true, true, true, scP .u16 zz2, true, true, true, true, scP .u8 zz8, true, true, true, Vw.got u 4 == false, true, true, true, decide (Int.ofNat 4 < Int.ofNat (c.np)) == true], [])))))) ∧ ((Vw.inn u 4) = false → (((!Vw.inn u 4) = true → (((decide (Int.ofNat 0 ≥ c.good)) = true → Q (Exit.normal, zz1, zz10, 99, 1530000000000000000000000000000000000000017, [true, true, true, true, decide (Int.ofNat 0 ≥ c.good) == true, true, true, true, true, true, (!Vw.inn u 4) == true, true, true, true, Vw.inn u 4 == false, true, true, true, true, true, true, true, true, true, true, scP .u16 zz2, true, true, true, true, scP .u8 zz8, true, true, true, Vw.got u 4 == false, true, true, true, decide (Int.ofNat 4 < Int.ofNat (c.np)) == true], [])) ∧ ((decide (Int.ofNat 0 ≥ c.good)) = false → Q (Exit.normal, zz1, zz4, 99, 1530000000000000000000000000000000000000013, [true, true, decide (Int.ofNat 0 ≥ c.good) == false, true, true, true, true, true, (!Vw.inn u 4) == true, true, true, true, Vw.inn u 4 == false, true, true, true, true, true, true, true, true, true, true, scP .u16 zz2, true, true, true, true, scP .u8 zz8, true, true, true, Vw.got u 4 == false, true, true, true, decide (Int.ofNat 4 < Int.ofNat (c.np)) == true], [])))) ∧ ((!Vw.inn u 4) = false → Q (Exit.normal, zz1, zz4, 99, 1530000000000000000000000000000000000000013, [true, true, (!Vw.inn u 4) == false, true, true, true, Vw.inn u 4 == false, true, true, true, true, true, true, true, true, true, true, scP .u16 zz2, true, true, true, true, scP .u8 zz8, true, true, true, Vw.got u 4 == false, true, true, true, decide (Int.ofNat 4 < Int.ofNat (c.np)) == true], [])))))))) :
    ∃ p r, mrR Tryd.prog c u v 4 p = some r ∧ Q r :=
  two H
  (fun g1 => two g1
    (fun g2 => two g2
      (fun g3 => ⟨pD 11 59062, _, by kernel_rfl, g3⟩)
      (fun g3 => two g3
        (fun g4 => two g4
          (fun g5 => ⟨pD 20 1162556725, _, by kernel_rfl, g5⟩)
          (fun g5 => ⟨pD 20 2324818192, _, by kernel_rfl, g5⟩))
        (fun g4 => ⟨pD 20 472405, _, by kernel_rfl, g4⟩)))
    (fun g2 => two g2
      (fun g3 => two g3
        (fun g4 => ⟨pD 20 1162438636, _, by kernel_rfl, g4⟩)
        (fun g4 => ⟨pD 20 2324700103, _, by kernel_rfl, g4⟩))
      (fun g3 => ⟨pD 20 354316, _, by kernel_rfl, g3⟩)))
  (fun g1 => two g1
    (fun g2 => two g2
      (fun g3 => ⟨pD 11 59065, _, by kernel_rfl, g3⟩)
      (fun g3 => two g3
        (fun g4 => two g4
          (fun g5 => ⟨pD 20 1162556728, _, by kernel_rfl, g5⟩)
          (fun g5 => ⟨pD 20 2324818195, _, by kernel_rfl, g5⟩))
        (fun g4 => ⟨pD 20 472408, _, by kernel_rfl, g4⟩)))
    (fun g2 => two g2
      (fun g3 => two g3
        (fun g4 => ⟨pD 20 1162438639, _, by kernel_rfl, g4⟩)
        (fun g4 => ⟨pD 20 2324700106, _, by kernel_rfl, g4⟩))
      (fun g3 => ⟨pD 20 354319, _, by kernel_rfl, g3⟩)))
theorem mr5 (c : Cfg) (u v : Vw) (Q : VC → Prop) (H : let zz0 := (ABlk.mk true false 25 0 (Cs.lit [AC.v (Value.int IntKind.i64 (Cfg.nodes c)), AC.sl 1043 0 0 (Cfg.np c) (some (Cfg.np c)), AC.sl 1070 0 0 (Cfg.ns c) (some (Cfg.ns c)), AC.v (Value.int IntKind.i64 (Cfg.long c)), AC.sl 1097 0 0 (Cfg.nb c) (some (Cfg.nb c)), AC.sl 1114 0 0 (Cfg.nt c) (some (Cfg.nt c)), AC.v (Value.int IntKind.i64 (Cfg.miss c)), AC.v (Value.int IntKind.i64 (Cfg.good c)), AC.v (Value.int IntKind.i64 (Cfg.fresh c))])); let zz1 := [some (lkA (List.zip rdH (mrV c 5)) 3), some (lkA (List.zip rdH (mrV c 5)) 4), some (lkA (List.zip rdH (mrV c 5)) 5), some (lkA (List.zip rdH (mrV c 5)) 11), some (AV.c (AC.v (Value.int IntKind.i64 (Int.ofNat 6))))]; let zz2 := [AV.c (AC.v (Value.int IntKind.u16 (Vw.score u 5)))]; let zz3 := [some (ABlk.mk true false 47 0 (Cs.lit (vwL (updV 5 (Vw.inn u 5) (Int.ofNat 0) (upZ (Vw.good u 5)) (rewZ (Vw.score u 5)) false u)))), some (ABlk.mk true false 47 0 (Cs.lit (vwL v))), some zz0]; let zz4 := [some (ABlk.mk true false 47 0 (Cs.lit (vwL (updV 5 (Vw.inn u 5) (upZ (Vw.miss u 5)) (Int.ofNat 0) (penZ (Vw.score u 5)) false u)))), some (ABlk.mk true false 47 0 (Cs.lit (vwL v))), some zz0]; let zz5 := (IntKind.wrap IntKind.i64 (upZ (Vw.good u 5)) ≥ Cfg.good c); let zz6 := (IntKind.wrap IntKind.i64 (upZ (Vw.miss u 5)) ≥ Cfg.miss c); let zz7 := [AV.c (AC.v (Value.int IntKind.u8 (Vw.good u 5)))]; let zz8 := [AV.c (AC.v (Value.int IntKind.u8 (Vw.miss u 5)))]; let zz9 := [some (ABlk.mk true false 47 0 (Cs.lit (vwL (updV 5 true (Int.ofNat 0) (upZ (Vw.good u 5)) (rewZ (Vw.score u 5)) false u)))), some (ABlk.mk true false 47 0 (Cs.lit (vwL v))), some zz0]; let zz10 := [some (ABlk.mk true false 47 0 (Cs.lit (vwL (updV 5 true (upZ (Vw.miss u 5)) (Int.ofNat 0) (penZ (Vw.score u 5)) false u)))), some (ABlk.mk true false 47 0 (Cs.lit (vwL v))), some zz0]; (((Vw.got u 5) = true → (((Vw.inn u 5) = true → (((decide (Int.ofNat 0 ≥ c.miss)) = true → Q (Exit.normal, zz1, [some (ABlk.mk true false 47 0 (Cs.lit (vwL (updV 5 false (Int.ofNat 0) (upZ (Vw.good u 5)) (rewZ (Vw.score u 5)) false u)))), some (ABlk.mk true false 47 0 (Cs.lit (vwL v))), some zz0], 99, 1370000000000000000000000000000000000000017, [true, true, true, true, decide (Int.ofNat 0 ≥ c.miss) == true, true, true, true, true, true, Vw.inn u 5 == true, true, true, true, true, true, true, true, true, true, true, scP .u16 zz2, true, true, true, true, scP .u8 zz7, true, true, true, Vw.got u 5 == true, true, true, true, decide (Int.ofNat 5 < Int.ofNat (c.np)) == true], [])) ∧ ((decide (Int.ofNat 0 ≥ c.miss)) = false → (((!Vw.inn u 5) = true → (((decide zz5) = true → Q (Exit.normal, zz1, zz9, 99, 1530000000000000000000000000000000000000017, [true, true, true, true, decide zz5 == true, true, true, true, true, true, (!Vw.inn u 5) == true, true, true, true, decide (Int.ofNat 0 ≥ c.miss) == false, true, true, true, true, true, Vw.inn u 5 == true, true, true, true, true, true, true, true, true, true, true, scP .u16 zz2, true, true, true, true, scP .u8 zz7, true, true, true, Vw.got u 5 == true, true, true, true, decide (Int.ofNat 5 < Int.ofNat (c.np)) == true], [])) ∧ ((decide zz5) = false → Q (Exit.normal, zz1, zz3, 99, 1530000000000000000000000000000000000000013, [true, true, decide zz5 == false, true, true, true, true, true, (!Vw.inn u 5) == true, true, true, true, decide (Int.ofNat 0 ≥ c.miss) == false, true, true, true, true, true, Vw.inn u 5 == true, true, true, true, true, true, true, true, true, true, true, scP .u16 zz2, true, true, true, true, scP .u8 zz7, true, true, true, Vw.got u 5 == true, true, true, true, decide (Int.ofNat 5 < Int.ofNat (c.np)) == true], [])))) ∧ ((!Vw.inn u 5) = false → Q (Exit.normal, zz1, zz3, 99, 1530000000000000000000000000000000000000013, [true, true, (!Vw.inn u 5) == false, true, true, true, decide (Int.ofNat 0 ≥ c.miss) == false, true, true, true, true, true, Vw.inn u 5 == true, true, true, true, true, true, true, true, true, true, true, scP .u16 zz2, true, true, true, true, scP .u8 zz7, true, true, true, Vw.got u 5 == true, true, true, true, decide (Int.ofNat 5 < Int.ofNat (c.np)) == true], [])))))) ∧ ((Vw.inn u 5) = false → (((!Vw.inn u 5) = true → (((decide zz5) = true → Q (Exit.normal, zz1, zz9, 99, 1530000000000000000000000000000000000000017, [true, true, true, true, decide zz5 == true, true, true, true, true, true, (!Vw.inn u 5) == true, true, true, true, Vw.inn u 5 == false, true, true, true, true, true, true, true, true, true, true, scP .u16 zz2, true, true, true, true, scP .u8 zz7, true, true, true, Vw.got u 5 == true, true, true, true, decide (Int.ofNat 5 < Int.ofNat (c.np)) == true], [])) ∧ ((decide zz5) = false → Q (Exit.normal, zz1, zz3, 99, 1530000000000000000000000000000000000000013, [true, true, decide zz5 == false, true, true, true, true, true, (!Vw.inn u 5) == true, true, true, true, Vw.inn u 5 == false, true, true, true, true, true, true, true, true, true, true, scP .u16 zz2, true, true, true, true, scP .u8 zz7, true, true, true, Vw.got u 5 == true, true, true, true, decide (Int.ofNat 5 < Int.ofNat (c.np)) == true], [])))) ∧ ((!Vw.inn u 5) = false → Q (Exit.normal, zz1, zz3, 99, 1530000000000000000000000000000000000000013, [true, true, (!Vw.inn u 5) == false, true, true, true, Vw.inn u 5 == false, true, true, true, true, true, true, true, true, true, true, scP .u16 zz2, true, true, true, true, scP .u8 zz7, true, true, true, Vw.got u 5 == true, true, true, true, decide (Int.ofNat 5 < Int.ofNat (c.np)) == true], [])))))) ∧ ((Vw.got u 5) = false → (((Vw.inn u 5) = true → (((decide zz6) = true → Q (Exit.normal, zz1, [some (ABlk.mk true false 47 0 (Cs.lit (vwL (updV 5 false (upZ (Vw.miss u 5)) (Int.ofNat 0) (penZ (Vw.score u 5)) false u)))), some (ABlk.mk true false 47 0 (Cs.lit (vwL v))), some zz0], 99, 1370000000000000000000000000000000000000017, [true, true, true, true, decide zz6 == true, true, true, true, true, true, Vw.inn u 5 == true, true, true, true, true, true, true, true, true, true, true, scP .u16 zz2, true, true, true, true, scP .u8 zz8, true, true, true, Vw.got u 5 == false, true, true, true, decide (Int.ofNat 5 < Int.ofNat (c.np)) == true], [])) ∧ ((decide zz6) = false → (((!Vw.inn u 5) = true → (((decide (Int.ofNat 0 ≥ c.good)) = true → Q (Exit.normal, zz1, zz10, 99, 1530000000000000000000000000000000000000017, [true, true, true, true, decide (Int.ofNat 0 ≥ c.good) == true, true, true, true, true, true, (!Vw.inn u 5) == true, true, true, true, decide zz6 == false, true, true, true, true, true, Vw.inn u 5 == true, true, true, true, true, true, true, true, true, true, true, scP .u16 zz2, true, true, true, true, scP .u8 zz8, true, true, true, Vw.got u 5 == false, true, true, true, decide (Int.ofNat 5 < Int.ofNat (c.np)) == true], [])) ∧ ((decide (Int.ofNat 0 ≥ c.good)) = false → Q (Exit.normal, zz1, zz4, 99, 1530000000000000000000000000000000000000013, [true, true, decide (Int.ofNat 0 ≥ c.good) == false, true, true, true, true, true, (!Vw.inn u 5) == true, true, true, true, decide zz6 == false, true, true, true, true, true, Vw.inn u 5 == true, true, true, true, true, true, true, true, true, true, true, scP .u16 zz2, true, true, true, true, scP .u8 zz8, true, true, true, Vw.got u 5 == false, true, true, true, decide (Int.ofNat 5 < Int.ofNat (c.np)) == true], [])))) ∧ ((!Vw.inn u 5) = false → Q (Exit.normal, zz1, zz4, 99, 1530000000000000000000000000000000000000013, [true, true, (!Vw.inn u 5) == false, true, true, true, decide zz6 == false, true, true, true, true, true, Vw.inn u 5 == true, true, true, true, true, true, true, true, true, true, true, scP .u16 zz2, true, true, true, true, scP .u8 zz8, true, true, true, Vw.got u 5 == false, true, true, true, decide (Int.ofNat 5 < Int.ofNat (c.np)) == true], [])))))) ∧ ((Vw.inn u 5) = false → (((!Vw.inn u 5) = true → (((decide (Int.ofNat 0 ≥ c.good)) = true → Q (Exit.normal, zz1, zz10, 99, 1530000000000000000000000000000000000000017, [true, true, true, true, decide (Int.ofNat 0 ≥ c.good) == true, true, true, true, true, true, (!Vw.inn u 5) == true, true, true, true, Vw.inn u 5 == false, true, true, true, true, true, true, true, true, true, true, scP .u16 zz2, true, true, true, true, scP .u8 zz8, true, true, true, Vw.got u 5 == false, true, true, true, decide (Int.ofNat 5 < Int.ofNat (c.np)) == true], [])) ∧ ((decide (Int.ofNat 0 ≥ c.good)) = false → Q (Exit.normal, zz1, zz4, 99, 1530000000000000000000000000000000000000013, [true, true, decide (Int.ofNat 0 ≥ c.good) == false, true, true, true, true, true, (!Vw.inn u 5) == true, true, true, true, Vw.inn u 5 == false, true, true, true, true, true, true, true, true, true, true, scP .u16 zz2, true, true, true, true, scP .u8 zz8, true, true, true, Vw.got u 5 == false, true, true, true, decide (Int.ofNat 5 < Int.ofNat (c.np)) == true], [])))) ∧ ((!Vw.inn u 5) = false → Q (Exit.normal, zz1, zz4, 99, 1530000000000000000000000000000000000000013, [true, true, (!Vw.inn u 5) == false, true, true, true, Vw.inn u 5 == false, true, true, true, true, true, true, true, true, true, true, scP .u16 zz2, true, true, true, true, scP .u8 zz8, true, true, true, Vw.got u 5 == false, true, true, true, decide (Int.ofNat 5 < Int.ofNat (c.np)) == true], [])))))))) :
    ∃ p r, mrR Tryd.prog c u v 5 p = some r ∧ Q r :=
  two H
  (fun g1 => two g1
    (fun g2 => two g2
      (fun g3 => ⟨pD 11 59062, _, by kernel_rfl, g3⟩)
      (fun g3 => two g3
        (fun g4 => two g4
          (fun g5 => ⟨pD 20 1162556725, _, by kernel_rfl, g5⟩)
          (fun g5 => ⟨pD 20 2324818192, _, by kernel_rfl, g5⟩))
        (fun g4 => ⟨pD 20 472405, _, by kernel_rfl, g4⟩)))
    (fun g2 => two g2
      (fun g3 => two g3
        (fun g4 => ⟨pD 20 1162438636, _, by kernel_rfl, g4⟩)
        (fun g4 => ⟨pD 20 2324700103, _, by kernel_rfl, g4⟩))
      (fun g3 => ⟨pD 20 354316, _, by kernel_rfl, g3⟩)))
  (fun g1 => two g1
    (fun g2 => two g2
      (fun g3 => ⟨pD 11 59065, _, by kernel_rfl, g3⟩)
      (fun g3 => two g3
        (fun g4 => two g4
          (fun g5 => ⟨pD 20 1162556728, _, by kernel_rfl, g5⟩)
          (fun g5 => ⟨pD 20 2324818195, _, by kernel_rfl, g5⟩))
        (fun g4 => ⟨pD 20 472408, _, by kernel_rfl, g4⟩)))
    (fun g2 => two g2
      (fun g3 => two g3
        (fun g4 => ⟨pD 20 1162438639, _, by kernel_rfl, g4⟩)
        (fun g4 => ⟨pD 20 2324700106, _, by kernel_rfl, g4⟩))
      (fun g3 => ⟨pD 20 354319, _, by kernel_rfl, g3⟩)))
theorem mr6 (c : Cfg) (u v : Vw) (Q : VC → Prop) (H : let zz0 := (ABlk.mk true false 25 0 (Cs.lit [AC.v (Value.int IntKind.i64 (Cfg.nodes c)), AC.sl 1043 0 0 (Cfg.np c) (some (Cfg.np c)), AC.sl 1070 0 0 (Cfg.ns c) (some (Cfg.ns c)), AC.v (Value.int IntKind.i64 (Cfg.long c)), AC.sl 1097 0 0 (Cfg.nb c) (some (Cfg.nb c)), AC.sl 1114 0 0 (Cfg.nt c) (some (Cfg.nt c)), AC.v (Value.int IntKind.i64 (Cfg.miss c)), AC.v (Value.int IntKind.i64 (Cfg.good c)), AC.v (Value.int IntKind.i64 (Cfg.fresh c))])); let zz1 := [some (lkA (List.zip rdH (mrV c 6)) 3), some (lkA (List.zip rdH (mrV c 6)) 4), some (lkA (List.zip rdH (mrV c 6)) 5), some (lkA (List.zip rdH (mrV c 6)) 11), some (AV.c (AC.v (Value.int IntKind.i64 (Int.ofNat 7))))]; let zz2 := [AV.c (AC.v (Value.int IntKind.u16 (Vw.score u 6)))]; let zz3 := [some (ABlk.mk true false 47 0 (Cs.lit (vwL (updV 6 (Vw.inn u 6) (Int.ofNat 0) (upZ (Vw.good u 6)) (rewZ (Vw.score u 6)) false u)))), some (ABlk.mk true false 47 0 (Cs.lit (vwL v))), some zz0]; let zz4 := [some (ABlk.mk true false 47 0 (Cs.lit (vwL (updV 6 (Vw.inn u 6) (upZ (Vw.miss u 6)) (Int.ofNat 0) (penZ (Vw.score u 6)) false u)))), some (ABlk.mk true false 47 0 (Cs.lit (vwL v))), some zz0]; let zz5 := (IntKind.wrap IntKind.i64 (upZ (Vw.good u 6)) ≥ Cfg.good c); let zz6 := (IntKind.wrap IntKind.i64 (upZ (Vw.miss u 6)) ≥ Cfg.miss c); let zz7 := [AV.c (AC.v (Value.int IntKind.u8 (Vw.good u 6)))]; let zz8 := [AV.c (AC.v (Value.int IntKind.u8 (Vw.miss u 6)))]; let zz9 := [some (ABlk.mk true false 47 0 (Cs.lit (vwL (updV 6 true (Int.ofNat 0) (upZ (Vw.good u 6)) (rewZ (Vw.score u 6)) false u)))), some (ABlk.mk true false 47 0 (Cs.lit (vwL v))), some zz0]; let zz10 := [some (ABlk.mk true false 47 0 (Cs.lit (vwL (updV 6 true (upZ (Vw.miss u 6)) (Int.ofNat 0) (penZ (Vw.score u 6)) false u)))), some (ABlk.mk true false 47 0 (Cs.lit (vwL v))), some zz0]; (((Vw.got u 6) = true → (((Vw.inn u 6) = true → (((decide (Int.ofNat 0 ≥ c.miss)) = true → Q (Exit.normal, zz1, [some (ABlk.mk true false 47 0 (Cs.lit (vwL (updV 6 false (Int.ofNat 0) (upZ (Vw.good u 6)) (rewZ (Vw.score u 6)) false u)))), some (ABlk.mk true false 47 0 (Cs.lit (vwL v))), some zz0], 99, 1370000000000000000000000000000000000000017, [true, true, true, true, decide (Int.ofNat 0 ≥ c.miss) == true, true, true, true, true, true, Vw.inn u 6 == true, true, true, true, true, true, true, true, true, true, true, scP .u16 zz2, true, true, true, true, scP .u8 zz7, true, true, true, Vw.got u 6 == true, true, true, true, decide (Int.ofNat 6 < Int.ofNat (c.np)) == true], [])) ∧ ((decide (Int.ofNat 0 ≥ c.miss)) = false → (((!Vw.inn u 6) = true → (((decide zz5) = true → Q (Exit.normal, zz1, zz9, 99, 1530000000000000000000000000000000000000017, [true, true, true, true, decide zz5 == true, true, true, true, true, true, (!Vw.inn u 6) == true, true, true, true, decide (Int.ofNat 0 ≥ c.miss) == false, true, true, true, true, true, Vw.inn u 6 == true, true, true, true, true, true, true, true, true, true, true, scP .u16 zz2, true, true, true, true, scP .u8 zz7, true, true, true, Vw.got u 6 == true, true, true, true, decide (Int.ofNat 6 < Int.ofNat (c.np)) == true], [])) ∧ ((decide zz5) = false → Q (Exit.normal, zz1, zz3, 99, 1530000000000000000000000000000000000000013, [true, true, decide zz5 == false, true, true, true, true, true, (!Vw.inn u 6) == true, true, true, true, decide (Int.ofNat 0 ≥ c.miss) == false, true, true, true, true, true, Vw.inn u 6 == true, true, true, true, true, true, true, true, true, true, true, scP .u16 zz2, true, true, true, true, scP .u8 zz7, true, true, true, Vw.got u 6 == true, true, true, true, decide (Int.ofNat 6 < Int.ofNat (c.np)) == true], [])))) ∧ ((!Vw.inn u 6) = false → Q (Exit.normal, zz1, zz3, 99, 1530000000000000000000000000000000000000013, [true, true, (!Vw.inn u 6) == false, true, true, true, decide (Int.ofNat 0 ≥ c.miss) == false, true, true, true, true, true, Vw.inn u 6 == true, true, true, true, true, true, true, true, true, true, true, scP .u16 zz2, true, true, true, true, scP .u8 zz7, true, true, true, Vw.got u 6 == true, true, true, true, decide (Int.ofNat 6 < Int.ofNat (c.np)) == true], [])))))) ∧ ((Vw.inn u 6) = false → (((!Vw.inn u 6) = true → (((decide zz5) = true → Q (Exit.normal, zz1, zz9, 99, 1530000000000000000000000000000000000000017, [true, true, true, true, decide zz5 == true, true, true, true, true, true, (!Vw.inn u 6) == true, true, true, true, Vw.inn u 6 == false, true, true, true, true, true, true, true, true, true, true, scP .u16 zz2, true, true, true, true, scP .u8 zz7, true, true, true, Vw.got u 6 == true, true, true, true, decide (Int.ofNat 6 < Int.ofNat (c.np)) == true], [])) ∧ ((decide zz5) = false → Q (Exit.normal, zz1, zz3, 99, 1530000000000000000000000000000000000000013, [true, true, decide zz5 == false, true, true, true, true, true, (!Vw.inn u 6) == true, true, true, true, Vw.inn u 6 == false, true, true, true, true, true, true, true, true, true, true, scP .u16 zz2, true, true, true, true, scP .u8 zz7, true, true, true, Vw.got u 6 == true, true, true, true, decide (Int.ofNat 6 < Int.ofNat (c.np)) == true], [])))) ∧ ((!Vw.inn u 6) = false → Q (Exit.normal, zz1, zz3, 99, 1530000000000000000000000000000000000000013, [true, true, (!Vw.inn u 6) == false, true, true, true, Vw.inn u 6 == false, true, true, true, true, true, true, true, true, true, true, scP .u16 zz2, true, true, true, true, scP .u8 zz7, true, true, true, Vw.got u 6 == true, true, true, true, decide (Int.ofNat 6 < Int.ofNat (c.np)) == true], [])))))) ∧ ((Vw.got u 6) = false → (((Vw.inn u 6) = true → (((decide zz6) = true → Q (Exit.normal, zz1, [some (ABlk.mk true false 47 0 (Cs.lit (vwL (updV 6 false (upZ (Vw.miss u 6)) (Int.ofNat 0) (penZ (Vw.score u 6)) false u)))), some (ABlk.mk true false 47 0 (Cs.lit (vwL v))), some zz0], 99, 1370000000000000000000000000000000000000017, [true, true, true, true, decide zz6 == true, true, true, true, true, true, Vw.inn u 6 == true, true, true, true, true, true, true, true, true, true, true, scP .u16 zz2, true, true, true, true, scP .u8 zz8, true, true, true, Vw.got u 6 == false, true, true, true, decide (Int.ofNat 6 < Int.ofNat (c.np)) == true], [])) ∧ ((decide zz6) = false → (((!Vw.inn u 6) = true → (((decide (Int.ofNat 0 ≥ c.good)) = true → Q (Exit.normal, zz1, zz10, 99, 1530000000000000000000000000000000000000017, [true, true, true, true, decide (Int.ofNat 0 ≥ c.good) == true, true, true, true, true, true, (!Vw.inn u 6) == true, true, true, true, decide zz6 == false, true, true, true, true, true, Vw.inn u 6 == true, true, true, true, true, true, true, true, true, true, true, scP .u16 zz2, true, true, true, true, scP .u8 zz8, true, true, true, Vw.got u 6 == false, true, true, true, decide (Int.ofNat 6 < Int.ofNat (c.np)) == true], [])) ∧ ((decide (Int.ofNat 0 ≥ c.good)) = false → Q (Exit.normal, zz1, zz4, 99, 1530000000000000000000000000000000000000013, [true, true, decide (Int.ofNat 0 ≥ c.good) == false, true, true, true, true, true, (!Vw.inn u 6) == true, true, true, true, decide zz6 == false, true, true, true, true, true, Vw.inn u 6 == true, true, true, true, true, true, true, true, true, true, true, scP .u16 zz2, true, true, true, true, scP .u8 zz8, true, true, true, Vw.got u 6 == false, true, true, true, decide (Int.ofNat 6 < Int.ofNat (c.np)) == true], [])))) ∧ ((!Vw.inn u 6) = false → Q (Exit.normal, zz1, zz4, 99, 1530000000000000000000000000000000000000013, [true, true, (!Vw.inn u 6) == false, true, true, true, decide zz6 == false, true, true, true, true, true, Vw.inn u 6 == true, true, true, true, true, true, true, true, true, true, true, scP .u16 zz2, true, true, true, true, scP .u8 zz8, true, true, true, Vw.got u 6 == false, true, true, true, decide (Int.ofNat 6 < Int.ofNat (c.np)) == true], [])))))) ∧ ((Vw.inn u 6) = false → (((!Vw.inn u 6) = true → (((decide (Int.ofNat 0 ≥ c.good)) = true → Q (Exit.normal, zz1, zz10, 99, 1530000000000000000000000000000000000000017, [true, true, true, true, decide (Int.ofNat 0 ≥ c.good) == true, true, true, true, true, true, (!Vw.inn u 6) == true, true, true, true, Vw.inn u 6 == false, true, true, true, true, true, true, true, true, true, true, scP .u16 zz2, true, true, true, true, scP .u8 zz8, true, true, true, Vw.got u 6 == false, true, true, true, decide (Int.ofNat 6 < Int.ofNat (c.np)) == true], [])) ∧ ((decide (Int.ofNat 0 ≥ c.good)) = false → Q (Exit.normal, zz1, zz4, 99, 1530000000000000000000000000000000000000013, [true, true, decide (Int.ofNat 0 ≥ c.good) == false, true, true, true, true, true, (!Vw.inn u 6) == true, true, true, true, Vw.inn u 6 == false, true, true, true, true, true, true, true, true, true, true, scP .u16 zz2, true, true, true, true, scP .u8 zz8, true, true, true, Vw.got u 6 == false, true, true, true, decide (Int.ofNat 6 < Int.ofNat (c.np)) == true], [])))) ∧ ((!Vw.inn u 6) = false → Q (Exit.normal, zz1, zz4, 99, 1530000000000000000000000000000000000000013, [true, true, (!Vw.inn u 6) == false, true, true, true, Vw.inn u 6 == false, true, true, true, true, true, true, true, true, true, true, scP .u16 zz2, true, true, true, true, scP .u8 zz8, true, true, true, Vw.got u 6 == false, true, true, true, decide (Int.ofNat 6 < Int.ofNat (c.np)) == true], [])))))))) :
    ∃ p r, mrR Tryd.prog c u v 6 p = some r ∧ Q r :=
  two H
  (fun g1 => two g1
    (fun g2 => two g2
      (fun g3 => ⟨pD 11 59062, _, by kernel_rfl, g3⟩)
      (fun g3 => two g3
        (fun g4 => two g4
          (fun g5 => ⟨pD 20 1162556725, _, by kernel_rfl, g5⟩)
          (fun g5 => ⟨pD 20 2324818192, _, by kernel_rfl, g5⟩))
        (fun g4 => ⟨pD 20 472405, _, by kernel_rfl, g4⟩)))
    (fun g2 => two g2
      (fun g3 => two g3
        (fun g4 => ⟨pD 20 1162438636, _, by kernel_rfl, g4⟩)
        (fun g4 => ⟨pD 20 2324700103, _, by kernel_rfl, g4⟩))
      (fun g3 => ⟨pD 20 354316, _, by kernel_rfl, g3⟩)))
  (fun g1 => two g1
    (fun g2 => two g2
      (fun g3 => ⟨pD 11 59065, _, by kernel_rfl, g3⟩)
      (fun g3 => two g3
        (fun g4 => two g4
          (fun g5 => ⟨pD 20 1162556728, _, by kernel_rfl, g5⟩)
          (fun g5 => ⟨pD 20 2324818195, _, by kernel_rfl, g5⟩))
        (fun g4 => ⟨pD 20 472408, _, by kernel_rfl, g4⟩)))
    (fun g2 => two g2
      (fun g3 => two g3
        (fun g4 => ⟨pD 20 1162438639, _, by kernel_rfl, g4⟩)
        (fun g4 => ⟨pD 20 2324700106, _, by kernel_rfl, g4⟩))
      (fun g3 => ⟨pD 20 354319, _, by kernel_rfl, g3⟩)))
theorem mr7 (c : Cfg) (u v : Vw) (Q : VC → Prop) (H : let zz0 := (ABlk.mk true false 25 0 (Cs.lit [AC.v (Value.int IntKind.i64 (Cfg.nodes c)), AC.sl 1043 0 0 (Cfg.np c) (some (Cfg.np c)), AC.sl 1070 0 0 (Cfg.ns c) (some (Cfg.ns c)), AC.v (Value.int IntKind.i64 (Cfg.long c)), AC.sl 1097 0 0 (Cfg.nb c) (some (Cfg.nb c)), AC.sl 1114 0 0 (Cfg.nt c) (some (Cfg.nt c)), AC.v (Value.int IntKind.i64 (Cfg.miss c)), AC.v (Value.int IntKind.i64 (Cfg.good c)), AC.v (Value.int IntKind.i64 (Cfg.fresh c))])); let zz1 := [some (lkA (List.zip rdH (mrV c 7)) 3), some (lkA (List.zip rdH (mrV c 7)) 4), some (lkA (List.zip rdH (mrV c 7)) 5), some (lkA (List.zip rdH (mrV c 7)) 11), some (AV.c (AC.v (Value.int IntKind.i64 (Int.ofNat 8))))]; let zz2 := [AV.c (AC.v (Value.int IntKind.u16 (Vw.score u 7)))]; let zz3 := [some (ABlk.mk true false 47 0 (Cs.lit (vwL (updV 7 (Vw.inn u 7) (Int.ofNat 0) (upZ (Vw.good u 7)) (rewZ (Vw.score u 7)) false u)))), some (ABlk.mk true false 47 0 (Cs.lit (vwL v))), some zz0]; let zz4 := [some (ABlk.mk true false 47 0 (Cs.lit (vwL (updV 7 (Vw.inn u 7) (upZ (Vw.miss u 7)) (Int.ofNat 0) (penZ (Vw.score u 7)) false u)))), some (ABlk.mk true false 47 0 (Cs.lit (vwL v))), some zz0]; let zz5 := (IntKind.wrap IntKind.i64 (upZ (Vw.good u 7)) ≥ Cfg.good c); let zz6 := (IntKind.wrap IntKind.i64 (upZ (Vw.miss u 7)) ≥ Cfg.miss c); let zz7 := [AV.c (AC.v (Value.int IntKind.u8 (Vw.good u 7)))]; let zz8 := [AV.c (AC.v (Value.int IntKind.u8 (Vw.miss u 7)))]; let zz9 := [some (ABlk.mk true false 47 0 (Cs.lit (vwL (updV 7 true (Int.ofNat 0) (upZ (Vw.good u 7)) (rewZ (Vw.score u 7)) false u)))), some (ABlk.mk true false 47 0 (Cs.lit (vwL v))), some zz0]; let zz10 := [some (ABlk.mk true false 47 0 (Cs.lit (vwL (updV 7 true (upZ (Vw.miss u 7)) (Int.ofNat 0) (penZ (Vw.score u 7)) false u)))), some (ABlk.mk true false 47 0 (Cs.lit (vwL v))), some zz0]; (((Vw.got u 7) = true → (((Vw.inn u 7) = true → (((decide (Int.ofNat 0 ≥ c.miss)) = true → Q (Exit.normal, zz1, [some (ABlk.mk true false 47 0 (Cs.lit (vwL (updV 7 false (Int.ofNat 0) (upZ (Vw.good u 7)) (rewZ (Vw.score u 7)) false u)))), some (ABlk.mk true false 47 0 (Cs.lit (vwL v))), some zz0], 99, 1370000000000000000000000000000000000000017, [true, true, true, true, decide (Int.ofNat 0 ≥ c.miss) == true, true, true, true, true, true, Vw.inn u 7 == true, true, true, true, true, true, true, true, true, true, true, scP .u16 zz2, true, true, true, true, scP .u8 zz7, true, true, true, Vw.got u 7 == true, true, true, true, decide (Int.ofNat 7 < Int.ofNat (c.np)) == true], [])) ∧ ((decide (Int.ofNat 0 ≥ c.miss)) = false → (((!Vw.inn u 7) = true → (((decide zz5) = true → Q (Exit.normal, zz1, zz9, 99, 1530000000000000000000000000000000000000017, [true, true, true, true, decide zz5 == true, true, true, true, true, true, (!Vw.inn u 7) == true, true, true, true, decide (Int.ofNat 0 ≥ c.miss) == false, true, true, true, true, true, Vw.inn u 7 == true, true, true, true, true, true, true, true, true, true, true, scP .u16 zz2, true, true, true, true, scP .u8 zz7, true, true, true, Vw.got u 7 == true, true, true, true, decide (Int.ofNat 7 < Int.ofNat (c.np)) == true], [])) ∧ ((decide zz5) = false → Q (Exit.normal, zz1, zz3, 99, 1530000000000000000000000000000000000000013, [true, true, decide zz5 == false, true, true, true, true, true, (!Vw.inn u 7) == true, true, true, true, decide (Int.ofNat 0 ≥ c.miss) == false, true, true, true, true, true, Vw.inn u 7 == true, true, true, true, true, true, true, true, true, true, true, scP .u16 zz2, true, true, true, true, scP .u8 zz7, true, true, true, Vw.got u 7 == true, true, true, true, decide (Int.ofNat 7 < Int.ofNat (c.np)) == true], [])))) ∧ ((!Vw.inn u 7) = false → Q (Exit.normal, zz1, zz3, 99, 1530000000000000000000000000000000000000013, [true, true, (!Vw.inn u 7) == false, true, true, true, decide (Int.ofNat 0 ≥ c.miss) == false, true, true, true, true, true, Vw.inn u 7 == true, true, true, true, true, true, true, true, true, true, true, scP .u16 zz2, true, true, true, true, scP .u8 zz7, true, true, true, Vw.got u 7 == true, true, true, true, decide (Int.ofNat 7 < Int.ofNat (c.np)) == true], [])))))) ∧ ((Vw.inn u 7) = false → (((!Vw.inn u 7) = true → (((decide zz5) = true → Q (Exit.normal, zz1, zz9, 99, 1530000000000000000000000000000000000000017, [true, true, true, true, decide zz5 == true, true, true, true, true, true, (!Vw.inn u 7) == true, true, true, true, Vw.inn u 7 == false, true, true, true, true, true, true, true, true, true, true, scP .u16 zz2, true, true, true, true, scP .u8 zz7, true, true, true, Vw.got u 7 == true, true, true, true, decide (Int.ofNat 7 < Int.ofNat (c.np)) == true], [])) ∧ ((decide zz5) = false → Q (Exit.normal, zz1, zz3, 99, 1530000000000000000000000000000000000000013, [true, true, decide zz5 == false, true, true, true, true, true, (!Vw.inn u 7) == true, true, true, true, Vw.inn u 7 == false, true, true, true, true, true, true, true, true, true, true, scP .u16 zz2, true, true, true, true, scP .u8 zz7, true, true, true, Vw.got u 7 == true, true, true, true, decide (Int.ofNat 7 < Int.ofNat (c.np)) == true], [])))) ∧ ((!Vw.inn u 7) = false → Q (Exit.normal, zz1, zz3, 99, 1530000000000000000000000000000000000000013, [true, true, (!Vw.inn u 7) == false, true, true, true, Vw.inn u 7 == false, true, true, true, true, true, true, true, true, true, true, scP .u16 zz2, true, true, true, true, scP .u8 zz7, true, true, true, Vw.got u 7 == true, true, true, true, decide (Int.ofNat 7 < Int.ofNat (c.np)) == true], [])))))) ∧ ((Vw.got u 7) = false → (((Vw.inn u 7) = true → (((decide zz6) = true → Q (Exit.normal, zz1, [some (ABlk.mk true false 47 0 (Cs.lit (vwL (updV 7 false (upZ (Vw.miss u 7)) (Int.ofNat 0) (penZ (Vw.score u 7)) false u)))), some (ABlk.mk true false 47 0 (Cs.lit (vwL v))), some zz0], 99, 1370000000000000000000000000000000000000017, [true, true, true, true, decide zz6 == true, true, true, true, true, true, Vw.inn u 7 == true, true, true, true, true, true, true, true, true, true, true, scP .u16 zz2, true, true, true, true, scP .u8 zz8, true, true, true, Vw.got u 7 == false, true, true, true, decide (Int.ofNat 7 < Int.ofNat (c.np)) == true], [])) ∧ ((decide zz6) = false → (((!Vw.inn u 7) = true → (((decide (Int.ofNat 0 ≥ c.good)) = true → Q (Exit.normal, zz1, zz10, 99, 1530000000000000000000000000000000000000017, [true, true, true, true, decide (Int.ofNat 0 ≥ c.good) == true, true, true, true, true, true, (!Vw.inn u 7) == true, true, true, true, decide zz6 == false, true, true, true, true, true, Vw.inn u 7 == true, true, true, true, true, true, true, true, true, true, true, scP .u16 zz2, true, true, true, true, scP .u8 zz8, true, true, true, Vw.got u 7 == false, true, true, true, decide (Int.ofNat 7 < Int.ofNat (c.np)) == true], [])) ∧ ((decide (Int.ofNat 0 ≥ c.good)) = false → Q (Exit.normal, zz1, zz4, 99, 1530000000000000000000000000000000000000013, [true, true, decide (Int.ofNat 0 ≥ c.good) == false, true, true, true, true, true, (!Vw.inn u 7) == true, true, true, true, decide zz6 == false, true, true, true, true, true, Vw.inn u 7 == true, true, true, true, true, true, true, true, true, true, true, scP .u16 zz2, true, true, true, true, scP .u8 zz8, true, true, true, Vw.got u 7 == false, true, true, true, decide (Int.ofNat 7 < Int.ofNat (c.np)) == true], [])))) ∧ ((!Vw.inn u 7) = false → Q (Exit.normal, zz1, zz4, 99, 1530000000000000000000000000000000000000013, [true, true, (!Vw.inn u 7) == false, true, true, true, decide zz6 == false, true, true, true, true, true, Vw.inn u 7 == true, true, true, true, true, true, true, true, true, true, true, scP .u16 zz2, true, true, true, true, scP .u8 zz8, true, true, true, Vw.got u 7 == false, true, true, true, decide (Int.ofNat 7 < Int.ofNat (c.np)) == true], [])))))) ∧ ((Vw.inn u 7) = false → (((!Vw.inn u 7) = true → (((decide (Int.ofNat 0 ≥ c.good)) = true → Q (Exit.normal, zz1, zz10, 99, 1530000000000000000000000000000000000000017, [true, true, true, true, decide (Int.ofNat 0 ≥ c.good) == true, true, true, true, true, true, (!Vw.inn u 7) == true, true, true, true, Vw.inn u 7 == false, true, true, true, true, true, true, true, true, true, true, scP .u16 zz2, true, true, true, true, scP .u8 zz8, true, true, true, Vw.got u 7 == false, true, true, true, decide (Int.ofNat 7 < Int.ofNat (c.np)) == true], [])) ∧ ((decide (Int.ofNat 0 ≥ c.good)) = false → Q (Exit.normal, zz1, zz4, 99, 1530000000000000000000000000000000000000013, [true, true, decide (Int.ofNat 0 ≥ c.good) == false, true, true, true, true, true, (!Vw.inn u 7) == true, true, true, true, Vw.inn u 7 == false, true, true, true, true, true, true, true, true, true, true, scP .u16 zz2, true, true, true, true, scP .u8 zz8, true, true, true, Vw.got u 7 == false, true, true, true, decide (Int.ofNat 7 < Int.ofNat (c.np)) == true], [])))) ∧ ((!Vw.inn u 7) = false → Q (Exit.normal, zz1, zz4, 99, 1530000000000000000000000000000000000000013, [true, true, (!Vw.inn u 7) == false, true, true, true, Vw.inn u 7 == false, true, true, true, true, true, true, true, true, true, true, scP .u16 zz2, true, true, true, true, scP .u8 zz8, true, true, true, Vw.got u 7 == false, true, true, true, decide (Int.ofNat 7 < Int.ofNat (c.np)) == true], [])))))))) :
    ∃ p r, mrR Tryd.prog c u v 7 p = some r ∧ Q r :=
  two H
  (fun g1 => two g1
    (fun g2 => two g2
      (fun g3 => ⟨pD 11 59062, _, by kernel_rfl, g3⟩)
      (fun g3 => two g3
        (fun g4 => two g4
          (fun g5 => ⟨pD 20 1162556725, _, by kernel_rfl, g5⟩)
          (fun g5 => ⟨pD 20 2324818192, _, by kernel_rfl, g5⟩))
        (fun g4 => ⟨pD 20 472405, _, by kernel_rfl, g4⟩)))
    (fun g2 => two g2
      (fun g3 => two g3
        (fun g4 => ⟨pD 20 1162438636, _, by kernel_rfl, g4⟩)
        (fun g4 => ⟨pD 20 2324700103, _, by kernel_rfl, g4⟩))
      (fun g3 => ⟨pD 20 354316, _, by kernel_rfl, g3⟩)))
  (fun g1 => two g1
    (fun g2 => two g2
      (fun g3 => ⟨pD 11 59065, _, by kernel_rfl, g3⟩)
      (fun g3 => two g3
        (fun g4 => two g4
          (fun g5 => ⟨pD 20 1162556728, _, by kernel_rfl, g5⟩)
          (fun g5 => ⟨pD 20 2324818195, _, by kernel_rfl, g5⟩))
        (fun g4 => ⟨pD 20 472408, _, by kernel_rfl, g4⟩)))
    (fun g2 => two g2
      (fun g3 => two g3
        (fun g4 => ⟨pD 20 1162438639, _, by kernel_rfl, g4⟩)
        (fun g4 => ⟨pD 20 2324700106, _, by kernel_rfl, g4⟩))
      (fun g3 => ⟨pD 20 354319, _, by kernel_rfl, g3⟩)))
end Go.Proofs.YthekiiagacnhkaaDoor
end
/- members.Round: what each round of its loop comes to. Printed by wip/gen_rd.py. -/
section
namespace Go.Proofs.YthekiiagacnhkaaDoor
open Go.RowKit

theorem rnd_step {k : Nat} {ms go : Int} {v u : Vw} (hu : rndV ⟨k, ms, go⟩ v = u) {a : Bool} {m x s : Int} (h1 : rIn ⟨k + 1, ms, go⟩ k (v.inn k) (v.got k) (v.miss k) (v.good k) = a) (h2 : rMi ⟨k + 1, ms, go⟩ k (v.got k) (v.miss k) = m) (h3 : rGo ⟨k + 1, ms, go⟩ k (v.got k) (v.good k) = x) (h4 : rSc ⟨k + 1, ms, go⟩ k (v.got k) (v.score k) = s) :
    rndV ⟨k + 1, ms, go⟩ v = updV k a m x s false u := by
  subst hu h1 h2 h3 h4
  unfold rndV updV
  have e : ∀ i, i ≠ k → (i < k + 1 ↔ i < k) := fun i h => by omega
  simp only [Vw.mk.injEq, and_true]
  refine ⟨?_, ?_, ?_, ?_, ?_⟩ <;> (funext i; by_cases hi : i = k)
  all_goals (first | (subst hi; simp; done) | (subst hi; simp [rGt]; done) | (have e2 := e i hi; by_cases hk : i < k <;> simp [hi, rIn, rMi, rGo, rSc, rGt, hk, e2]))
def PosV (v : Vw) : Prop := ∀ i, i < 8 → 0 ≤ v.miss i ∧ 0 ≤ v.good i ∧ 0 ≤ v.score i
theorem upZ_wrap {z : Int} (h : 0 ≤ z) : IntKind.wrap .i64 (upZ z) = upZ z := wrap_nat _ (by unfold upZ; omega) (by unfold upZ; omega)
def RdNx (c : Cfg) (v w : Vw) (k : Nat) (r : VC) : Prop :=
  allT r.2.2.2.2.2.1 ∧ r.2.2.2.2.2.2 = [] ∧ r.2.2.2.2.1 ≤ 100000000000000000000000000000000000000000000000000 ∧ r.2.2.2.1 = 99 ∧ r.1 = .normal ∧ r.2.1 = (mrV c (k + 1)).map some ∧ r.2.2.1 = [some (vwB (rndV ⟨k + 1, c.miss, c.good⟩ v)), some (vwB w), some (rdC c)]
set_option maxRecDepth 100000 in
theorem rd_st0 (c : Cfg) (v w : Vw) (hk : 0 < c.np) (hp : PosV v) : ∃ p r, mrR Tryd.prog c (rndV ⟨0, c.miss, c.good⟩ v) w 0 p = some r ∧ RdNx c v w 0 r := by
  obtain ⟨p1, p2, p3⟩ := hp 0 (by omega)
  obtain ⟨u, hu⟩ : ∃ u, rndV ⟨0, c.miss, c.good⟩ v = u := ⟨_, rfl⟩
  have e1 : u.inn 0 = v.inn 0 := by rw [← hu]; rfl
  have e2 : u.got 0 = v.got 0 := by rw [← hu]; rfl
  have e3 : u.miss 0 = v.miss 0 := by rw [← hu]; rfl
  have e4 : u.good 0 = v.good 0 := by rw [← hu]; rfl
  have e5 : u.score 0 = v.score 0 := by rw [← hu]; rfl
  have w1 := upZ_wrap p1
  have w2 := upZ_wrap p2
  rw [hu]
  refine mr0 c u w _ ?_
  simp only [e1, e2, e3, e4, e5, w1, w2]
  (repeat' (first | refine ⟨fun h => ?_, fun h => ?_⟩ | fail))
  all_goals (first | (exfalso; simp_all; done) | skip)
  all_goals (refine ⟨?_, rfl, by dsimp only; omega, rfl, rfl, rfl, ?_⟩)
  all_goals first
    | (rw [rnd_step (k := 0) (ms := c.miss) (go := c.good) (v := v) (u := u) hu (a := true) (m := 0) (x := upZ (v.good 0)) (s := rewZ (v.score 0)) (by first | (simp_all [rIn, rMi, rGo, rSc, rndV]; done) | (simp_all [rIn, rMi, rGo, rSc, rndV]; omega) | fail) (by first | (simp_all [rIn, rMi, rGo, rSc, rndV]; done) | (simp_all [rIn, rMi, rGo, rSc, rndV]; omega) | fail) (by first | (simp_all [rIn, rMi, rGo, rSc, rndV]; done) | (simp_all [rIn, rMi, rGo, rSc, rndV]; omega) | fail) (by first | (simp_all [rIn, rMi, rGo, rSc, rndV]; done) | (simp_all [rIn, rMi, rGo, rSc, rndV]; omega) | fail)]; rfl)
    | (rw [rnd_step (k := 0) (ms := c.miss) (go := c.good) (v := v) (u := u) hu (a := true) (m := upZ (v.miss 0)) (x := 0) (s := penZ (v.score 0)) (by first | (simp_all [rIn, rMi, rGo, rSc, rndV]; done) | (simp_all [rIn, rMi, rGo, rSc, rndV]; omega) | fail) (by first | (simp_all [rIn, rMi, rGo, rSc, rndV]; done) | (simp_all [rIn, rMi, rGo, rSc, rndV]; omega) | fail) (by first | (simp_all [rIn, rMi, rGo, rSc, rndV]; done) | (simp_all [rIn, rMi, rGo, rSc, rndV]; omega) | fail) (by first | (simp_all [rIn, rMi, rGo, rSc, rndV]; done) | (simp_all [rIn, rMi, rGo, rSc, rndV]; omega) | fail)]; rfl)
    | (rw [rnd_step (k := 0) (ms := c.miss) (go := c.good) (v := v) (u := u) hu (a := false) (m := 0) (x := upZ (v.good 0)) (s := rewZ (v.score 0)) (by first | (simp_all [rIn, rMi, rGo, rSc, rndV]; done) | (simp_all [rIn, rMi, rGo, rSc, rndV]; omega) | fail) (by first | (simp_all [rIn, rMi, rGo, rSc, rndV]; done) | (simp_all [rIn, rMi, rGo, rSc, rndV]; omega) | fail) (by first | (simp_all [rIn, rMi, rGo, rSc, rndV]; done) | (simp_all [rIn, rMi, rGo, rSc, rndV]; omega) | fail) (by first | (simp_all [rIn, rMi, rGo, rSc, rndV]; done) | (simp_all [rIn, rMi, rGo, rSc, rndV]; omega) | fail)]; rfl)
    | (rw [rnd_step (k := 0) (ms := c.miss) (go := c.good) (v := v) (u := u) hu (a := false) (m := upZ (v.miss 0)) (x := 0) (s := penZ (v.score 0)) (by first | (simp_all [rIn, rMi, rGo, rSc, rndV]; done) | (simp_all [rIn, rMi, rGo, rSc, rndV]; omega) | fail) (by first | (simp_all [rIn, rMi, rGo, rSc, rndV]; done) | (simp_all [rIn, rMi, rGo, rSc, rndV]; omega) | fail) (by first | (simp_all [rIn, rMi, rGo, rSc, rndV]; done) | (simp_all [rIn, rMi, rGo, rSc, rndV]; omega) | fail) (by first | (simp_all [rIn, rMi, rGo, rSc, rndV]; done) | (simp_all [rIn, rMi, rGo, rSc, rndV]; omega) | fail)]; rfl)
    | (rw [rnd_step (k := 0) (ms := c.miss) (go := c.good) (v := v) (u := u) hu (a := v.inn 0) (m := 0) (x := upZ (v.good 0)) (s := rewZ (v.score 0)) (by first | (simp_all [rIn, rMi, rGo, rSc, rndV]; done) | (simp_all [rIn, rMi, rGo, rSc, rndV]; omega) | fail) (by first | (simp_all [rIn, rMi, rGo, rSc, rndV]; done) | (simp_all [rIn, rMi, rGo, rSc, rndV]; omega) | fail) (by first | (simp_all [rIn, rMi, rGo, rSc, rndV]; done) | (simp_all [rIn, rMi, rGo, rSc, rndV]; omega) | fail) (by first | (simp_all [rIn, rMi, rGo, rSc, rndV]; done) | (simp_all [rIn, rMi, rGo, rSc, rndV]; omega) | fail)]; rfl)
    | (rw [rnd_step (k := 0) (ms := c.miss) (go := c.good) (v := v) (u := u) hu (a := v.inn 0) (m := upZ (v.miss 0)) (x := 0) (s := penZ (v.score 0)) (by first | (simp_all [rIn, rMi, rGo, rSc, rndV]; done) | (simp_all [rIn, rMi, rGo, rSc, rndV]; omega) | fail) (by first | (simp_all [rIn, rMi, rGo, rSc, rndV]; done) | (simp_all [rIn, rMi, rGo, rSc, rndV]; omega) | fail) (by first | (simp_all [rIn, rMi, rGo, rSc, rndV]; done) | (simp_all [rIn, rMi, rGo, rSc, rndV]; omega) | fail) (by first | (simp_all [rIn, rMi, rGo, rSc, rndV]; done) | (simp_all [rIn, rMi, rGo, rSc, rndV]; omega) | fail)]; rfl)
    | (simp_all [allT, scP]; done)
    | (simp_all [allT, scP]; omega)
set_option maxRecDepth 100000 in
theorem rd_st1 (c : Cfg) (v w : Vw) (hk : 1 < c.np) (hp : PosV v) : ∃ p r, mrR Tryd.prog c (rndV ⟨1, c.miss, c.good⟩ v) w 1 p = some r ∧ RdNx c v w 1 r := by
  obtain ⟨p1, p2, p3⟩ := hp 1 (by omega)
  obtain ⟨u, hu⟩ : ∃ u, rndV ⟨1, c.miss, c.good⟩ v = u := ⟨_, rfl⟩
  have e1 : u.inn 1 = v.inn 1 := by rw [← hu]; rfl
  have e2 : u.got 1 = v.got 1 := by rw [← hu]; rfl
  have e3 : u.miss 1 = v.miss 1 := by rw [← hu]; rfl
  have e4 : u.good 1 = v.good 1 := by rw [← hu]; rfl
  have e5 : u.score 1 = v.score 1 := by rw [← hu]; rfl
  have w1 := upZ_wrap p1
  have w2 := upZ_wrap p2
  rw [hu]
  refine mr1 c u w _ ?_
  simp only [e1, e2, e3, e4, e5, w1, w2]
  (repeat' (first | refine ⟨fun h => ?_, fun h => ?_⟩ | fail))
  all_goals (first | (exfalso; simp_all; done) | skip)
  all_goals (refine ⟨?_, rfl, by dsimp only; omega, rfl, rfl, rfl, ?_⟩)
  all_goals first
    | (rw [rnd_step (k := 1) (ms := c.miss) (go := c.good) (v := v) (u := u) hu (a := true) (m := 0) (x := upZ (v.good 1)) (s := rewZ (v.score 1)) (by first | (simp_all [rIn, rMi, rGo, rSc, rndV]; done) | (simp_all [rIn, rMi, rGo, rSc, rndV]; omega) | fail) (by first | (simp_all [rIn, rMi, rGo, rSc, rndV]; done) | (simp_all [rIn, rMi, rGo, rSc, rndV]; omega) | fail) (by first | (simp_all [rIn, rMi, rGo, rSc, rndV]; done) | (simp_all [rIn, rMi, rGo, rSc, rndV]; omega) | fail) (by first | (simp_all [rIn, rMi, rGo, rSc, rndV]; done) | (simp_all [rIn, rMi, rGo, rSc, rndV]; omega) | fail)]; rfl)
    | (rw [rnd_step (k := 1) (ms := c.miss) (go := c.good) (v := v) (u := u) hu (a := true) (m := upZ (v.miss 1)) (x := 0) (s := penZ (v.score 1)) (by first | (simp_all [rIn, rMi, rGo, rSc, rndV]; done) | (simp_all [rIn, rMi, rGo, rSc, rndV]; omega) | fail) (by first | (simp_all [rIn, rMi, rGo, rSc, rndV]; done) | (simp_all [rIn, rMi, rGo, rSc, rndV]; omega) | fail) (by first | (simp_all [rIn, rMi, rGo, rSc, rndV]; done) | (simp_all [rIn, rMi, rGo, rSc, rndV]; omega) | fail) (by first | (simp_all [rIn, rMi, rGo, rSc, rndV]; done) | (simp_all [rIn, rMi, rGo, rSc, rndV]; omega) | fail)]; rfl)
    | (rw [rnd_step (k := 1) (ms := c.miss) (go := c.good) (v := v) (u := u) hu (a := false) (m := 0) (x := upZ (v.good 1)) (s := rewZ (v.score 1)) (by first | (simp_all [rIn, rMi, rGo, rSc, rndV]; done) | (simp_all [rIn, rMi, rGo, rSc, rndV]; omega) | fail) (by first | (simp_all [rIn, rMi, rGo, rSc, rndV]; done) | (simp_all [rIn, rMi, rGo, rSc, rndV]; omega) | fail) (by first | (simp_all [rIn, rMi, rGo, rSc, rndV]; done) | (simp_all [rIn, rMi, rGo, rSc, rndV]; omega) | fail) (by first | (simp_all [rIn, rMi, rGo, rSc, rndV]; done) | (simp_all [rIn, rMi, rGo, rSc, rndV]; omega) | fail)]; rfl)
    | (rw [rnd_step (k := 1) (ms := c.miss) (go := c.good) (v := v) (u := u) hu (a := false) (m := upZ (v.miss 1)) (x := 0) (s := penZ (v.score 1)) (by first | (simp_all [rIn, rMi, rGo, rSc, rndV]; done) | (simp_all [rIn, rMi, rGo, rSc, rndV]; omega) | fail) (by first | (simp_all [rIn, rMi, rGo, rSc, rndV]; done) | (simp_all [rIn, rMi, rGo, rSc, rndV]; omega) | fail) (by first | (simp_all [rIn, rMi, rGo, rSc, rndV]; done) | (simp_all [rIn, rMi, rGo, rSc, rndV]; omega) | fail) (by first | (simp_all [rIn, rMi, rGo, rSc, rndV]; done) | (simp_all [rIn, rMi, rGo, rSc, rndV]; omega) | fail)]; rfl)
    | (rw [rnd_step (k := 1) (ms := c.miss) (go := c.good) (v := v) (u := u) hu (a := v.inn 1) (m := 0) (x := upZ (v.good 1)) (s := rewZ (v.score 1)) (by first | (simp_all [rIn, rMi, rGo, rSc, rndV]; done) | (simp_all [rIn, rMi, rGo, rSc, rndV]; omega) | fail) (by first | (simp_all [rIn, rMi, rGo, rSc, rndV]; done) | (simp_all [rIn, rMi, rGo, rSc, rndV]; omega) | fail) (by first | (simp_all [rIn, rMi, rGo, rSc, rndV]; done) | (simp_all [rIn, rMi, rGo, rSc, rndV]; omega) | fail) (by first | (simp_all [rIn, rMi, rGo, rSc, rndV]; done) | (simp_all [rIn, rMi, rGo, rSc, rndV]; omega) | fail)]; rfl)
    | (rw [rnd_step (k := 1) (ms := c.miss) (go := c.good) (v := v) (u := u) hu (a := v.inn 1) (m := upZ (v.miss 1)) (x := 0) (s := penZ (v.score 1)) (by first | (simp_all [rIn, rMi, rGo, rSc, rndV]; done) | (simp_all [rIn, rMi, rGo, rSc, rndV]; omega) | fail) (by first | (simp_all [rIn, rMi, rGo, rSc, rndV]; done) | (simp_all [rIn, rMi, rGo, rSc, rndV]; omega) | fail) (by first | (simp_all [rIn, rMi, rGo, rSc, rndV]; done) | (simp_all [rIn, rMi, rGo, rSc, rndV]; omega) | fail) (by first | (simp_all [rIn, rMi, rGo, rSc, rndV]; done) | (simp_all [rIn, rMi, rGo, rSc, rndV]; omega) | fail)]; rfl)
    | (simp_all [allT, scP]; done)
    | (simp_all [allT, scP]; omega)
set_option maxRecDepth 100000 in
theorem rd_st2 (c : Cfg) (v w : Vw) (hk : 2 < c.np) (hp : PosV v) : ∃ p r, mrR Tryd.prog c (rndV ⟨2, c.miss, c.good⟩ v) w 2 p = some r ∧ RdNx c v w 2 r := by
  obtain ⟨p1, p2, p3⟩ := hp 2 (by omega)
  obtain ⟨u, hu⟩ : ∃ u, rndV ⟨2, c.miss, c.good⟩ v = u := ⟨_, rfl⟩
  have e1 : u.inn 2 = v.inn 2 := by rw [← hu]; rfl
  have e2 : u.got 2 = v.got 2 := by rw [← hu]; rfl
  have e3 : u.miss 2 = v.miss 2 := by rw [← hu]; rfl
  have e4 : u.good 2 = v.good 2 := by rw [← hu]; rfl
  have e5 : u.score 2 = v.score 2 := by rw [← hu]; rfl
  have w1 := upZ_wrap p1
  have w2 := upZ_wrap p2
  rw [hu]
  refine mr2 c u w _ ?_
  simp only [e1, e2, e3, e4, e5, w1, w2]
  (repeat' (first | refine ⟨fun h => ?_, fun h => ?_⟩ | fail))
  all_goals (first | (exfalso; simp_all; done) | skip)
  all_goals (refine ⟨?_, rfl, by dsimp only; omega, rfl, rfl, rfl, ?_⟩)
  all_goals first
    | (rw [rnd_step (k := 2) (ms := c.miss) (go := c.good) (v := v) (u := u) hu (a := true) (m := 0) (x := upZ (v.good 2)) (s := rewZ (v.score 2)) (by first | (simp_all [rIn, rMi, rGo, rSc, rndV]; done) | (simp_all [rIn, rMi, rGo, rSc, rndV]; omega) | fail) (by first | (simp_all [rIn, rMi, rGo, rSc, rndV]; done) | (simp_all [rIn, rMi, rGo, rSc, rndV]; omega) | fail) (by first | (simp_all [rIn, rMi, rGo, rSc, rndV]; done) | (simp_all [rIn, rMi, rGo, rSc, rndV]; omega) | fail) (by first | (simp_all [rIn, rMi, rGo, rSc, rndV]; done) | (simp_all [rIn, rMi, rGo, rSc, rndV]; omega) | fail)]; rfl)
    | (rw [rnd_step (k := 2) (ms := c.miss) (go := c.good) (v := v) (u := u) hu (a := true) (m := upZ (v.miss 2)) (x := 0) (s := penZ (v.score 2)) (by first | (simp_all [rIn, rMi, rGo, rSc, rndV]; done) | (simp_all [rIn, rMi, rGo, rSc, rndV]; omega) | fail) (by first | (simp_all [rIn, rMi, rGo, rSc, rndV]; done) | (simp_all [rIn, rMi, rGo, rSc, rndV]; omega) | fail) (by first | (simp_all [rIn, rMi, rGo, rSc, rndV]; done) | (simp_all [rIn, rMi, rGo, rSc, rndV]; omega) | fail) (by first | (simp_all [rIn, rMi, rGo, rSc, rndV]; done) | (simp_all [rIn, rMi, rGo, rSc, rndV]; omega) | fail)]; rfl)
    | (rw [rnd_step (k := 2) (ms := c.miss) (go := c.good) (v := v) (u := u) hu (a := false) (m := 0) (x := upZ (v.good 2)) (s := rewZ (v.score 2)) (by first | (simp_all [rIn, rMi, rGo, rSc, rndV]; done) | (simp_all [rIn, rMi, rGo, rSc, rndV]; omega) | fail) (by first | (simp_all [rIn, rMi, rGo, rSc, rndV]; done) | (simp_all [rIn, rMi, rGo, rSc, rndV]; omega) | fail) (by first | (simp_all [rIn, rMi, rGo, rSc, rndV]; done) | (simp_all [rIn, rMi, rGo, rSc, rndV]; omega) | fail) (by first | (simp_all [rIn, rMi, rGo, rSc, rndV]; done) | (simp_all [rIn, rMi, rGo, rSc, rndV]; omega) | fail)]; rfl)
    | (rw [rnd_step (k := 2) (ms := c.miss) (go := c.good) (v := v) (u := u) hu (a := false) (m := upZ (v.miss 2)) (x := 0) (s := penZ (v.score 2)) (by first | (simp_all [rIn, rMi, rGo, rSc, rndV]; done) | (simp_all [rIn, rMi, rGo, rSc, rndV]; omega) | fail) (by first | (simp_all [rIn, rMi, rGo, rSc, rndV]; done) | (simp_all [rIn, rMi, rGo, rSc, rndV]; omega) | fail) (by first | (simp_all [rIn, rMi, rGo, rSc, rndV]; done) | (simp_all [rIn, rMi, rGo, rSc, rndV]; omega) | fail) (by first | (simp_all [rIn, rMi, rGo, rSc, rndV]; done) | (simp_all [rIn, rMi, rGo, rSc, rndV]; omega) | fail)]; rfl)
    | (rw [rnd_step (k := 2) (ms := c.miss) (go := c.good) (v := v) (u := u) hu (a := v.inn 2) (m := 0) (x := upZ (v.good 2)) (s := rewZ (v.score 2)) (by first | (simp_all [rIn, rMi, rGo, rSc, rndV]; done) | (simp_all [rIn, rMi, rGo, rSc, rndV]; omega) | fail) (by first | (simp_all [rIn, rMi, rGo, rSc, rndV]; done) | (simp_all [rIn, rMi, rGo, rSc, rndV]; omega) | fail) (by first | (simp_all [rIn, rMi, rGo, rSc, rndV]; done) | (simp_all [rIn, rMi, rGo, rSc, rndV]; omega) | fail) (by first | (simp_all [rIn, rMi, rGo, rSc, rndV]; done) | (simp_all [rIn, rMi, rGo, rSc, rndV]; omega) | fail)]; rfl)
    | (rw [rnd_step (k := 2) (ms := c.miss) (go := c.good) (v := v) (u := u) hu (a := v.inn 2) (m := upZ (v.miss 2)) (x := 0) (s := penZ (v.score 2)) (by first | (simp_all [rIn, rMi, rGo, rSc, rndV]; done) | (simp_all [rIn, rMi, rGo, rSc, rndV]; omega) | fail) (by first | (simp_all [rIn, rMi, rGo, rSc, rndV]; done) | (simp_all [rIn, rMi, rGo, rSc, rndV]; omega) | fail) (by first | (simp_all [rIn, rMi, rGo, rSc, rndV]; done) | (simp_all [rIn, rMi, rGo, rSc, rndV]; omega) | fail) (by first | (simp_all [rIn, rMi, rGo, rSc, rndV]; done) | (simp_all [rIn, rMi, rGo, rSc, rndV]; omega) | fail)]; rfl)
    | (simp_all [allT, scP]; done)
    | (simp_all [allT, scP]; omega)
set_option maxRecDepth 100000 in
theorem rd_st3 (c : Cfg) (v w : Vw) (hk : 3 < c.np) (hp : PosV v) : ∃ p r, mrR Tryd.prog c (rndV ⟨3, c.miss, c.good⟩ v) w 3 p = some r ∧ RdNx c v w 3 r := by
  obtain ⟨p1, p2, p3⟩ := hp 3 (by omega)
  obtain ⟨u, hu⟩ : ∃ u, rndV ⟨3, c.miss, c.good⟩ v = u := ⟨_, rfl⟩
  have e1 : u.inn 3 = v.inn 3 := by rw [← hu]; rfl
  have e2 : u.got 3 = v.got 3 := by rw [← hu]; rfl
  have e3 : u.miss 3 = v.miss 3 := by rw [← hu]; rfl
  have e4 : u.good 3 = v.good 3 := by rw [← hu]; rfl
  have e5 : u.score 3 = v.score 3 := by rw [← hu]; rfl
  have w1 := upZ_wrap p1
  have w2 := upZ_wrap p2
  rw [hu]
  refine mr3 c u w _ ?_
  simp only [e1, e2, e3, e4, e5, w1, w2]
  (repeat' (first | refine ⟨fun h => ?_, fun h => ?_⟩ | fail))
  all_goals (first | (exfalso; simp_all; done) | skip)
  all_goals (refine ⟨?_, rfl, by dsimp only; omega, rfl, rfl, rfl, ?_⟩)
  all_goals first
    | (rw [rnd_step (k := 3) (ms := c.miss) (go := c.good) (v := v) (u := u) hu (a := true) (m := 0) (x := upZ (v.good 3)) (s := rewZ (v.score 3)) (by first | (simp_all [rIn, rMi, rGo, rSc, rndV]; done) | (simp_all [rIn, rMi, rGo, rSc, rndV]; omega) | fail) (by first | (simp_all [rIn, rMi, rGo, rSc, rndV]; done) | (simp_all [rIn, rMi, rGo, rSc, rndV]; omega) | fail) (by first | (simp_all [rIn, rMi, rGo, rSc, rndV]; done) | (simp_all [rIn, rMi, rGo, rSc, rndV]; omega) | fail) (by first | (simp_all [rIn, rMi, rGo, rSc, rndV]; done) | (simp_all [rIn, rMi, rGo, rSc, rndV]; omega) | fail)]; rfl)
    | (rw [rnd_step (k := 3) (ms := c.miss) (go := c.good) (v := v) (u := u) hu (a := true) (m := upZ (v.miss 3)) (x := 0) (s := penZ (v.score 3)) (by first | (simp_all [rIn, rMi, rGo, rSc, rndV]; done) | (simp_all [rIn, rMi, rGo, rSc, rndV]; omega) | fail) (by first | (simp_all [rIn, rMi, rGo, rSc, rndV]; done) | (simp_all [rIn, rMi, rGo, rSc, rndV]; omega) | fail) (by first | (simp_all [rIn, rMi, rGo, rSc, rndV]; done) | (simp_all [rIn, rMi, rGo, rSc, rndV]; omega) | fail) (by first | (simp_all [rIn, rMi, rGo, rSc, rndV]; done) | (simp_all [rIn, rMi, rGo, rSc, rndV]; omega) | fail)]; rfl)
    | (rw [rnd_step (k := 3) (ms := c.miss) (go := c.good) (v := v) (u := u) hu (a := false) (m := 0) (x := upZ (v.good 3)) (s := rewZ (v.score 3)) (by first | (simp_all [rIn, rMi, rGo, rSc, rndV]; done) | (simp_all [rIn, rMi, rGo, rSc, rndV]; omega) | fail) (by first | (simp_all [rIn, rMi, rGo, rSc, rndV]; done) | (simp_all [rIn, rMi, rGo, rSc, rndV]; omega) | fail) (by first | (simp_all [rIn, rMi, rGo, rSc, rndV]; done) | (simp_all [rIn, rMi, rGo, rSc, rndV]; omega) | fail) (by first | (simp_all [rIn, rMi, rGo, rSc, rndV]; done) | (simp_all [rIn, rMi, rGo, rSc, rndV]; omega) | fail)]; rfl)
    | (rw [rnd_step (k := 3) (ms := c.miss) (go := c.good) (v := v) (u := u) hu (a := false) (m := upZ (v.miss 3)) (x := 0) (s := penZ (v.score 3)) (by first | (simp_all [rIn, rMi, rGo, rSc, rndV]; done) | (simp_all [rIn, rMi, rGo, rSc, rndV]; omega) | fail) (by first | (simp_all [rIn, rMi, rGo, rSc, rndV]; done) | (simp_all [rIn, rMi, rGo, rSc, rndV]; omega) | fail) (by first | (simp_all [rIn, rMi, rGo, rSc, rndV]; done) | (simp_all [rIn, rMi, rGo, rSc, rndV]; omega) | fail) (by first | (simp_all [rIn, rMi, rGo, rSc, rndV]; done) | (simp_all [rIn, rMi, rGo, rSc, rndV]; omega) | fail)]; rfl)
    | (rw [rnd_step (k := 3) (ms := c.miss) (go := c.good) (v := v) (u := u) hu (a := v.inn 3) (m := 0) (x := upZ (v.good 3)) (s := rewZ (v.score 3)) (by first | (simp_all [rIn, rMi, rGo, rSc, rndV]; done) | (simp_all [rIn, rMi, rGo, rSc, rndV]; omega) | fail) (by first | (simp_all [rIn, rMi, rGo, rSc, rndV]; done) | (simp_all [rIn, rMi, rGo, rSc, rndV]; omega) | fail) (by first | (simp_all [rIn, rMi, rGo, rSc, rndV]; done) | (simp_all [rIn, rMi, rGo, rSc, rndV]; omega) | fail) (by first | (simp_all [rIn, rMi, rGo, rSc, rndV]; done) | (simp_all [rIn, rMi, rGo, rSc, rndV]; omega) | fail)]; rfl)
    | (rw [rnd_step (k := 3) (ms := c.miss) (go := c.good) (v := v) (u := u) hu (a := v.inn 3) (m := upZ (v.miss 3)) (x := 0) (s := penZ (v.score 3)) (by first | (simp_all [rIn, rMi, rGo, rSc, rndV]; done) | (simp_all [rIn, rMi, rGo, rSc, rndV]; omega) | fail) (by first | (simp_all [rIn, rMi, rGo, rSc, rndV]; done) | (simp_all [rIn, rMi, rGo, rSc, rndV]; omega) | fail) (by first | (simp_all [rIn, rMi, rGo, rSc, rndV]; done) | (simp_all [rIn, rMi, rGo, rSc, rndV]; omega) | fail) (by first | (simp_all [rIn, rMi, rGo, rSc, rndV]; done) | (simp_all [rIn, rMi, rGo, rSc, rndV]; omega) | fail)]; rfl)
    | (simp_all [allT, scP]; done)
    | (simp_all [allT, scP]; omega)
set_option maxRecDepth 100000 in
theorem rd_st4 (c : Cfg) (v w : Vw) (hk : 4 < c.np) (hp : PosV v) : ∃ p r, mrR Tryd.prog c (rndV ⟨4, c.miss, c.good⟩ v) w 4 p = some r ∧ RdNx c v w 4 r := by
  obtain ⟨p1, p2, p3⟩ := hp 4 (by omega)
  obtain ⟨u, hu⟩ : ∃ u, rndV ⟨4, c.miss, c.good⟩ v = u := ⟨_, rfl⟩
  have e1 : u.inn 4 = v.inn 4 := by rw [← hu]; rfl
  have e2 : u.got 4 = v.got 4 := by rw [← hu]; rfl
  have e3 : u.miss 4 = v.miss 4 := by rw [← hu]; rfl
  have e4 : u.good 4 = v.good 4 := by rw [← hu]; rfl
  have e5 : u.score 4 = v.score 4 := by rw [← hu]; rfl
  have w1 := upZ_wrap p1
  have w2 := upZ_wrap p2
  rw [hu]
  refine mr4 c u w _ ?_
  simp only [e1, e2, e3, e4, e5, w1, w2]
  (repeat' (first | refine ⟨fun h => ?_, fun h => ?_⟩ | fail))
  all_goals (first | (exfalso; simp_all; done) | skip)
  all_goals (refine ⟨?_, rfl, by dsimp only; omega, rfl, rfl, rfl, ?_⟩)
  all_goals first
    | (rw [rnd_step (k := 4) (ms := c.miss) (go := c.good) (v := v) (u := u) hu (a := true) (m := 0) (x := upZ (v.good 4)) (s := rewZ (v.score 4)) (by first | (simp_all [rIn, rMi, rGo, rSc, rndV]; done) | (simp_all [rIn, rMi, rGo, rSc, rndV]; omega) | fail) (by first | (simp_all [rIn, rMi, rGo, rSc, rndV]; done) | (simp_all [rIn, rMi, rGo, rSc, rndV]; omega) | fail) (by first | (simp_all [rIn, rMi, rGo, rSc, rndV]; done) | (simp_all [rIn, rMi, rGo, rSc, rndV]; omega) | fail) (by first | (simp_all [rIn, rMi, rGo, rSc, rndV]; done) | (simp_all [rIn, rMi, rGo, rSc, rndV]; omega) | fail)]; rfl)
    | (rw [rnd_step (k := 4) (ms := c.miss) (go := c.good) (v := v) (u := u) hu (a := true) (m := upZ (v.miss 4)) (x := 0) (s := penZ (v.score 4)) (by first | (simp_all [rIn, rMi, rGo, rSc, rndV]; done) | (simp_all [rIn, rMi, rGo, rSc, rndV]; omega) | fail) (by first | (simp_all [rIn, rMi, rGo, rSc, rndV]; done) | (simp_all [rIn, rMi, rGo, rSc, rndV]; omega) | fail) (by first | (simp_all [rIn, rMi, rGo, rSc, rndV]; done) | (simp_all [rIn, rMi, rGo, rSc, rndV]; omega) | fail) (by first | (simp_all [rIn, rMi, rGo, rSc, rndV]; done) | (simp_all [rIn, rMi, rGo, rSc, rndV]; omega) | fail)]; rfl)
    | (rw [rnd_step (k := 4) (ms := c.miss) (go := c.good) (v := v) (u := u) hu (a := false) (m := 0) (x := upZ (v.good 4)) (s := rewZ (v.score 4)) (by first | (simp_all [rIn, rMi, rGo, rSc, rndV]; done) | (simp_all [rIn, rMi, rGo, rSc, rndV]; omega) | fail) (by first | (simp_all [rIn, rMi, rGo, rSc, rndV]; done) | (simp_all [rIn, rMi, rGo, rSc, rndV]; omega) | fail) (by first | (simp_all [rIn, rMi, rGo, rSc, rndV]; done) | (simp_all [rIn, rMi, rGo, rSc, rndV]; omega) | fail) (by first | (simp_all [rIn, rMi, rGo, rSc, rndV]; done) | (simp_all [rIn, rMi, rGo, rSc, rndV]; omega) | fail)]; rfl)
    | (rw [rnd_step (k := 4) (ms := c.miss) (go := c.good) (v := v) (u := u) hu (a := false) (m := upZ (v.miss 4)) (x := 0) (s := penZ (v.score 4)) (by first | (simp_all [rIn, rMi, rGo, rSc, rndV]; done) | (simp_all [rIn, rMi, rGo, rSc, rndV]; omega) | fail) (by first | (simp_all [rIn, rMi, rGo, rSc, rndV]; done) | (simp_all [rIn, rMi, rGo, rSc, rndV]; omega) | fail) (by first | (simp_all [rIn, rMi, rGo, rSc, rndV]; done) | (simp_all [rIn, rMi, rGo, rSc, rndV]; omega) | fail) (by first | (simp_all [rIn, rMi, rGo, rSc, rndV]; done) | (simp_all [rIn, rMi, rGo, rSc, rndV]; omega) | fail)]; rfl)
    | (rw [rnd_step (k := 4) (ms := c.miss) (go := c.good) (v := v) (u := u) hu (a := v.inn 4) (m := 0) (x := upZ (v.good 4)) (s := rewZ (v.score 4)) (by first | (simp_all [rIn, rMi, rGo, rSc, rndV]; done) | (simp_all [rIn, rMi, rGo, rSc, rndV]; omega) | fail) (by first | (simp_all [rIn, rMi, rGo, rSc, rndV]; done) | (simp_all [rIn, rMi, rGo, rSc, rndV]; omega) | fail) (by first | (simp_all [rIn, rMi, rGo, rSc, rndV]; done) | (simp_all [rIn, rMi, rGo, rSc, rndV]; omega) | fail) (by first | (simp_all [rIn, rMi, rGo, rSc, rndV]; done) | (simp_all [rIn, rMi, rGo, rSc, rndV]; omega) | fail)]; rfl)
    | (rw [rnd_step (k := 4) (ms := c.miss) (go := c.good) (v := v) (u := u) hu (a := v.inn 4) (m := upZ (v.miss 4)) (x := 0) (s := penZ (v.score 4)) (by first | (simp_all [rIn, rMi, rGo, rSc, rndV]; done) | (simp_all [rIn, rMi, rGo, rSc, rndV]; omega) | fail) (by first | (simp_all [rIn, rMi, rGo, rSc, rndV]; done) | (simp_all [rIn, rMi, rGo, rSc, rndV]; omega) | fail) (by first | (simp_all [rIn, rMi, rGo, rSc, rndV]; done) | (simp_all [rIn, rMi, rGo, rSc, rndV]; omega) | fail) (by first | (simp_all [rIn, rMi, rGo, rSc, rndV]; done) | (simp_all [rIn, rMi, rGo, rSc, rndV]; omega) | fail)]; rfl)
    | (simp_all [allT, scP]; done)
    | (simp_all [allT, scP]; omega)
set_option maxRecDepth 100000 in
theorem rd_st5 (c : Cfg) (v w : Vw) (hk : 5 < c.np) (hp : PosV v) : ∃ p r, mrR Tryd.prog c (rndV ⟨5, c.miss, c.good⟩ v) w 5 p = some r ∧ RdNx c v w 5 r := by
  obtain ⟨p1, p2, p3⟩ := hp 5 (by omega)
  obtain ⟨u, hu⟩ : ∃ u, rndV ⟨5, c.miss, c.good⟩ v = u := ⟨_, rfl⟩
  have e1 : u.inn 5 = v.inn 5 := by rw [← hu]; rfl
  have e2 : u.got 5 = v.got 5 := by rw [← hu]; rfl
  have e3 : u.miss 5 = v.miss 5 := by rw [← hu]; rfl
  have e4 : u.good 5 = v.good 5 := by rw [← hu]; rfl
  have e5 : u.score 5 = v.score 5 := by rw [← hu]; rfl
  have w1 := upZ_wrap p1
  have w2 := upZ_wrap p2
  rw [hu]
  refine mr5 c u w _ ?_
  simp only [e1, e2, e3, e4, e5, w1, w2]
  (repeat' (first | refine ⟨fun h => ?_, fun h => ?_⟩ | fail))
  all_goals (first | (exfalso; simp_all; done) | skip)
  all_goals (refine ⟨?_, rfl, by dsimp only; omega, rfl, rfl, rfl, ?_⟩)
  all_goals first
    | (rw [rnd_step (k := 5) (ms := c.miss) (go := c.good) (v := v) (u := u) hu (a := true) (m := 0) (x := upZ (v.good 5)) (s := rewZ (v.score 5)) (by first | (simp_all [rIn, rMi, rGo, rSc, rndV]; done) | (simp_all [rIn, rMi, rGo, rSc, rndV]; omega) | fail) (by first | (simp_all [rIn, rMi, rGo, rSc, rndV]; done) | (simp_all [rIn, rMi, rGo, rSc, rndV]; omega) | fail) (by first | (simp_all [rIn, rMi, rGo, rSc, rndV]; done) | (simp_all [rIn, rMi, rGo, rSc, rndV]; omega) | fail) (by first | (simp_all [rIn, rMi, rGo, rSc, rndV]; done) | (simp_all [rIn, rMi, rGo, rSc, rndV]; omega) | fail)]; rfl)
    | (rw [rnd_step (k := 5) (ms := c.miss) (go := c.good) (v := v) (u := u) hu (a := true) (m := upZ (v.miss 5)) (x := 0) (s := penZ (v.score 5)) (by first | (simp_all [rIn, rMi, rGo, rSc, rndV]; done) | (simp_all [rIn, rMi, rGo, rSc, rndV]; omega) | fail) (by first | (simp_all [rIn, rMi, rGo, rSc, rndV]; done) | (simp_all [rIn, rMi, rGo, rSc, rndV]; omega) | fail) (by first | (simp_all [rIn, rMi, rGo, rSc, rndV]; done) | (simp_all [rIn, rMi, rGo, rSc, rndV]; omega) | fail) (by first | (simp_all [rIn, rMi, rGo, rSc, rndV]; done) | (simp_all [rIn, rMi, rGo, rSc, rndV]; omega) | fail)]; rfl)
    | (rw [rnd_step (k := 5) (ms := c.miss) (go := c.good) (v := v) (u := u) hu (a := false) (m := 0) (x := upZ (v.good 5)) (s := rewZ (v.score 5)) (by first | (simp_all [rIn, rMi, rGo, rSc, rndV]; done) | (simp_all [rIn, rMi, rGo, rSc, rndV]; omega) | fail) (by first | (simp_all [rIn, rMi, rGo, rSc, rndV]; done) | (simp_all [rIn, rMi, rGo, rSc, rndV]; omega) | fail) (by first | (simp_all [rIn, rMi, rGo, rSc, rndV]; done) | (simp_all [rIn, rMi, rGo, rSc, rndV]; omega) | fail) (by first | (simp_all [rIn, rMi, rGo, rSc, rndV]; done) | (simp_all [rIn, rMi, rGo, rSc, rndV]; omega) | fail)]; rfl)
    | (rw [rnd_step (k := 5) (ms := c.miss) (go := c.good) (v := v) (u := u) hu (a := false) (m := upZ (v.miss 5)) (x := 0) (s := penZ (v.score 5)) (by first | (simp_all [rIn, rMi, rGo, rSc, rndV]; done) | (simp_all [rIn, rMi, rGo, rSc, rndV]; omega) | fail) (by first | (simp_all [rIn, rMi, rGo, rSc, rndV]; done) | (simp_all [rIn, rMi, rGo, rSc, rndV]; omega) | fail) (by first | (simp_all [rIn, rMi, rGo, rSc, rndV]; done) | (simp_all [rIn, rMi, rGo, rSc, rndV]; omega) | fail) (by first | (simp_all [rIn, rMi, rGo, rSc, rndV]; done) | (simp_all [rIn, rMi, rGo, rSc, rndV]; omega) | fail)]; rfl)
    | (rw [rnd_step (k := 5) (ms := c.miss) (go := c.good) (v := v) (u := u) hu (a := v.inn 5) (m := 0) (x := upZ (v.good 5)) (s := rewZ (v.score 5)) (by first | (simp_all [rIn, rMi, rGo, rSc, rndV]; done) | (simp_all [rIn, rMi, rGo, rSc, rndV]; omega) | fail) (by first | (simp_all [rIn, rMi, rGo, rSc, rndV]; done) | (simp_all [rIn, rMi, rGo, rSc, rndV]; omega) | fail) (by first | (simp_all [rIn, rMi, rGo, rSc, rndV]; done) | (simp_all [rIn, rMi, rGo, rSc, rndV]; omega) | fail) (by first | (simp_all [rIn, rMi, rGo, rSc, rndV]; done) | (simp_all [rIn, rMi, rGo, rSc, rndV]; omega) | fail)]; rfl)
    | (rw [rnd_step (k := 5) (ms := c.miss) (go := c.good) (v := v) (u := u) hu (a := v.inn 5) (m := upZ (v.miss 5)) (x := 0) (s := penZ (v.score 5)) (by first | (simp_all [rIn, rMi, rGo, rSc, rndV]; done) | (simp_all [rIn, rMi, rGo, rSc, rndV]; omega) | fail) (by first | (simp_all [rIn, rMi, rGo, rSc, rndV]; done) | (simp_all [rIn, rMi, rGo, rSc, rndV]; omega) | fail) (by first | (simp_all [rIn, rMi, rGo, rSc, rndV]; done) | (simp_all [rIn, rMi, rGo, rSc, rndV]; omega) | fail) (by first | (simp_all [rIn, rMi, rGo, rSc, rndV]; done) | (simp_all [rIn, rMi, rGo, rSc, rndV]; omega) | fail)]; rfl)
    | (simp_all [allT, scP]; done)
    | (simp_all [allT, scP]; omega)
set_option maxRecDepth 100000 in
theorem rd_st6 (c : Cfg) (v w : Vw) (hk : 6 < c.np) (hp : PosV v) : ∃ p r, mrR Tryd.prog c (rndV ⟨6, c.miss, c.good⟩ v) w 6 p = some r ∧ RdNx c v w 6 r := by
  obtain ⟨p1, p2, p3⟩ := hp 6 (by omega)
  obtain ⟨u, hu⟩ : ∃ u, rndV ⟨6, c.miss, c.good⟩ v = u := ⟨_, rfl⟩
  have e1 : u.inn 6 = v.inn 6 := by rw [← hu]; rfl
  have e2 : u.got 6 = v.got 6 := by rw [← hu]; rfl
  have e3 : u.miss 6 = v.miss 6 := by rw [← hu]; rfl
  have e4 : u.good 6 = v.good 6 := by rw [← hu]; rfl
  have e5 : u.score 6 = v.score 6 := by rw [← hu]; rfl
  have w1 := upZ_wrap p1
  have w2 := upZ_wrap p2
  rw [hu]
  refine mr6 c u w _ ?_
  simp only [e1, e2, e3, e4, e5, w1, w2]
  (repeat' (first | refine ⟨fun h => ?_, fun h => ?_⟩ | fail))
  all_goals (first | (exfalso; simp_all; done) | skip)
  all_goals (refine ⟨?_, rfl, by dsimp only; omega, rfl, rfl, rfl, ?_⟩)
  all_goals first
    | (rw [rnd_step (k := 6) (ms := c.miss) (go := c.good) (v := v) (u := u) hu (a := true) (m := 0) (x := upZ (v.good 6)) (s := rewZ (v.score 6)) (by first | (simp_all [rIn, rMi, rGo, rSc, rndV]; done) | (simp_all [rIn, rMi, rGo, rSc, rndV]; omega) | fail) (by first | (simp_all [rIn, rMi, rGo, rSc, rndV]; done) | (simp_all [rIn, rMi, rGo, rSc, rndV]; omega) | fail) (by first | (simp_all [rIn, rMi, rGo, rSc, rndV]; done) | (simp_all [rIn, rMi, rGo, rSc, rndV]; omega) | fail) (by first | (simp_all [rIn, rMi, rGo, rSc, rndV]; done) | (simp_all [rIn, rMi, rGo, rSc, rndV]; omega) | fail)]; rfl)
    | (rw [rnd_step (k := 6) (ms := c.miss) (go := c.good) (v := v) (u := u) hu (a := true) (m := upZ (v.miss 6)) (x := 0) (s := penZ (v.score 6)) (by first | (simp_all [rIn, rMi, rGo, rSc, rndV]; done) | (simp_all [rIn, rMi, rGo, rSc, rndV]; omega) | fail) (by first | (simp_all [rIn, rMi, rGo, rSc, rndV]; done) | (simp_all [rIn, rMi, rGo, rSc, rndV]; omega) | fail) (by first | (simp_all [rIn, rMi, rGo, rSc, rndV]; done) | (simp_all [rIn, rMi, rGo, rSc, rndV]; omega) | fail) (by first | (simp_all [rIn, rMi, rGo, rSc, rndV]; done) | (simp_all [rIn, rMi, rGo, rSc, rndV]; omega) | fail)]; rfl)
    | (rw [rnd_step (k := 6) (ms := c.miss) (go := c.good) (v := v) (u := u) hu (a := false) (m := 0) (x := upZ (v.good 6)) (s := rewZ (v.score 6)) (by first | (simp_all [rIn, rMi, rGo, rSc, rndV]; done) | (simp_all [rIn, rMi, rGo, rSc, rndV]; omega) | fail) (by first | (simp_all [rIn, rMi, rGo, rSc, rndV]; done) | (simp_all [rIn, rMi, rGo, rSc, rndV]; omega) | fail) (by first | (simp_all [rIn, rMi, rGo, rSc, rndV]; done) | (simp_all [rIn, rMi, rGo, rSc, rndV]; omega) | fail) (by first | (simp_all [rIn, rMi, rGo, rSc, rndV]; done) | (simp_all [rIn, rMi, rGo, rSc, rndV]; omega) | fail)]; rfl)
    | (rw [rnd_step (k := 6) (ms := c.miss) (go := c.good) (v := v) (u := u) hu (a := false) (m := upZ (v.miss 6)) (x := 0) (s := penZ (v.score 6)) (by first | (simp_all [rIn, rMi, rGo, rSc, rndV]; done) | (simp_all [rIn, rMi, rGo, rSc, rndV]; omega) | fail) (by first | (simp_all [rIn, rMi, rGo, rSc, rndV]; done) | (simp_all [rIn, rMi, rGo, rSc, rndV]; omega) | fail) (by first | (simp_all [rIn, rMi, rGo, rSc, rndV]; done) | (simp_all [rIn, rMi, rGo, rSc, rndV]; omega) | fail) (by first | (simp_all [rIn, rMi, rGo, rSc, rndV]; done) | (simp_all [rIn, rMi, rGo, rSc, rndV]; omega) | fail)]; rfl)
    | (rw [rnd_step (k := 6) (ms := c.miss) (go := c.good) (v := v) (u := u) hu (a := v.inn 6) (m := 0) (x := upZ (v.good 6)) (s := rewZ (v.score 6)) (by first | (simp_all [rIn, rMi, rGo, rSc, rndV]; done) | (simp_all [rIn, rMi, rGo, rSc, rndV]; omega) | fail) (by first | (simp_all [rIn, rMi, rGo, rSc, rndV]; done) | (simp_all [rIn, rMi, rGo, rSc, rndV]; omega) | fail) (by first | (simp_all [rIn, rMi, rGo, rSc, rndV]; done) | (simp_all [rIn, rMi, rGo, rSc, rndV]; omega) | fail) (by first | (simp_all [rIn, rMi, rGo, rSc, rndV]; done) | (simp_all [rIn, rMi, rGo, rSc, rndV]; omega) | fail)]; rfl)
    | (rw [rnd_step (k := 6) (ms := c.miss) (go := c.good) (v := v) (u := u) hu (a := v.inn 6) (m := upZ (v.miss 6)) (x := 0) (s := penZ (v.score 6)) (by first | (simp_all [rIn, rMi, rGo, rSc, rndV]; done) | (simp_all [rIn, rMi, rGo, rSc, rndV]; omega) | fail) (by first | (simp_all [rIn, rMi, rGo, rSc, rndV]; done) | (simp_all [rIn, rMi, rGo, rSc, rndV]; omega) | fail) (by first | (simp_all [rIn, rMi, rGo, rSc, rndV]; done) | (simp_all [rIn, rMi, rGo, rSc, rndV]; omega) | fail) (by first | (simp_all [rIn, rMi, rGo, rSc, rndV]; done) | (simp_all [rIn, rMi, rGo, rSc, rndV]; omega) | fail)]; rfl)
    | (simp_all [allT, scP]; done)
    | (simp_all [allT, scP]; omega)
set_option maxRecDepth 100000 in
theorem rd_st7 (c : Cfg) (v w : Vw) (hk : 7 < c.np) (hp : PosV v) : ∃ p r, mrR Tryd.prog c (rndV ⟨7, c.miss, c.good⟩ v) w 7 p = some r ∧ RdNx c v w 7 r := by
  obtain ⟨p1, p2, p3⟩ := hp 7 (by omega)
  obtain ⟨u, hu⟩ : ∃ u, rndV ⟨7, c.miss, c.good⟩ v = u := ⟨_, rfl⟩
  have e1 : u.inn 7 = v.inn 7 := by rw [← hu]; rfl
  have e2 : u.got 7 = v.got 7 := by rw [← hu]; rfl
  have e3 : u.miss 7 = v.miss 7 := by rw [← hu]; rfl
  have e4 : u.good 7 = v.good 7 := by rw [← hu]; rfl
  have e5 : u.score 7 = v.score 7 := by rw [← hu]; rfl
  have w1 := upZ_wrap p1
  have w2 := upZ_wrap p2
  rw [hu]
  refine mr7 c u w _ ?_
  simp only [e1, e2, e3, e4, e5, w1, w2]
  (repeat' (first | refine ⟨fun h => ?_, fun h => ?_⟩ | fail))
  all_goals (first | (exfalso; simp_all; done) | skip)
  all_goals (refine ⟨?_, rfl, by dsimp only; omega, rfl, rfl, rfl, ?_⟩)
  all_goals first
    | (rw [rnd_step (k := 7) (ms := c.miss) (go := c.good) (v := v) (u := u) hu (a := true) (m := 0) (x := upZ (v.good 7)) (s := rewZ (v.score 7)) (by first | (simp_all [rIn, rMi, rGo, rSc, rndV]; done) | (simp_all [rIn, rMi, rGo, rSc, rndV]; omega) | fail) (by first | (simp_all [rIn, rMi, rGo, rSc, rndV]; done) | (simp_all [rIn, rMi, rGo, rSc, rndV]; omega) | fail) (by first | (simp_all [rIn, rMi, rGo, rSc, rndV]; done) | (simp_all [rIn, rMi, rGo, rSc, rndV]; omega) | fail) (by first | (simp_all [rIn, rMi, rGo, rSc, rndV]; done) | (simp_all [rIn, rMi, rGo, rSc, rndV]; omega) | fail)]; rfl)
    | (rw [rnd_step (k := 7) (ms := c.miss) (go := c.good) (v := v) (u := u) hu (a := true) (m := upZ (v.miss 7)) (x := 0) (s := penZ (v.score 7)) (by first | (simp_all [rIn, rMi, rGo, rSc, rndV]; done) | (simp_all [rIn, rMi, rGo, rSc, rndV]; omega) | fail) (by first | (simp_all [rIn, rMi, rGo, rSc, rndV]; done) | (simp_all [rIn, rMi, rGo, rSc, rndV]; omega) | fail) (by first | (simp_all [rIn, rMi, rGo, rSc, rndV]; done) | (simp_all [rIn, rMi, rGo, rSc, rndV]; omega) | fail) (by first | (simp_all [rIn, rMi, rGo, rSc, rndV]; done) | (simp_all [rIn, rMi, rGo, rSc, rndV]; omega) | fail)]; rfl)
    | (rw [rnd_step (k := 7) (ms := c.miss) (go := c.good) (v := v) (u := u) hu (a := false) (m := 0) (x := upZ (v.good 7)) (s := rewZ (v.score 7)) (by first | (simp_all [rIn, rMi, rGo, rSc, rndV]; done) | (simp_all [rIn, rMi, rGo, rSc, rndV]; omega) | fail) (by first | (simp_all [rIn, rMi, rGo, rSc, rndV]; done) | (simp_all [rIn, rMi, rGo, rSc, rndV]; omega) | fail) (by first | (simp_all [rIn, rMi, rGo, rSc, rndV]; done) | (simp_all [rIn, rMi, rGo, rSc, rndV]; omega) | fail) (by first | (simp_all [rIn, rMi, rGo, rSc, rndV]; done) | (simp_all [rIn, rMi, rGo, rSc, rndV]; omega) | fail)]; rfl)
    | (rw [rnd_step (k := 7) (ms := c.miss) (go := c.good) (v := v) (u := u) hu (a := false) (m := upZ (v.miss 7)) (x := 0) (s := penZ (v.score 7)) (by first | (simp_all [rIn, rMi, rGo, rSc, rndV]; done) | (simp_all [rIn, rMi, rGo, rSc, rndV]; omega) | fail) (by first | (simp_all [rIn, rMi, rGo, rSc, rndV]; done) | (simp_all [rIn, rMi, rGo, rSc, rndV]; omega) | fail) (by first | (simp_all [rIn, rMi, rGo, rSc, rndV]; done) | (simp_all [rIn, rMi, rGo, rSc, rndV]; omega) | fail) (by first | (simp_all [rIn, rMi, rGo, rSc, rndV]; done) | (simp_all [rIn, rMi, rGo, rSc, rndV]; omega) | fail)]; rfl)
    | (rw [rnd_step (k := 7) (ms := c.miss) (go := c.good) (v := v) (u := u) hu (a := v.inn 7) (m := 0) (x := upZ (v.good 7)) (s := rewZ (v.score 7)) (by first | (simp_all [rIn, rMi, rGo, rSc, rndV]; done) | (simp_all [rIn, rMi, rGo, rSc, rndV]; omega) | fail) (by first | (simp_all [rIn, rMi, rGo, rSc, rndV]; done) | (simp_all [rIn, rMi, rGo, rSc, rndV]; omega) | fail) (by first | (simp_all [rIn, rMi, rGo, rSc, rndV]; done) | (simp_all [rIn, rMi, rGo, rSc, rndV]; omega) | fail) (by first | (simp_all [rIn, rMi, rGo, rSc, rndV]; done) | (simp_all [rIn, rMi, rGo, rSc, rndV]; omega) | fail)]; rfl)
    | (rw [rnd_step (k := 7) (ms := c.miss) (go := c.good) (v := v) (u := u) hu (a := v.inn 7) (m := upZ (v.miss 7)) (x := 0) (s := penZ (v.score 7)) (by first | (simp_all [rIn, rMi, rGo, rSc, rndV]; done) | (simp_all [rIn, rMi, rGo, rSc, rndV]; omega) | fail) (by first | (simp_all [rIn, rMi, rGo, rSc, rndV]; done) | (simp_all [rIn, rMi, rGo, rSc, rndV]; omega) | fail) (by first | (simp_all [rIn, rMi, rGo, rSc, rndV]; done) | (simp_all [rIn, rMi, rGo, rSc, rndV]; omega) | fail) (by first | (simp_all [rIn, rMi, rGo, rSc, rndV]; done) | (simp_all [rIn, rMi, rGo, rSc, rndV]; omega) | fail)]; rfl)
    | (simp_all [allT, scP]; done)
    | (simp_all [allT, scP]; omega)
end Go.Proofs.YthekiiagacnhkaaDoor
end
/- members.Round: its contract. -/
section
namespace Go.Proofs.YthekiiagacnhkaaDoor
open Go.RowKit

theorem rdC_low {c : Cfg} {n : Nat} (hn : 1120 ≤ n) : lowB n (rdC c) := by
  have hc : ∀ i, i < 1120 → Nat.blt i n = true := fun i h => by rw [Nat.blt_eq]; omega
  exact low_lit (by simp [lowC, hc])
theorem rd_step (c : Cfg) (v w : Vw) (h8 : c.np ≤ 8) (hp : PosV v) (k : Nat) (hk : k < c.np) : ∃ p r, mrR Tryd.prog c (rndV ⟨k, c.miss, c.good⟩ v) w k p = some r ∧ RdNx c v w k r := by
  have : k < 8 := by omega
  match k, this with
  | 0, _ => exact rd_st0 c v w hk hp
  | 1, _ => exact rd_st1 c v w hk hp
  | 2, _ => exact rd_st2 c v w hk hp
  | 3, _ => exact rd_st3 c v w hk hp
  | 4, _ => exact rd_st4 c v w hk hp
  | 5, _ => exact rd_st5 c v w hk hp
  | 6, _ => exact rd_st6 c v w hk hp
  | 7, _ => exact rd_st7 c v w hk hp
theorem rnd_zero (ms go : Int) (v : Vw) : rndV ⟨0, ms, go⟩ v = v := by
  cases v
  simp [rndV, rIn, rMi, rGo, rSc, rGt]
theorem mr_sum (c : Cfg) (v w : Vw) (h8 : c.np ≤ 8) (hp : PosV v) :
    LoopV Tryd.prog (loopAt Tryd.prog 23 0) rdH rdI ((mrV c 0).map some) [some (vwB v), some (vwB w), some (rdC c)] 99 1134 (mkFr 99 [(3, .c (.ptr 1000 0 0)), (4, .c (.ptr 1001 0 0))]) [(1000, vwB (rndV ⟨c.np, c.miss, c.good⟩ v)), (1001, vwB w)] 100000000000000000000000000000000000000000000000000 (.exit 0) none := by
  have hz := rnd_zero c.miss c.good v
  refine loop_viewE hENrd (fuel := 100) (str := 10000000000000000000000000000000000000000) (nh := 1000000000000000000000000000000000000000000) (S := Nat) (fun k => k ≤ c.np) (fun k => c.np - k) rdH [] rdI (mrV c) (fun k => [vwB (rndV ⟨k, c.miss, c.good⟩ v), vwB w, rdC c]) (by decide) (by decide) (by unfold lim; omega) (s0 := 0) (Nat.zero_le _) (fun _ => ⟨rfl, rfl⟩) (by kernel_rfl) (by rw [hz]; exact BL.refl [vwB v, vwB w, rdC c]) (fun k _ => ⟨rfl, ?_⟩) ?_
  · intro b hb
    simp only [List.mem_cons, List.not_mem_nil, or_false] at hb
    rcases hb with rfl | rfl | rfl
    · exact vwB_low
    · exact vwB_low
    · exact rdC_low (by omega)
  intro k hk
  rcases Nat.lt_or_ge k c.np with hlt | hge
  · obtain ⟨p, r, h1, a1, a2, a3, a4, a5, a6, a7⟩ := rd_step c v w h8 hp k hlt
    exact ⟨p, [], r, h1, a1, a2, a3, a4, .inl ⟨a5, k + 1, hlt, by show c.np - (k + 1) < c.np - k; omega, by rw [a6]; rfl, by rw [a7]; exact BL.refl [vwB (rndV ⟨k + 1, c.miss, c.good⟩ v), vwB w, rdC c]⟩⟩
  · obtain rfl : k = c.np := by omega
    refine (?_ : (∃ p r, mrR Tryd.prog c (rndV ⟨c.np, c.miss, c.good⟩ v) w c.np p = some r ∧ _) → _) (rdE c (rndV ⟨c.np, c.miss, c.good⟩ v) w c.np (StepV 1134 100000000000000000000000000000000000000000000000000 99 rdH [] rdI (fun k => k ≤ c.np) (fun k => c.np - k) (mrV c) (fun k => [vwB (rndV ⟨k, c.miss, c.good⟩ v), vwB w, rdC c]) (.exit 0) [(3, .c (.ptr 1000 0 0)), (4, .c (.ptr 1001 0 0))] [(1000, vwB (rndV ⟨c.np, c.miss, c.good⟩ v)), (1001, vwB w)] c.np) ?_)
    · rintro ⟨p, r, h1, h2⟩
      exact ⟨p, [], r, h1, h2⟩
    · refine ⟨by simp [allT], rfl, by dsimp only; omega, rfl, .inr ⟨by simp, rfl, fun q hq => ?_, fun p hpp => ?_⟩⟩
      · simp only [List.mem_cons, List.not_mem_nil, or_false] at hq
        rcases hq with rfl | rfl
        · exact ⟨rfl, by simp [lkA]⟩
        · exact ⟨rfl, by simp [lkA]⟩
      · simp only [List.mem_cons, List.not_mem_nil, or_false] at hpp
        rcases hpp with rfl | rfl
        · exact ⟨by kernel_rfl, vwB_low, _, List.mem_cons_self .., BEq.refl _⟩
        · exact ⟨by kernel_rfl, vwB_low, _, List.mem_cons_of_mem _ (List.mem_cons_self ..), BEq.refl _⟩
/-- are a view's numbers none below 0? -/
def posL (l : List AC) : Bool := (List.range 8).all fun i => decide (0 ≤ asI (l.getD (8 + i) nov)) && (decide (0 ≤ asI (l.getD (16 + i) nov)) && decide (0 ≤ asI (l.getD (24 + i) nov)))
theorem posL_iff (v : Vw) : posL (vwL v) = true ↔ PosV v := by
  have e : ∀ i, i < 8 → asI ((vwL v).getD (8 + i) nov) = v.miss i ∧ asI ((vwL v).getD (16 + i) nov) = v.good i ∧ asI ((vwL v).getD (24 + i) nov) = v.score i := fun i hi => by
    have a2 := (vw_miss v i hi).1
    have a3 := (vw_good v i hi).1
    have a4 := (vw_score v i hi).1
    simp only [Nat.mul_one, Int.ofNat_eq_natCast, Int.toNat_natCast] at a2 a3 a4
    exact ⟨a2, a3, a4⟩
  unfold posL
  rw [List.all_eq_true]
  constructor
  · intro h i hi
    have h := h i (List.mem_range.2 hi)
    obtain ⟨e1, e2, e3⟩ := e i hi
    rw [e1, e2, e3] at h
    simp only [Bool.and_eq_true, decide_eq_true_eq] at h
    exact h
  · intro h i hi
    have hi := List.mem_range.1 hi
    obtain ⟨e1, e2, e3⟩ := e i hi
    rw [e1, e2, e3]
    simp only [Bool.and_eq_true, decide_eq_true_eq]
    exact h i hi
def mrndR (c : Cfg) (_ : Nat) (_ : Nat → Int) (l : List AC) : List AV → AV
  | [] => .agg (rndL ⟨c.np, c.miss, c.good⟩ l)
  | _ => i64 0
/-- a net that can be given anew -/
def gvPre (c : Cfg) (nq : Nat) : Bool := decide (0 < nq) && (decide (1 ≤ c.np ∧ 1 ≤ c.ns ∧ 1 ≤ c.nb) && (decide (c.np ≤ 1000) && (decide (c.ns ≤ 1000) && (decide (c.nb ≤ 1000) && decide (c.nt ≤ 1000)))))
def rndP (c : Cfg) (nq : Nat) (l : List AC) : List AV → Bool
  | [] => decide (c.np ≤ 8) && (gvPre c nq && posL l)
  | _ => false
def pX (pre : Cfg → Nat → List AC → List AV → Bool) : NetS → Bool
  | ⟨c, nq, _, .agg l :: r⟩ => isVw l && pre c nq l r
  | _ => false
theorem ctVwX_of {G : AMem} (hG : (G.all fun p => Nat.ble lim p.1) = true) {E : Env} (hE : EnvOk E) {f : FuncId} {R : Cfg → Nat → (Nat → Int) → List AC → List AV → AV} {pre : Cfg → Nat → List AC → List AV → Bool} (hf : ∃ (fn : Func) (c : Code), E.P.funcs[f]? = some fn ∧ fn.body = some c) (hres : ∀ c nq fq v r, plainR (R c nq fq v r) = true)
    (run : ∀ c nq fq v r, pre c nq (vwL v) r = true → ∃ p lp q, viewF [] (fCallF E (fC E 300) f (.c (.ptr 5 0 0) :: .agg (vwL v) :: r) 1000 10000000000000000000000000000000000000000 (stA (G ++ netL c nq fq) p lp)) = some q ∧ GoodF (R c nq fq (vwL v) r) q) : CtOk E.P f (ctRd (netRdG G hG) (rV R) (pX pre)) := by
  refine ctRd_ofE hE (netRdG G hG) (fuel := 300) (str := 10000000000000000000000000000000000000000) hf (rV_plain hres) fun s hs => ?_
  unfold pX at hs
  split at hs
  · rename_i c nq fq l r
    rw [Bool.and_eq_true] at hs
    have e := vw_eq hs.1
    rw [e]
    rw [e] at hs
    exact run c nq fq (vwOf l) r hs.2
  · cases hs
def ctRnd : CtF := ctRd netRd (rV mrndR) (pX rndP)
set_option maxRecDepth 100000 in
theorem ct_rnd : CtOk Tryd.prog 23 ctRnd := by
  refine ctVwX_of (G := mS) (by kernel_rfl) (E := ENrd Tryd.prog) hENrd ⟨_, _, Tryd.func23, rfl⟩ (fun c nq fq v r => by unfold mrndR; split <;> rfl) fun c nq fq v r hr => ?_
  unfold rndP at hr
  split at hr
  · simp only [gvPre, Bool.and_eq_true, decide_eq_true_eq] at hr
    obtain ⟨h8, ⟨hq, g1, g2, g3, g4, g5⟩, hp⟩ := hr
    have hp := (posL_iff v).1 hp
    refine (?_ : (∃ p q, vwE (ENrd Tryd.prog) 23 c nq fq v [] p [none, some (rdS (rndV ⟨c.np, c.miss, c.good⟩ v))] = some q ∧ GoodF (.agg (rndL ⟨c.np, c.miss, c.good⟩ (vwL v))) q) → _) (mbRdD c nq fq v (rndV ⟨c.np, c.miss, c.good⟩ v) _ ?_)
    · rintro ⟨p, q, h1, h2⟩
      exact ⟨p, _, q, h1, h2⟩
    · have hs := mr_sum c v vw0 h8 hp
      refine ⟨by rw [rndL_eq]; rfl, (by first | (unfold lim; omega) | (dsimp only; unfold lim; omega)), ?_, fun q hq => ?_⟩
      · simp [allT, cfgK_t, netK_t, intsOk_ints, stsOk_sts, intsOk_s, stsOk_s, isVw_cells, slC, slRow, inb_arr, inb_lit, Vw.len, hq]
        omega
      · rw [List.mem_singleton.1 hq]
        simp only [Nat.zero_add, Option.getD_some, Int.ofNat_eq_natCast, Int.sub_zero, Int.toNat_natCast] at hs ⊢
        exact hs
  · cases hr
end Go.Proofs.YthekiiagacnhkaaDoor
end
/- MembersRun: the states of its loops: plain facts. No Go text is in sight. -/
section
namespace Go.Proofs.YthekiiagacnhkaaDoor
open Go.RowKit

/-- a view behind the hearing of the pairs below 'k' of which a bit is set -/
def hearV (t b : Nat → Bool) (k : Nat) (v : Vw) : Vw := { v with got := fun i => (decide (i < k) && (b i && t i)) || v.got i }
theorem hearV_zero (t b : Nat → Bool) (v : Vw) : hearV t b 0 v = v := by
  cases v
  simp [hearV]
theorem hearV_yes {t b : Nat → Bool} {k : Nat} {v : Vw} (h : b k = true) : hrdV (t k) (Int.ofNat k) (hearV t b k v) = hearV t b (k + 1) v := by
  unfold hrdV hearV hGt
  simp only [Vw.mk.injEq, true_and, and_true]
  funext i
  by_cases e : i = k
  · subst e
    simp [h]
  · have e2 : ¬ (k : Int) = (i : Int) := by omega
    have e3 : (i < k + 1) = (i < k) := by apply propext; omega
    simp [e2, e3]
theorem hearV_no {t b : Nat → Bool} {k : Nat} {v : Vw} (h : b k = false) : hearV t b k v = hearV t b (k + 1) v := by
  unfold hearV
  simp only [Vw.mk.injEq, true_and, and_true]
  funext i
  by_cases e : i = k
  · subst e
    simp [h]
  · have e3 : (i < k + 1) = (i < k) := by apply propext; omega
    simp [e3]
/-- counts behind a round -/
def cntG (b : Nat → Bool) (k : Nat) (G : Nat → Int) : Nat → Int := fun i => if i < k then (if b i = true then G i + 1 else 0) else G i
def cntM (b : Nat → Bool) (k : Nat) (M : Nat → Int) : Nat → Int := fun i => if i < k then (if b i = true then 0 else M i + 1) else M i
theorem cntG_zero (b : Nat → Bool) (G : Nat → Int) : cntG b 0 G = G := by funext i; simp [cntG]
theorem cntM_zero (b : Nat → Bool) (M : Nat → Int) : cntM b 0 M = M := by funext i; simp [cntM]
structure MrS where
  v : Vw
  G : Nat → Int
  M : Nat → Int
/-- a round: heard, its end, counted -/
def mrStep (t : Nat → Bool) (g : RndG) (b : Nat → Bool) (s : MrS) : MrS := ⟨rndV g (hearV t b 8 s.v), cntG b g.np s.G, cntM b g.np s.M⟩
def mrO (t : Nat → Bool) (g : RndG) (b : Nat → Nat → Bool) (s : MrS) : Nat → MrS
  | 0 => s
  | i + 1 => mrStep t g (b i) (mrO t g b s i)
structure MrI (t : Nat → Bool) (np : Nat) (K : Int) (s : MrS) : Prop where
  may : ∀ p, p < 8 → mayP t s.v p = true
  got : ∀ p, p < 8 → s.v.got p = false
  pos : ∀ p, p < 8 → 0 ≤ s.v.miss p ∧ 0 ≤ s.v.good p ∧ 0 ≤ s.v.score p
  cg : ∀ p, p < np → min (s.G p) 100 = s.v.good p ∧ 0 ≤ s.G p ∧ s.G p ≤ K
  cm : ∀ p, p < np → min (s.M p) 100 = s.v.miss p ∧ 0 ≤ s.M p ∧ s.M p ≤ K
theorem mayP_iff (t : Nat → Bool) (v : Vw) (p : Nat) : mayP t v p = true ↔ (t p = true ∨ (v.inn p = false ∧ v.got p = false ∧ v.miss p = 0 ∧ v.good p = 0 ∧ v.score p = 0)) ∧ v.miss p ≤ 100 ∧ v.good p ≤ 100 ∧ v.score p ≤ 1000 := by
  unfold mayP mOne
  simp only [Bool.and_eq_true, Bool.or_eq_true, decide_eq_true_eq, Bool.not_eq_true']
theorem mr_step {t : Nat → Bool} {g : RndG} (h8 : g.np ≤ 8) (ht : ∀ p, p < 8 → (t p = true ↔ p < g.np)) {b : Nat → Bool} {K : Int} (hK : 0 ≤ K) {s : MrS} (h : MrI t g.np K s) : MrI t g.np (K + 1) (mrStep t g b s) := by
  obtain ⟨h1, h2, h3, h4, h5⟩ := h
  have e1 : ∀ p, (mrStep t g b s).v.miss p = rMi g p ((decide (p < 8) && (b p && t p)) || s.v.got p) (s.v.miss p) := fun _ => rfl
  have e2 : ∀ p, (mrStep t g b s).v.good p = rGo g p ((decide (p < 8) && (b p && t p)) || s.v.got p) (s.v.good p) := fun _ => rfl
  have e3 : ∀ p, (mrStep t g b s).v.score p = rSc g p ((decide (p < 8) && (b p && t p)) || s.v.got p) (s.v.score p) := fun _ => rfl
  have e4 : ∀ p, (mrStep t g b s).v.got p = rGt g p ((decide (p < 8) && (b p && t p)) || s.v.got p) := fun _ => rfl
  have e5 : ∀ p, (mrStep t g b s).v.inn p = rIn g p (s.v.inn p) ((decide (p < 8) && (b p && t p)) || s.v.got p) (s.v.miss p) (s.v.good p) := fun _ => rfl
  have hb : ∀ p, p < g.np → ((decide (p < 8) && (b p && t p)) || s.v.got p) = b p := fun p hp => by
    rw [h2 p (by omega), (ht p (by omega)).2 hp, decide_eq_true (show p < 8 by omega)]
    simp
  have hn : ∀ p, p < 8 → ¬ p < g.np → ((decide (p < 8) && (b p && t p)) || s.v.got p) = false := fun p hp hq => by
    have : t p = false := by
      cases hx : t p with
      | false => rfl
      | true => exact absurd ((ht p hp).1 hx) hq
    rw [h2 p hp, this]
    simp
  have up : ∀ x : Int, 0 ≤ x → 0 ≤ upZ x ∧ upZ x ≤ 100 := fun x hx => by unfold upZ; omega
  have pe : ∀ x : Int, 0 ≤ x → 0 ≤ penZ x ∧ penZ x ≤ 1000 := fun x hx => by unfold penZ; omega
  have re : ∀ x : Int, 0 ≤ x → 0 ≤ rewZ x ∧ rewZ x ≤ 1000 := fun x hx => by unfold rewZ; omega
  refine ⟨fun p hp => ?_, fun p hp => ?_, fun p hp => ?_, fun p hp => ?_, fun p hp => ?_⟩
  · have hm := (mayP_iff t s.v p).1 (h1 p hp)
    obtain ⟨p1, p2, p3⟩ := h3 p hp
    rw [mayP_iff, e1, e2, e3, e4, e5]
    by_cases hq : p < g.np
    · refine ⟨.inl ((ht p hp).2 hq), ?_, ?_, ?_⟩
      · unfold rMi; rw [if_pos hq]; split
        · omega
        · exact (up _ p1).2
      · unfold rGo; rw [if_pos hq]; split
        · exact (up _ p2).2
        · omega
      · unfold rSc; rw [if_pos hq]; split
        · exact (re _ p3).2
        · exact (pe _ p3).2
    · have hf : t p = false := by
        cases hx : t p with
        | false => rfl
        | true => exact absurd ((ht p hp).1 hx) hq
      rw [hn p hp hq]
      unfold rMi rGo rSc rGt rIn
      simp only [if_neg hq]
      rw [h2 p hp] at hm
      simpa using hm
  · rw [e4]
    by_cases hq : p < g.np
    · unfold rGt; rw [if_pos hq]
    · rw [hn p hp hq]; unfold rGt; rw [if_neg hq]
  · obtain ⟨p1, p2, p3⟩ := h3 p hp
    rw [e1, e2, e3]
    refine ⟨?_, ?_, ?_⟩
    · unfold rMi; (repeat' split) <;> first | omega | exact (up _ p1).1
    · unfold rGo; (repeat' split) <;> first | omega | exact (up _ p2).1
    · unfold rSc; (repeat' split) <;> first | omega | exact (re _ p3).1 | exact (pe _ p3).1
  · obtain ⟨q1, q2, q3⟩ := h4 p hp
    have eG : (mrStep t g b s).G p = if b p = true then s.G p + 1 else 0 := by
      show cntG b g.np s.G p = _
      unfold cntG; rw [if_pos hp]
    rw [e2, eG, hb p hp]
    unfold rGo
    rw [if_pos hp]
    split
    · unfold upZ; omega
    · omega
  · obtain ⟨q1, q2, q3⟩ := h5 p hp
    have eM : (mrStep t g b s).M p = if b p = true then 0 else s.M p + 1 := by
      show cntM b g.np s.M p = _
      unfold cntM; rw [if_pos hp]
    rw [e1, eM, hb p hp]
    unfold rMi
    rw [if_pos hp]
    split
    · omega
    · unfold upZ; omega
theorem mr_outI {t : Nat → Bool} {g : RndG} (h8 : g.np ≤ 8) (ht : ∀ p, p < 8 → (t p = true ↔ p < g.np)) {b : Nat → Nat → Bool} {s : MrS} (h : MrI t g.np 100 s) : ∀ i : Nat, MrI t g.np (100 + i) (mrO t g b s i)
  | 0 => by rw [show (100 : Int) + ((0 : Nat) : Int) = 100 by omega]; exact h
  | i + 1 => by
    have := mr_step (b := b i) h8 ht (by omega) (mr_outI h8 ht (b := b) h i)
    rw [show (100 : Int) + ((i + 1 : Nat) : Int) = 100 + i + 1 by omega]
    exact this
end Go.Proofs.YthekiiagacnhkaaDoor
end
