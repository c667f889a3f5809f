/- Parts, one behind the other. members.Round: its loop's rounds as the evaluator runs them, pair by pair. Printed by wip/gen_rd.py. -/
import Derived.Test.YtpgaplcdbbnblaaGreatDoorJCrewsVoid21
import Derived.Test.YtpgaplcdbbnblaaGreatDoorJCrewsVoid15
import Derived.Test.YtpgaplcdbbnblaaGreatDoorJCrewsVoid17
set_option linter.unusedSimpArgs false
set_option linter.unusedVariables false
/- members.Round: its loop's rounds as the evaluator runs them, pair by pair. Printed by wip/gen_rd.py. -/
section
namespace Go.Proofs.YtpgaplcdbbnblaaGreatDoor
open Go.RowKit

theorem mr4 (c : Cfg) (u v : Vw) (Q : VC → Prop) (H : let zz0 := (ABlk.mk true false 25 0 (Cs.lit [AC.v (Value.int IntKind.i64 (Cfg.nodes c)), AC.sl 1043 0 0 (Cfg.np c) (some (Cfg.np c)), AC.sl 1070 0 0 (Cfg.ns c) (some (Cfg.ns c)), AC.v (Value.int IntKind.i64 (Cfg.long c)), AC.sl 1097 0 0 (Cfg.nb c) (some (Cfg.nb c)), AC.sl 1114 0 0 (Cfg.nt c) (some (Cfg.nt c)), AC.v (Value.int IntKind.i64 (Cfg.miss c)), AC.v (Value.int IntKind.i64 (Cfg.good c)), AC.v (Value.int IntKind.i64 (Cfg.fresh c))])); let zz1 := [some (lkA (List.zip rdH (mrV c 4)) 3), some (lkA (List.zip rdH (mrV c 4)) 4), some (lkA (List.zip rdH (mrV c 4)) 5), some (lkA (List.zip rdH (mrV c 4)) 11), some (AV.c (AC.v (Value.int IntKind.i64 (Int.ofNat 5))))]; let zz2 := [AV.c (AC.v (Value.int IntKind.u16 (Vw.score u 4)))]; let zz3 := [some (ABlk.mk true false 32 0 (Cs.lit (vwL (updV 4 (Vw.inn u 4) (Int.ofNat 0) (upZ (Vw.good u 4)) (rewZ (Vw.score u 4)) false u)))), some (ABlk.mk true false 32 0 (Cs.lit (vwL v))), some zz0]; let zz4 := [some (ABlk.mk true false 32 0 (Cs.lit (vwL (updV 4 (Vw.inn u 4) (upZ (Vw.miss u 4)) (Int.ofNat 0) (penZ (Vw.score u 4)) false u)))), some (ABlk.mk true false 32 0 (Cs.lit (vwL v))), some zz0]; let zz5 := (IntKind.wrap IntKind.i64 (upZ (Vw.good u 4)) ≥ Cfg.good c); let zz6 := (IntKind.wrap IntKind.i64 (upZ (Vw.miss u 4)) ≥ Cfg.miss c); let zz7 := [AV.c (AC.v (Value.int IntKind.u8 (Vw.good u 4)))]; let zz8 := [AV.c (AC.v (Value.int IntKind.u8 (Vw.miss u 4)))]; let zz9 := [some (ABlk.mk true false 32 0 (Cs.lit (vwL (updV 4 true (Int.ofNat 0) (upZ (Vw.good u 4)) (rewZ (Vw.score u 4)) false u)))), some (ABlk.mk true false 32 0 (Cs.lit (vwL v))), some zz0]; let zz10 := [some (ABlk.mk true false 32 0 (Cs.lit (vwL (updV 4 true (upZ (Vw.miss u 4)) (Int.ofNat 0) (penZ (Vw.score u 4)) false u)))), some (ABlk.mk true false 32 0 (Cs.lit (vwL v))), some zz0]; let zq0 : List Bool := true :: true :: true :: (decide (Int.ofNat 4 < Int.ofNat (c.np)) == true) :: []; let zq1 : List Bool := true :: true :: true :: true :: true :: true :: true :: true :: true :: true :: (scP .u16 zz2) :: true :: true :: true :: true :: (scP .u8 zz7) :: true :: true :: true :: (Vw.got u 4 == true) :: zq0; let zq2 : List Bool := true :: true :: true :: true :: true :: (Vw.inn u 4 == true) :: zq1; let zq3 : List Bool := true :: true :: true :: (decide (Int.ofNat 0 ≥ c.miss) == false) :: zq2; let zq4 : List Bool := true :: true :: true :: true :: true :: ((!Vw.inn u 4) == true) :: zq3; let zq5 : List Bool := true :: true :: true :: (Vw.inn u 4 == false) :: zq1; let zq6 : List Bool := true :: true :: true :: true :: true :: ((!Vw.inn u 4) == true) :: zq5; let zq7 : List Bool := true :: true :: true :: true :: true :: true :: true :: true :: true :: true :: (scP .u16 zz2) :: true :: true :: true :: true :: (scP .u8 zz8) :: true :: true :: true :: (Vw.got u 4 == false) :: zq0; let zq8 : List Bool := true :: true :: true :: true :: true :: (Vw.inn u 4 == true) :: zq7; let zq9 : List Bool := true :: true :: true :: (decide zz6 == false) :: zq8; let zq10 : List Bool := true :: true :: true :: true :: true :: ((!Vw.inn u 4) == true) :: zq9; let zq11 : List Bool := true :: true :: true :: (Vw.inn u 4 == false) :: zq7; let zq12 : List Bool := true :: true :: true :: true :: true :: ((!Vw.inn u 4) == true) :: zq11; (((Vw.got u 4) = true → (((Vw.inn u 4) = true → (((decide (Int.ofNat 0 ≥ c.miss)) = true → Q (Exit.normal, zz1, [some (ABlk.mk true false 32 0 (Cs.lit (vwL (updV 4 false (Int.ofNat 0) (upZ (Vw.good u 4)) (rewZ (Vw.score u 4)) false u)))), some (ABlk.mk true false 32 0 (Cs.lit (vwL v))), some zz0], 99, 1370000000000000000000000000000000000000017, (true :: true :: true :: true :: (decide (Int.ofNat 0 ≥ c.miss) == true) :: zq2), [])) ∧ ((decide (Int.ofNat 0 ≥ c.miss)) = false → (((!Vw.inn u 4) = true → (((decide zz5) = true → Q (Exit.normal, zz1, zz9, 99, 1530000000000000000000000000000000000000017, (true :: true :: true :: true :: (decide zz5 == true) :: zq4), [])) ∧ ((decide zz5) = false → Q (Exit.normal, zz1, zz3, 99, 1530000000000000000000000000000000000000013, (true :: true :: (decide zz5 == false) :: zq4), [])))) ∧ ((!Vw.inn u 4) = false → Q (Exit.normal, zz1, zz3, 99, 1530000000000000000000000000000000000000013, (true :: true :: ((!Vw.inn u 4) == false) :: zq3), [])))))) ∧ ((Vw.inn u 4) = false → (((!Vw.inn u 4) = true → (((decide zz5) = true → Q (Exit.normal, zz1, zz9, 99, 1530000000000000000000000000000000000000017, (true :: true :: true :: true :: (decide zz5 == true) :: zq6), [])) ∧ ((decide zz5) = false → Q (Exit.normal, zz1, zz3, 99, 1530000000000000000000000000000000000000013, (true :: true :: (decide zz5 == false) :: zq6), [])))) ∧ ((!Vw.inn u 4) = false → Q (Exit.normal, zz1, zz3, 99, 1530000000000000000000000000000000000000013, (true :: true :: ((!Vw.inn u 4) == false) :: zq5), [])))))) ∧ ((Vw.got u 4) = false → (((Vw.inn u 4) = true → (((decide zz6) = true → Q (Exit.normal, zz1, [some (ABlk.mk true false 32 0 (Cs.lit (vwL (updV 4 false (upZ (Vw.miss u 4)) (Int.ofNat 0) (penZ (Vw.score u 4)) false u)))), some (ABlk.mk true false 32 0 (Cs.lit (vwL v))), some zz0], 99, 1370000000000000000000000000000000000000017, (true :: true :: true :: true :: (decide zz6 == true) :: zq8), [])) ∧ ((decide zz6) = false → (((!Vw.inn u 4) = true → (((decide (Int.ofNat 0 ≥ c.good)) = true → Q (Exit.normal, zz1, zz10, 99, 1530000000000000000000000000000000000000017, (true :: true :: true :: true :: (decide (Int.ofNat 0 ≥ c.good) == true) :: zq10), [])) ∧ ((decide (Int.ofNat 0 ≥ c.good)) = false → Q (Exit.normal, zz1, zz4, 99, 1530000000000000000000000000000000000000013, (true :: true :: (decide (Int.ofNat 0 ≥ c.good) == false) :: zq10), [])))) ∧ ((!Vw.inn u 4) = false → Q (Exit.normal, zz1, zz4, 99, 1530000000000000000000000000000000000000013, (true :: true :: ((!Vw.inn u 4) == false) :: zq9), [])))))) ∧ ((Vw.inn u 4) = false → (((!Vw.inn u 4) = true → (((decide (Int.ofNat 0 ≥ c.good)) = true → Q (Exit.normal, zz1, zz10, 99, 1530000000000000000000000000000000000000017, (true :: true :: true :: true :: (decide (Int.ofNat 0 ≥ c.good) == true) :: zq12), [])) ∧ ((decide (Int.ofNat 0 ≥ c.good)) = false → Q (Exit.normal, zz1, zz4, 99, 1530000000000000000000000000000000000000013, (true :: true :: (decide (Int.ofNat 0 ≥ c.good) == false) :: zq12), [])))) ∧ ((!Vw.inn u 4) = false → Q (Exit.normal, zz1, zz4, 99, 1530000000000000000000000000000000000000013, (true :: true :: ((!Vw.inn u 4) == false) :: zq11), [])))))))) :
    ∃ p r, mrR Tryz.prog c u v 4 p = some r ∧ Q r :=
  two H
  (fun g1 => two g1
    (fun g2 => two g2
      (fun g3 => ⟨pD 11 59062, _, by kernel_rfl, g3⟩)
      (fun g3 => two g3
        (fun g4 => two g4
          (fun g5 => ⟨pD 20 1162556725, _, by kernel_rfl, g5⟩)
          (fun g5 => ⟨pD 20 2324818192, _, by kernel_rfl, g5⟩))
        (fun g4 => ⟨pD 20 472405, _, by kernel_rfl, g4⟩)))
    (fun g2 => two g2
      (fun g3 => two g3
        (fun g4 => ⟨pD 20 1162438636, _, by kernel_rfl, g4⟩)
        (fun g4 => ⟨pD 20 2324700103, _, by kernel_rfl, g4⟩))
      (fun g3 => ⟨pD 20 354316, _, by kernel_rfl, g3⟩)))
  (fun g1 => two g1
    (fun g2 => two g2
      (fun g3 => ⟨pD 11 59065, _, by kernel_rfl, g3⟩)
      (fun g3 => two g3
        (fun g4 => two g4
          (fun g5 => ⟨pD 20 1162556728, _, by kernel_rfl, g5⟩)
          (fun g5 => ⟨pD 20 2324818195, _, by kernel_rfl, g5⟩))
        (fun g4 => ⟨pD 20 472408, _, by kernel_rfl, g4⟩)))
    (fun g2 => two g2
      (fun g3 => two g3
        (fun g4 => ⟨pD 20 1162438639, _, by kernel_rfl, g4⟩)
        (fun g4 => ⟨pD 20 2324700106, _, by kernel_rfl, g4⟩))
      (fun g3 => ⟨pD 20 354319, _, by kernel_rfl, g3⟩)))
theorem mr5 (c : Cfg) (u v : Vw) (Q : VC → Prop) (H : let zz0 := (ABlk.mk true false 25 0 (Cs.lit [AC.v (Value.int IntKind.i64 (Cfg.nodes c)), AC.sl 1043 0 0 (Cfg.np c) (some (Cfg.np c)), AC.sl 1070 0 0 (Cfg.ns c) (some (Cfg.ns c)), AC.v (Value.int IntKind.i64 (Cfg.long c)), AC.sl 1097 0 0 (Cfg.nb c) (some (Cfg.nb c)), AC.sl 1114 0 0 (Cfg.nt c) (some (Cfg.nt c)), AC.v (Value.int IntKind.i64 (Cfg.miss c)), AC.v (Value.int IntKind.i64 (Cfg.good c)), AC.v (Value.int IntKind.i64 (Cfg.fresh c))])); let zz1 := [some (lkA (List.zip rdH (mrV c 5)) 3), some (lkA (List.zip rdH (mrV c 5)) 4), some (lkA (List.zip rdH (mrV c 5)) 5), some (lkA (List.zip rdH (mrV c 5)) 11), some (AV.c (AC.v (Value.int IntKind.i64 (Int.ofNat 6))))]; let zz2 := [AV.c (AC.v (Value.int IntKind.u16 (Vw.score u 5)))]; let zz3 := [some (ABlk.mk true false 32 0 (Cs.lit (vwL (updV 5 (Vw.inn u 5) (Int.ofNat 0) (upZ (Vw.good u 5)) (rewZ (Vw.score u 5)) false u)))), some (ABlk.mk true false 32 0 (Cs.lit (vwL v))), some zz0]; let zz4 := [some (ABlk.mk true false 32 0 (Cs.lit (vwL (updV 5 (Vw.inn u 5) (upZ (Vw.miss u 5)) (Int.ofNat 0) (penZ (Vw.score u 5)) false u)))), some (ABlk.mk true false 32 0 (Cs.lit (vwL v))), some zz0]; let zz5 := (IntKind.wrap IntKind.i64 (upZ (Vw.good u 5)) ≥ Cfg.good c); let zz6 := (IntKind.wrap IntKind.i64 (upZ (Vw.miss u 5)) ≥ Cfg.miss c); let zz7 := [AV.c (AC.v (Value.int IntKind.u8 (Vw.good u 5)))]; let zz8 := [AV.c (AC.v (Value.int IntKind.u8 (Vw.miss u 5)))]; let zz9 := [some (ABlk.mk true false 32 0 (Cs.lit (vwL (updV 5 true (Int.ofNat 0) (upZ (Vw.good u 5)) (rewZ (Vw.score u 5)) false u)))), some (ABlk.mk true false 32 0 (Cs.lit (vwL v))), some zz0]; let zz10 := [some (ABlk.mk true false 32 0 (Cs.lit (vwL (updV 5 true (upZ (Vw.miss u 5)) (Int.ofNat 0) (penZ (Vw.score u 5)) false u)))), some (ABlk.mk true false 32 0 (Cs.lit (vwL v))), some zz0]; let zq0 : List Bool := true :: true :: true :: (decide (Int.ofNat 5 < Int.ofNat (c.np)) == true) :: []; let zq1 : List Bool := true :: true :: true :: true :: true :: true :: true :: true :: true :: true :: (scP .u16 zz2) :: true :: true :: true :: true :: (scP .u8 zz7) :: true :: true :: true :: (Vw.got u 5 == true) :: zq0; let zq2 : List Bool := true :: true :: true :: true :: true :: (Vw.inn u 5 == true) :: zq1; let zq3 : List Bool := true :: true :: true :: (decide (Int.ofNat 0 ≥ c.miss) == false) :: zq2; let zq4 : List Bool := true :: true :: true :: true :: true :: ((!Vw.inn u 5) == true) :: zq3; let zq5 : List Bool := true :: true :: true :: (Vw.inn u 5 == false) :: zq1; let zq6 : List Bool := true :: true :: true :: true :: true :: ((!Vw.inn u 5) == true) :: zq5; let zq7 : List Bool := true :: true :: true :: true :: true :: true :: true :: true :: true :: true :: (scP .u16 zz2) :: true :: true :: true :: true :: (scP .u8 zz8) :: true :: true :: true :: (Vw.got u 5 == false) :: zq0; let zq8 : List Bool := true :: true :: true :: true :: true :: (Vw.inn u 5 == true) :: zq7; let zq9 : List Bool := true :: true :: true :: (decide zz6 == false) :: zq8; let zq10 : List Bool := true :: true :: true :: true :: true :: ((!Vw.inn u 5) == true) :: zq9; let zq11 : List Bool := true :: true :: true :: (Vw.inn u 5 == false) :: zq7; let zq12 : List Bool := true :: true :: true :: true :: true :: ((!Vw.inn u 5) == true) :: zq11; (((Vw.got u 5) = true → (((Vw.inn u 5) = true → (((decide (Int.ofNat 0 ≥ c.miss)) = true → Q (Exit.normal, zz1, [some (ABlk.mk true false 32 0 (Cs.lit (vwL (updV 5 false (Int.ofNat 0) (upZ (Vw.good u 5)) (rewZ (Vw.score u 5)) false u)))), some (ABlk.mk true false 32 0 (Cs.lit (vwL v))), some zz0], 99, 1370000000000000000000000000000000000000017, (true :: true :: true :: true :: (decide (Int.ofNat 0 ≥ c.miss) == true) :: zq2), [])) ∧ ((decide (Int.ofNat 0 ≥ c.miss)) = false → (((!Vw.inn u 5) = true → (((decide zz5) = true → Q (Exit.normal, zz1, zz9, 99, 1530000000000000000000000000000000000000017, (true :: true :: true :: true :: (decide zz5 == true) :: zq4), [])) ∧ ((decide zz5) = false → Q (Exit.normal, zz1, zz3, 99, 1530000000000000000000000000000000000000013, (true :: true :: (decide zz5 == false) :: zq4), [])))) ∧ ((!Vw.inn u 5) = false → Q (Exit.normal, zz1, zz3, 99, 1530000000000000000000000000000000000000013, (true :: true :: ((!Vw.inn u 5) == false) :: zq3), [])))))) ∧ ((Vw.inn u 5) = false → (((!Vw.inn u 5) = true → (((decide zz5) = true → Q (Exit.normal, zz1, zz9, 99, 1530000000000000000000000000000000000000017, (true :: true :: true :: true :: (decide zz5 == true) :: zq6), [])) ∧ ((decide zz5) = false → Q (Exit.normal, zz1, zz3, 99, 1530000000000000000000000000000000000000013, (true :: true :: (decide zz5 == false) :: zq6), [])))) ∧ ((!Vw.inn u 5) = false → Q (Exit.normal, zz1, zz3, 99, 1530000000000000000000000000000000000000013, (true :: true :: ((!Vw.inn u 5) == false) :: zq5), [])))))) ∧ ((Vw.got u 5) = false → (((Vw.inn u 5) = true → (((decide zz6) = true → Q (Exit.normal, zz1, [some (ABlk.mk true false 32 0 (Cs.lit (vwL (updV 5 false (upZ (Vw.miss u 5)) (Int.ofNat 0) (penZ (Vw.score u 5)) false u)))), some (ABlk.mk true false 32 0 (Cs.lit (vwL v))), some zz0], 99, 1370000000000000000000000000000000000000017, (true :: true :: true :: true :: (decide zz6 == true) :: zq8), [])) ∧ ((decide zz6) = false → (((!Vw.inn u 5) = true → (((decide (Int.ofNat 0 ≥ c.good)) = true → Q (Exit.normal, zz1, zz10, 99, 1530000000000000000000000000000000000000017, (true :: true :: true :: true :: (decide (Int.ofNat 0 ≥ c.good) == true) :: zq10), [])) ∧ ((decide (Int.ofNat 0 ≥ c.good)) = false → Q (Exit.normal, zz1, zz4, 99, 1530000000000000000000000000000000000000013, (true :: true :: (decide (Int.ofNat 0 ≥ c.good) == false) :: zq10), [])))) ∧ ((!Vw.inn u 5) = false → Q (Exit.normal, zz1, zz4, 99, 1530000000000000000000000000000000000000013, (true :: true :: ((!Vw.inn u 5) == false) :: zq9), [])))))) ∧ ((Vw.inn u 5) = false → (((!Vw.inn u 5) = true → (((decide (Int.ofNat 0 ≥ c.good)) = true → Q (Exit.normal, zz1, zz10, 99, 1530000000000000000000000000000000000000017, (true :: true :: true :: true :: (decide (Int.ofNat 0 ≥ c.good) == true) :: zq12), [])) ∧ ((decide (Int.ofNat 0 ≥ c.good)) = false → Q (Exit.normal, zz1, zz4, 99, 1530000000000000000000000000000000000000013, (true :: true :: (decide (Int.ofNat 0 ≥ c.good) == false) :: zq12), [])))) ∧ ((!Vw.inn u 5) = false → Q (Exit.normal, zz1, zz4, 99, 1530000000000000000000000000000000000000013, (true :: true :: ((!Vw.inn u 5) == false) :: zq11), [])))))))) :
    ∃ p r, mrR Tryz.prog c u v 5 p = some r ∧ Q r :=
  two H
  (fun g1 => two g1
    (fun g2 => two g2
      (fun g3 => ⟨pD 11 59062, _, by kernel_rfl, g3⟩)
      (fun g3 => two g3
        (fun g4 => two g4
          (fun g5 => ⟨pD 20 1162556725, _, by kernel_rfl, g5⟩)
          (fun g5 => ⟨pD 20 2324818192, _, by kernel_rfl, g5⟩))
        (fun g4 => ⟨pD 20 472405, _, by kernel_rfl, g4⟩)))
    (fun g2 => two g2
      (fun g3 => two g3
        (fun g4 => ⟨pD 20 1162438636, _, by kernel_rfl, g4⟩)
        (fun g4 => ⟨pD 20 2324700103, _, by kernel_rfl, g4⟩))
      (fun g3 => ⟨pD 20 354316, _, by kernel_rfl, g3⟩)))
  (fun g1 => two g1
    (fun g2 => two g2
      (fun g3 => ⟨pD 11 59065, _, by kernel_rfl, g3⟩)
      (fun g3 => two g3
        (fun g4 => two g4
          (fun g5 => ⟨pD 20 1162556728, _, by kernel_rfl, g5⟩)
          (fun g5 => ⟨pD 20 2324818195, _, by kernel_rfl, g5⟩))
        (fun g4 => ⟨pD 20 472408, _, by kernel_rfl, g4⟩)))
    (fun g2 => two g2
      (fun g3 => two g3
        (fun g4 => ⟨pD 20 1162438639, _, by kernel_rfl, g4⟩)
        (fun g4 => ⟨pD 20 2324700106, _, by kernel_rfl, g4⟩))
      (fun g3 => ⟨pD 20 354319, _, by kernel_rfl, g3⟩)))
theorem mr6 (c : Cfg) (u v : Vw) (Q : VC → Prop) (H : let zz0 := (ABlk.mk true false 25 0 (Cs.lit [AC.v (Value.int IntKind.i64 (Cfg.nodes c)), AC.sl 1043 0 0 (Cfg.np c) (some (Cfg.np c)), AC.sl 1070 0 0 (Cfg.ns c) (some (Cfg.ns c)), AC.v (Value.int IntKind.i64 (Cfg.long c)), AC.sl 1097 0 0 (Cfg.nb c) (some (Cfg.nb c)), AC.sl 1114 0 0 (Cfg.nt c) (some (Cfg.nt c)), AC.v (Value.int IntKind.i64 (Cfg.miss c)), AC.v (Value.int IntKind.i64 (Cfg.good c)), AC.v (Value.int IntKind.i64 (Cfg.fresh c))])); let zz1 := [some (lkA (List.zip rdH (mrV c 6)) 3), some (lkA (List.zip rdH (mrV c 6)) 4), some (lkA (List.zip rdH (mrV c 6)) 5), some (lkA (List.zip rdH (mrV c 6)) 11), some (AV.c (AC.v (Value.int IntKind.i64 (Int.ofNat 7))))]; let zz2 := [AV.c (AC.v (Value.int IntKind.u16 (Vw.score u 6)))]; let zz3 := [some (ABlk.mk true false 32 0 (Cs.lit (vwL (updV 6 (Vw.inn u 6) (Int.ofNat 0) (upZ (Vw.good u 6)) (rewZ (Vw.score u 6)) false u)))), some (ABlk.mk true false 32 0 (Cs.lit (vwL v))), some zz0]; let zz4 := [some (ABlk.mk true false 32 0 (Cs.lit (vwL (updV 6 (Vw.inn u 6) (upZ (Vw.miss u 6)) (Int.ofNat 0) (penZ (Vw.score u 6)) false u)))), some (ABlk.mk true false 32 0 (Cs.lit (vwL v))), some zz0]; let zz5 := (IntKind.wrap IntKind.i64 (upZ (Vw.good u 6)) ≥ Cfg.good c); let zz6 := (IntKind.wrap IntKind.i64 (upZ (Vw.miss u 6)) ≥ Cfg.miss c); let zz7 := [AV.c (AC.v (Value.int IntKind.u8 (Vw.good u 6)))]; let zz8 := [AV.c (AC.v (Value.int IntKind.u8 (Vw.miss u 6)))]; let zz9 := [some (ABlk.mk true false 32 0 (Cs.lit (vwL (updV 6 true (Int.ofNat 0) (upZ (Vw.good u 6)) (rewZ (Vw.score u 6)) false u)))), some (ABlk.mk true false 32 0 (Cs.lit (vwL v))), some zz0]; let zz10 := [some (ABlk.mk true false 32 0 (Cs.lit (vwL (updV 6 true (upZ (Vw.miss u 6)) (Int.ofNat 0) (penZ (Vw.score u 6)) false u)))), some (ABlk.mk true false 32 0 (Cs.lit (vwL v))), some zz0]; let zq0 : List Bool := true :: true :: true :: (decide (Int.ofNat 6 < Int.ofNat (c.np)) == true) :: []; let zq1 : List Bool := true :: true :: true :: true :: true :: true :: true :: true :: true :: true :: (scP .u16 zz2) :: true :: true :: true :: true :: (scP .u8 zz7) :: true :: true :: true :: (Vw.got u 6 == true) :: zq0; let zq2 : List Bool := true :: true :: true :: true :: true :: (Vw.inn u 6 == true) :: zq1; let zq3 : List Bool := true :: true :: true :: (decide (Int.ofNat 0 ≥ c.miss) == false) :: zq2; let zq4 : List Bool := true :: true :: true :: true :: true :: ((!Vw.inn u 6) == true) :: zq3; let zq5 : List Bool := true :: true :: true :: (Vw.inn u 6 == false) :: zq1; let zq6 : List Bool := true :: true :: true :: true :: true :: ((!Vw.inn u 6) == true) :: zq5; let zq7 : List Bool := true :: true :: true :: true :: true :: true :: true :: true :: true :: true :: (scP .u16 zz2) :: true :: true :: true :: true :: (scP .u8 zz8) :: true :: true :: true :: (Vw.got u 6 == false) :: zq0; let zq8 : List Bool := true :: true :: true :: true :: true :: (Vw.inn u 6 == true) :: zq7; let zq9 : List Bool := true :: true :: true :: (decide zz6 == false) :: zq8; let zq10 : List Bool := true :: true :: true :: true :: true :: ((!Vw.inn u 6) == true) :: zq9; let zq11 : List Bool := true :: true :: true :: (Vw.inn u 6 == false) :: zq7; let zq12 : List Bool := true :: true :: true :: true :: true :: ((!Vw.inn u 6) == true) :: zq11; (((Vw.got u 6) = true → (((Vw.inn u 6) = true → (((decide (Int.ofNat 0 ≥ c.miss)) = true → Q (Exit.normal, zz1, [some (ABlk.mk true false 32 0 (Cs.lit (vwL (updV 6 false (Int.ofNat 0) (upZ (Vw.good u 6)) (rewZ (Vw.score u 6)) false u)))), some (ABlk.mk true false 32 0 (Cs.lit (vwL v))), some zz0], 99, 1370000000000000000000000000000000000000017, (true :: true :: true :: true :: (decide (Int.ofNat 0 ≥ c.miss) == true) :: zq2), [])) ∧ ((decide (Int.ofNat 0 ≥ c.miss)) = false → (((!Vw.inn u 6) = true → (((decide zz5) = true → Q (Exit.normal, zz1, zz9, 99, 1530000000000000000000000000000000000000017, (true :: true :: true :: true :: (decide zz5 == true) :: zq4), [])) ∧ ((decide zz5) = false → Q (Exit.normal, zz1, zz3, 99, 1530000000000000000000000000000000000000013, (true :: true :: (decide zz5 == false) :: zq4), [])))) ∧ ((!Vw.inn u 6) = false → Q (Exit.normal, zz1, zz3, 99, 1530000000000000000000000000000000000000013, (true :: true :: ((!Vw.inn u 6) == false) :: zq3), [])))))) ∧ ((Vw.inn u 6) = false → (((!Vw.inn u 6) = true → (((decide zz5) = true → Q (Exit.normal, zz1, zz9, 99, 1530000000000000000000000000000000000000017, (true :: true :: true :: true :: (decide zz5 == true) :: zq6), [])) ∧ ((decide zz5) = false → Q (Exit.normal, zz1, zz3, 99, 1530000000000000000000000000000000000000013, (true :: true :: (decide zz5 == false) :: zq6), [])))) ∧ ((!Vw.inn u 6) = false → Q (Exit.normal, zz1, zz3, 99, 1530000000000000000000000000000000000000013, (true :: true :: ((!Vw.inn u 6) == false) :: zq5), [])))))) ∧ ((Vw.got u 6) = false → (((Vw.inn u 6) = true → (((decide zz6) = true → Q (Exit.normal, zz1, [some (ABlk.mk true false 32 0 (Cs.lit (vwL (updV 6 false (upZ (Vw.miss u 6)) (Int.ofNat 0) (penZ (Vw.score u 6)) false u)))), some (ABlk.mk true false 32 0 (Cs.lit (vwL v))), some zz0], 99, 1370000000000000000000000000000000000000017, (true :: true :: true :: true :: (decide zz6 == true) :: zq8), [])) ∧ ((decide zz6) = false → (((!Vw.inn u 6) = true → (((decide (Int.ofNat 0 ≥ c.good)) = true → Q (Exit.normal, zz1, zz10, 99, 1530000000000000000000000000000000000000017, (true :: true :: true :: true :: (decide (Int.ofNat 0 ≥ c.good) == true) :: zq10), [])) ∧ ((decide (Int.ofNat 0 ≥ c.good)) = false → Q (Exit.normal, zz1, zz4, 99, 1530000000000000000000000000000000000000013, (true :: true :: (decide (Int.ofNat 0 ≥ c.good) == false) :: zq10), [])))) ∧ ((!Vw.inn u 6) = false → Q (Exit.normal, zz1, zz4, 99, 1530000000000000000000000000000000000000013, (true :: true :: ((!Vw.inn u 6) == false) :: zq9), [])))))) ∧ ((Vw.inn u 6) = false → (((!Vw.inn u 6) = true → (((decide (Int.ofNat 0 ≥ c.good)) = true → Q (Exit.normal, zz1, zz10, 99, 1530000000000000000000000000000000000000017, (true :: true :: true :: true :: (decide (Int.ofNat 0 ≥ c.good) == true) :: zq12), [])) ∧ ((decide (Int.ofNat 0 ≥ c.good)) = false → Q (Exit.normal, zz1, zz4, 99, 1530000000000000000000000000000000000000013, (true :: true :: (decide (Int.ofNat 0 ≥ c.good) == false) :: zq12), [])))) ∧ ((!Vw.inn u 6) = false → Q (Exit.normal, zz1, zz4, 99, 1530000000000000000000000000000000000000013, (true :: true :: ((!Vw.inn u 6) == false) :: zq11), [])))))))) :
    ∃ p r, mrR Tryz.prog c u v 6 p = some r ∧ Q r :=
  two H
  (fun g1 => two g1
    (fun g2 => two g2
      (fun g3 => ⟨pD 11 59062, _, by kernel_rfl, g3⟩)
      (fun g3 => two g3
        (fun g4 => two g4
          (fun g5 => ⟨pD 20 1162556725, _, by kernel_rfl, g5⟩)
          (fun g5 => ⟨pD 20 2324818192, _, by kernel_rfl, g5⟩))
        (fun g4 => ⟨pD 20 472405, _, by kernel_rfl, g4⟩)))
    (fun g2 => two g2
      (fun g3 => two g3
        (fun g4 => ⟨pD 20 1162438636, _, by kernel_rfl, g4⟩)
        (fun g4 => ⟨pD 20 2324700103, _, by kernel_rfl, g4⟩))
      (fun g3 => ⟨pD 20 354316, _, by kernel_rfl, g3⟩)))
  (fun g1 => two g1
    (fun g2 => two g2
      (fun g3 => ⟨pD 11 59065, _, by kernel_rfl, g3⟩)
      (fun g3 => two g3
        (fun g4 => two g4
          (fun g5 => ⟨pD 20 1162556728, _, by kernel_rfl, g5⟩)
          (fun g5 => ⟨pD 20 2324818195, _, by kernel_rfl, g5⟩))
        (fun g4 => ⟨pD 20 472408, _, by kernel_rfl, g4⟩)))
    (fun g2 => two g2
      (fun g3 => two g3
        (fun g4 => ⟨pD 20 1162438639, _, by kernel_rfl, g4⟩)
        (fun g4 => ⟨pD 20 2324700106, _, by kernel_rfl, g4⟩))
      (fun g3 => ⟨pD 20 354319, _, by kernel_rfl, g3⟩)))
theorem mr7 (c : Cfg) (u v : Vw) (Q : VC → Prop) (H : let zz0 := (ABlk.mk true false 25 0 (Cs.lit [AC.v (Value.int IntKind.i64 (Cfg.nodes c)), AC.sl 1043 0 0 (Cfg.np c) (some (Cfg.np c)), AC.sl 1070 0 0 (Cfg.ns c) (some (Cfg.ns c)), AC.v (Value.int IntKind.i64 (Cfg.long c)), AC.sl 1097 0 0 (Cfg.nb c) (some (Cfg.nb c)), AC.sl 1114 0 0 (Cfg.nt c) (some (Cfg.nt c)), AC.v (Value.int IntKind.i64 (Cfg.miss c)), AC.v (Value.int IntKind.i64 (Cfg.good c)), AC.v (Value.int IntKind.i64 (Cfg.fresh c))])); let zz1 := [some (lkA (List.zip rdH (mrV c 7)) 3), some (lkA (List.zip rdH (mrV c 7)) 4), some (lkA (List.zip rdH (mrV c 7)) 5), some (lkA (List.zip rdH (mrV c 7)) 11), some (AV.c (AC.v (Value.int IntKind.i64 (Int.ofNat 8))))]; let zz2 := [AV.c (AC.v (Value.int IntKind.u16 (Vw.score u 7)))]; let zz3 := [some (ABlk.mk true false 32 0 (Cs.lit (vwL (updV 7 (Vw.inn u 7) (Int.ofNat 0) (upZ (Vw.good u 7)) (rewZ (Vw.score u 7)) false u)))), some (ABlk.mk true false 32 0 (Cs.lit (vwL v))), some zz0]; let zz4 := [some (ABlk.mk true false 32 0 (Cs.lit (vwL (updV 7 (Vw.inn u 7) (upZ (Vw.miss u 7)) (Int.ofNat 0) (penZ (Vw.score u 7)) false u)))), some (ABlk.mk true false 32 0 (Cs.lit (vwL v))), some zz0]; let zz5 := (IntKind.wrap IntKind.i64 (upZ (Vw.good u 7)) ≥ Cfg.good c); let zz6 := (IntKind.wrap IntKind.i64 (upZ (Vw.miss u 7)) ≥ Cfg.miss c); let zz7 := [AV.c (AC.v (Value.int IntKind.u8 (Vw.good u 7)))]; let zz8 := [AV.c (AC.v (Value.int IntKind.u8 (Vw.miss u 7)))]; let zz9 := [some (ABlk.mk true false 32 0 (Cs.lit (vwL (updV 7 true (Int.ofNat 0) (upZ (Vw.good u 7)) (rewZ (Vw.score u 7)) false u)))), some (ABlk.mk true false 32 0 (Cs.lit (vwL v))), some zz0]; let zz10 := [some (ABlk.mk true false 32 0 (Cs.lit (vwL (updV 7 true (upZ (Vw.miss u 7)) (Int.ofNat 0) (penZ (Vw.score u 7)) false u)))), some (ABlk.mk true false 32 0 (Cs.lit (vwL v))), some zz0]; let zq0 : List Bool := true :: true :: true :: (decide (Int.ofNat 7 < Int.ofNat (c.np)) == true) :: []; let zq1 : List Bool := true :: true :: true :: true :: true :: true :: true :: true :: true :: true :: (scP .u16 zz2) :: true :: true :: true :: true :: (scP .u8 zz7) :: true :: true :: true :: (Vw.got u 7 == true) :: zq0; let zq2 : List Bool := true :: true :: true :: true :: true :: (Vw.inn u 7 == true) :: zq1; let zq3 : List Bool := true :: true :: true :: (decide (Int.ofNat 0 ≥ c.miss) == false) :: zq2; let zq4 : List Bool := true :: true :: true :: true :: true :: ((!Vw.inn u 7) == true) :: zq3; let zq5 : List Bool := true :: true :: true :: (Vw.inn u 7 == false) :: zq1; let zq6 : List Bool := true :: true :: true :: true :: true :: ((!Vw.inn u 7) == true) :: zq5; let zq7 : List Bool := true :: true :: true :: true :: true :: true :: true :: true :: true :: true :: (scP .u16 zz2) :: true :: true :: true :: true :: (scP .u8 zz8) :: true :: true :: true :: (Vw.got u 7 == false) :: zq0; let zq8 : List Bool := true :: true :: true :: true :: true :: (Vw.inn u 7 == true) :: zq7; let zq9 : List Bool := true :: true :: true :: (decide zz6 == false) :: zq8; let zq10 : List Bool := true :: true :: true :: true :: true :: ((!Vw.inn u 7) == true) :: zq9; let zq11 : List Bool := true :: true :: true :: (Vw.inn u 7 == false) :: zq7; let zq12 : List Bool := true :: true :: true :: true :: true :: ((!Vw.inn u 7) == true) :: zq11; (((Vw.got u 7) = true → (((Vw.inn u 7) = true → (((decide (Int.ofNat 0 ≥ c.miss)) = true → Q (Exit.normal, zz1, [some (ABlk.mk true false 32 0 (Cs.lit (vwL (updV 7 false (Int.ofNat 0) (upZ (Vw.good u 7)) (rewZ (Vw.score u 7)) false u)))), some (ABlk.mk true false 32 0 (Cs.lit (vwL v))), some zz0], 99, 1370000000000000000000000000000000000000017, (true :: true :: true :: true :: (decide (Int.ofNat 0 ≥ c.miss) == true) :: zq2), [])) ∧ ((decide (Int.ofNat 0 ≥ c.miss)) = false → (((!Vw.inn u 7) = true → (((decide zz5) = true → Q (Exit.normal, zz1, zz9, 99, 1530000000000000000000000000000000000000017, (true :: true :: true :: true :: (decide zz5 == true) :: zq4), [])) ∧ ((decide zz5) = false → Q (Exit.normal, zz1, zz3, 99, 1530000000000000000000000000000000000000013, (true :: true :: (decide zz5 == false) :: zq4), [])))) ∧ ((!Vw.inn u 7) = false → Q (Exit.normal, zz1, zz3, 99, 1530000000000000000000000000000000000000013, (true :: true :: ((!Vw.inn u 7) == false) :: zq3), [])))))) ∧ ((Vw.inn u 7) = false → (((!Vw.inn u 7) = true → (((decide zz5) = true → Q (Exit.normal, zz1, zz9, 99, 1530000000000000000000000000000000000000017, (true :: true :: true :: true :: (decide zz5 == true) :: zq6), [])) ∧ ((decide zz5) = false → Q (Exit.normal, zz1, zz3, 99, 1530000000000000000000000000000000000000013, (true :: true :: (decide zz5 == false) :: zq6), [])))) ∧ ((!Vw.inn u 7) = false → Q (Exit.normal, zz1, zz3, 99, 1530000000000000000000000000000000000000013, (true :: true :: ((!Vw.inn u 7) == false) :: zq5), [])))))) ∧ ((Vw.got u 7) = false → (((Vw.inn u 7) = true → (((decide zz6) = true → Q (Exit.normal, zz1, [some (ABlk.mk true false 32 0 (Cs.lit (vwL (updV 7 false (upZ (Vw.miss u 7)) (Int.ofNat 0) (penZ (Vw.score u 7)) false u)))), some (ABlk.mk true false 32 0 (Cs.lit (vwL v))), some zz0], 99, 1370000000000000000000000000000000000000017, (true :: true :: true :: true :: (decide zz6 == true) :: zq8), [])) ∧ ((decide zz6) = false → (((!Vw.inn u 7) = true → (((decide (Int.ofNat 0 ≥ c.good)) = true → Q (Exit.normal, zz1, zz10, 99, 1530000000000000000000000000000000000000017, (true :: true :: true :: true :: (decide (Int.ofNat 0 ≥ c.good) == true) :: zq10), [])) ∧ ((decide (Int.ofNat 0 ≥ c.good)) = false → Q (Exit.normal, zz1, zz4, 99, 1530000000000000000000000000000000000000013, (true :: true :: (decide (Int.ofNat 0 ≥ c.good) == false) :: zq10), [])))) ∧ ((!Vw.inn u 7) = false → Q (Exit.normal, zz1, zz4, 99, 1530000000000000000000000000000000000000013, (true :: true :: ((!Vw.inn u 7) == false) :: zq9), [])))))) ∧ ((Vw.inn u 7) = false → (((!Vw.inn u 7) = true → (((decide (Int.ofNat 0 ≥ c.good)) = true → Q (Exit.normal, zz1, zz10, 99, 1530000000000000000000000000000000000000017, (true :: true :: true :: true :: (decide (Int.ofNat 0 ≥ c.good) == true) :: zq12), [])) ∧ ((decide (Int.ofNat 0 ≥ c.good)) = false → Q (Exit.normal, zz1, zz4, 99, 1530000000000000000000000000000000000000013, (true :: true :: (decide (Int.ofNat 0 ≥ c.good) == false) :: zq12), [])))) ∧ ((!Vw.inn u 7) = false → Q (Exit.normal, zz1, zz4, 99, 1530000000000000000000000000000000000000013, (true :: true :: ((!Vw.inn u 7) == false) :: zq11), [])))))))) :
    ∃ p r, mrR Tryz.prog c u v 7 p = some r ∧ Q r :=
  two H
  (fun g1 => two g1
    (fun g2 => two g2
      (fun g3 => ⟨pD 11 59062, _, by kernel_rfl, g3⟩)
      (fun g3 => two g3
        (fun g4 => two g4
          (fun g5 => ⟨pD 20 1162556725, _, by kernel_rfl, g5⟩)
          (fun g5 => ⟨pD 20 2324818192, _, by kernel_rfl, g5⟩))
        (fun g4 => ⟨pD 20 472405, _, by kernel_rfl, g4⟩)))
    (fun g2 => two g2
      (fun g3 => two g3
        (fun g4 => ⟨pD 20 1162438636, _, by kernel_rfl, g4⟩)
        (fun g4 => ⟨pD 20 2324700103, _, by kernel_rfl, g4⟩))
      (fun g3 => ⟨pD 20 354316, _, by kernel_rfl, g3⟩)))
  (fun g1 => two g1
    (fun g2 => two g2
      (fun g3 => ⟨pD 11 59065, _, by kernel_rfl, g3⟩)
      (fun g3 => two g3
        (fun g4 => two g4
          (fun g5 => ⟨pD 20 1162556728, _, by kernel_rfl, g5⟩)
          (fun g5 => ⟨pD 20 2324818195, _, by kernel_rfl, g5⟩))
        (fun g4 => ⟨pD 20 472408, _, by kernel_rfl, g4⟩)))
    (fun g2 => two g2
      (fun g3 => two g3
        (fun g4 => ⟨pD 20 1162438639, _, by kernel_rfl, g4⟩)
        (fun g4 => ⟨pD 20 2324700106, _, by kernel_rfl, g4⟩))
      (fun g3 => ⟨pD 20 354319, _, by kernel_rfl, g3⟩)))
end Go.Proofs.YtpgaplcdbbnblaaGreatDoor
end
/- members.Round: what each round of its loop comes to. Printed by wip/gen_rd.py. -/
section
namespace Go.Proofs.YtpgaplcdbbnblaaGreatDoor
open Go.RowKit

theorem rnd_step {k : Nat} {ms go : Int} {v u : Vw} (hu : rndV ⟨k, ms, go⟩ v = u) {a : Bool} {m x s : Int} (h1 : rIn ⟨k + 1, ms, go⟩ k (v.inn k) (v.got k) (v.miss k) (v.good k) = a) (h2 : rMi ⟨k + 1, ms, go⟩ k (v.got k) (v.miss k) = m) (h3 : rGo ⟨k + 1, ms, go⟩ k (v.got k) (v.good k) = x) (h4 : rSc ⟨k + 1, ms, go⟩ k (v.got k) (v.score k) = s) :
    rndV ⟨k + 1, ms, go⟩ v = updV k a m x s false u := by
  subst hu h1 h2 h3 h4
  unfold rndV updV
  have e : ∀ i, i ≠ k → (i < k + 1 ↔ i < k) := fun i h => by omega
  simp only [Vw.mk.injEq, and_true]
  refine ⟨?_, ?_, ?_, ?_, ?_⟩ <;> (funext i; by_cases hi : i = k)
  all_goals (first | (subst hi; simp; done) | (subst hi; simp [rGt]; done) | (have e2 := e i hi; by_cases hk : i < k <;> simp [hi, rIn, rMi, rGo, rSc, rGt, hk, e2]))
def PosV (v : Vw) : Prop := ∀ i, i < 8 → 0 ≤ v.miss i ∧ 0 ≤ v.good i ∧ 0 ≤ v.score i
theorem upZ_wrap {z : Int} (h : 0 ≤ z) : IntKind.wrap .i64 (upZ z) = upZ z := wrap_nat _ (by unfold upZ; omega) (by unfold upZ; omega)
def RdNx (c : Cfg) (v w : Vw) (k : Nat) (r : VC) : Prop :=
  allT r.2.2.2.2.2.1 ∧ r.2.2.2.2.2.2 = [] ∧ r.2.2.2.2.1 ≤ 100000000000000000000000000000000000000000000000000 ∧ r.2.2.2.1 = 99 ∧ r.1 = .normal ∧ r.2.1 = (mrV c (k + 1)).map some ∧ r.2.2.1 = [some (vwB (rndV ⟨k + 1, c.miss, c.good⟩ v)), some (vwB w), some (rdC c)]
set_option maxRecDepth 100000 in
theorem rd_st0 (c : Cfg) (v w : Vw) (hk : 0 < c.np) (hp : PosV v) : ∃ p r, mrR Tryz.prog c (rndV ⟨0, c.miss, c.good⟩ v) w 0 p = some r ∧ RdNx c v w 0 r := by
  obtain ⟨p1, p2, p3⟩ := hp 0 (by omega)
  obtain ⟨u, hu⟩ : ∃ u, rndV ⟨0, c.miss, c.good⟩ v = u := ⟨_, rfl⟩
  have e1 : u.inn 0 = v.inn 0 := by rw [← hu]; rfl
  have e2 : u.got 0 = v.got 0 := by rw [← hu]; rfl
  have e3 : u.miss 0 = v.miss 0 := by rw [← hu]; rfl
  have e4 : u.good 0 = v.good 0 := by rw [← hu]; rfl
  have e5 : u.score 0 = v.score 0 := by rw [← hu]; rfl
  have w1 := upZ_wrap p1
  have w2 := upZ_wrap p2
  rw [hu]
  refine mr0 c u w _ ?_
  simp only [e1, e2, e3, e4, e5, w1, w2]
  (repeat' (first | refine ⟨fun h => ?_, fun h => ?_⟩ | fail))
  all_goals (first | (exfalso; simp_all; done) | skip)
  all_goals (refine ⟨?_, rfl, by dsimp only; omega, rfl, rfl, rfl, ?_⟩)
  all_goals first
    | (rw [rnd_step (k := 0) (ms := c.miss) (go := c.good) (v := v) (u := u) hu (a := true) (m := 0) (x := upZ (v.good 0)) (s := rewZ (v.score 0)) (by first | (simp_all [rIn, rMi, rGo, rSc, rndV]; done) | (simp_all [rIn, rMi, rGo, rSc, rndV]; omega) | fail) (by first | (simp_all [rIn, rMi, rGo, rSc, rndV]; done) | (simp_all [rIn, rMi, rGo, rSc, rndV]; omega) | fail) (by first | (simp_all [rIn, rMi, rGo, rSc, rndV]; done) | (simp_all [rIn, rMi, rGo, rSc, rndV]; omega) | fail) (by first | (simp_all [rIn, rMi, rGo, rSc, rndV]; done) | (simp_all [rIn, rMi, rGo, rSc, rndV]; omega) | fail)]; rfl)
    | (rw [rnd_step (k := 0) (ms := c.miss) (go := c.good) (v := v) (u := u) hu (a := true) (m := upZ (v.miss 0)) (x := 0) (s := penZ (v.score 0)) (by first | (simp_all [rIn, rMi, rGo, rSc, rndV]; done) | (simp_all [rIn, rMi, rGo, rSc, rndV]; omega) | fail) (by first | (simp_all [rIn, rMi, rGo, rSc, rndV]; done) | (simp_all [rIn, rMi, rGo, rSc, rndV]; omega) | fail) (by first | (simp_all [rIn, rMi, rGo, rSc, rndV]; done) | (simp_all [rIn, rMi, rGo, rSc, rndV]; omega) | fail) (by first | (simp_all [rIn, rMi, rGo, rSc, rndV]; done) | (simp_all [rIn, rMi, rGo, rSc, rndV]; omega) | fail)]; rfl)
    | (rw [rnd_step (k := 0) (ms := c.miss) (go := c.good) (v := v) (u := u) hu (a := false) (m := 0) (x := upZ (v.good 0)) (s := rewZ (v.score 0)) (by first | (simp_all [rIn, rMi, rGo, rSc, rndV]; done) | (simp_all [rIn, rMi, rGo, rSc, rndV]; omega) | fail) (by first | (simp_all [rIn, rMi, rGo, rSc, rndV]; done) | (simp_all [rIn, rMi, rGo, rSc, rndV]; omega) | fail) (by first | (simp_all [rIn, rMi, rGo, rSc, rndV]; done) | (simp_all [rIn, rMi, rGo, rSc, rndV]; omega) | fail) (by first | (simp_all [rIn, rMi, rGo, rSc, rndV]; done) | (simp_all [rIn, rMi, rGo, rSc, rndV]; omega) | fail)]; rfl)
    | (rw [rnd_step (k := 0) (ms := c.miss) (go := c.good) (v := v) (u := u) hu (a := false) (m := upZ (v.miss 0)) (x := 0) (s := penZ (v.score 0)) (by first | (simp_all [rIn, rMi, rGo, rSc, rndV]; done) | (simp_all [rIn, rMi, rGo, rSc, rndV]; omega) | fail) (by first | (simp_all [rIn, rMi, rGo, rSc, rndV]; done) | (simp_all [rIn, rMi, rGo, rSc, rndV]; omega) | fail) (by first | (simp_all [rIn, rMi, rGo, rSc, rndV]; done) | (simp_all [rIn, rMi, rGo, rSc, rndV]; omega) | fail) (by first | (simp_all [rIn, rMi, rGo, rSc, rndV]; done) | (simp_all [rIn, rMi, rGo, rSc, rndV]; omega) | fail)]; rfl)
    | (rw [rnd_step (k := 0) (ms := c.miss) (go := c.good) (v := v) (u := u) hu (a := v.inn 0) (m := 0) (x := upZ (v.good 0)) (s := rewZ (v.score 0)) (by first | (simp_all [rIn, rMi, rGo, rSc, rndV]; done) | (simp_all [rIn, rMi, rGo, rSc, rndV]; omega) | fail) (by first | (simp_all [rIn, rMi, rGo, rSc, rndV]; done) | (simp_all [rIn, rMi, rGo, rSc, rndV]; omega) | fail) (by first | (simp_all [rIn, rMi, rGo, rSc, rndV]; done) | (simp_all [rIn, rMi, rGo, rSc, rndV]; omega) | fail) (by first | (simp_all [rIn, rMi, rGo, rSc, rndV]; done) | (simp_all [rIn, rMi, rGo, rSc, rndV]; omega) | fail)]; rfl)
    | (rw [rnd_step (k := 0) (ms := c.miss) (go := c.good) (v := v) (u := u) hu (a := v.inn 0) (m := upZ (v.miss 0)) (x := 0) (s := penZ (v.score 0)) (by first | (simp_all [rIn, rMi, rGo, rSc, rndV]; done) | (simp_all [rIn, rMi, rGo, rSc, rndV]; omega) | fail) (by first | (simp_all [rIn, rMi, rGo, rSc, rndV]; done) | (simp_all [rIn, rMi, rGo, rSc, rndV]; omega) | fail) (by first | (simp_all [rIn, rMi, rGo, rSc, rndV]; done) | (simp_all [rIn, rMi, rGo, rSc, rndV]; omega) | fail) (by first | (simp_all [rIn, rMi, rGo, rSc, rndV]; done) | (simp_all [rIn, rMi, rGo, rSc, rndV]; omega) | fail)]; rfl)
    | (simp_all [allT, scP]; done)
    | (simp_all [allT, scP]; omega)
set_option maxRecDepth 100000 in
theorem rd_st1 (c : Cfg) (v w : Vw) (hk : 1 < c.np) (hp : PosV v) : ∃ p r, mrR Tryz.prog c (rndV ⟨1, c.miss, c.good⟩ v) w 1 p = some r ∧ RdNx c v w 1 r := by
  obtain ⟨p1, p2, p3⟩ := hp 1 (by omega)
  obtain ⟨u, hu⟩ : ∃ u, rndV ⟨1, c.miss, c.good⟩ v = u := ⟨_, rfl⟩
  have e1 : u.inn 1 = v.inn 1 := by rw [← hu]; rfl
  have e2 : u.got 1 = v.got 1 := by rw [← hu]; rfl
  have e3 : u.miss 1 = v.miss 1 := by rw [← hu]; rfl
  have e4 : u.good 1 = v.good 1 := by rw [← hu]; rfl
  have e5 : u.score 1 = v.score 1 := by rw [← hu]; rfl
  have w1 := upZ_wrap p1
  have w2 := upZ_wrap p2
  rw [hu]
  refine mr1 c u w _ ?_
  simp only [e1, e2, e3, e4, e5, w1, w2]
  (repeat' (first | refine ⟨fun h => ?_, fun h => ?_⟩ | fail))
  all_goals (first | (exfalso; simp_all; done) | skip)
  all_goals (refine ⟨?_, rfl, by dsimp only; omega, rfl, rfl, rfl, ?_⟩)
  all_goals first
    | (rw [rnd_step (k := 1) (ms := c.miss) (go := c.good) (v := v) (u := u) hu (a := true) (m := 0) (x := upZ (v.good 1)) (s := rewZ (v.score 1)) (by first | (simp_all [rIn, rMi, rGo, rSc, rndV]; done) | (simp_all [rIn, rMi, rGo, rSc, rndV]; omega) | fail) (by first | (simp_all [rIn, rMi, rGo, rSc, rndV]; done) | (simp_all [rIn, rMi, rGo, rSc, rndV]; omega) | fail) (by first | (simp_all [rIn, rMi, rGo, rSc, rndV]; done) | (simp_all [rIn, rMi, rGo, rSc, rndV]; omega) | fail) (by first | (simp_all [rIn, rMi, rGo, rSc, rndV]; done) | (simp_all [rIn, rMi, rGo, rSc, rndV]; omega) | fail)]; rfl)
    | (rw [rnd_step (k := 1) (ms := c.miss) (go := c.good) (v := v) (u := u) hu (a := true) (m := upZ (v.miss 1)) (x := 0) (s := penZ (v.score 1)) (by first | (simp_all [rIn, rMi, rGo, rSc, rndV]; done) | (simp_all [rIn, rMi, rGo, rSc, rndV]; omega) | fail) (by first | (simp_all [rIn, rMi, rGo, rSc, rndV]; done) | (simp_all [rIn, rMi, rGo, rSc, rndV]; omega) | fail) (by first | (simp_all [rIn, rMi, rGo, rSc, rndV]; done) | (simp_all [rIn, rMi, rGo, rSc, rndV]; omega) | fail) (by first | (simp_all [rIn, rMi, rGo, rSc, rndV]; done) | (simp_all [rIn, rMi, rGo, rSc, rndV]; omega) | fail)]; rfl)
    | (rw [rnd_step (k := 1) (ms := c.miss) (go := c.good) (v := v) (u := u) hu (a := false) (m := 0) (x := upZ (v.good 1)) (s := rewZ (v.score 1)) (by first | (simp_all [rIn, rMi, rGo, rSc, rndV]; done) | (simp_all [rIn, rMi, rGo, rSc, rndV]; omega) | fail) (by first | (simp_all [rIn, rMi, rGo, rSc, rndV]; done) | (simp_all [rIn, rMi, rGo, rSc, rndV]; omega) | fail) (by first | (simp_all [rIn, rMi, rGo, rSc, rndV]; done) | (simp_all [rIn, rMi, rGo, rSc, rndV]; omega) | fail) (by first | (simp_all [rIn, rMi, rGo, rSc, rndV]; done) | (simp_all [rIn, rMi, rGo, rSc, rndV]; omega) | fail)]; rfl)
    | (rw [rnd_step (k := 1) (ms := c.miss) (go := c.good) (v := v) (u := u) hu (a := false) (m := upZ (v.miss 1)) (x := 0) (s := penZ (v.score 1)) (by first | (simp_all [rIn, rMi, rGo, rSc, rndV]; done) | (simp_all [rIn, rMi, rGo, rSc, rndV]; omega) | fail) (by first | (simp_all [rIn, rMi, rGo, rSc, rndV]; done) | (simp_all [rIn, rMi, rGo, rSc, rndV]; omega) | fail) (by first | (simp_all [rIn, rMi, rGo, rSc, rndV]; done) | (simp_all [rIn, rMi, rGo, rSc, rndV]; omega) | fail) (by first | (simp_all [rIn, rMi, rGo, rSc, rndV]; done) | (simp_all [rIn, rMi, rGo, rSc, rndV]; omega) | fail)]; rfl)
    | (rw [rnd_step (k := 1) (ms := c.miss) (go := c.good) (v := v) (u := u) hu (a := v.inn 1) (m := 0) (x := upZ (v.good 1)) (s := rewZ (v.score 1)) (by first | (simp_all [rIn, rMi, rGo, rSc, rndV]; done) | (simp_all [rIn, rMi, rGo, rSc, rndV]; omega) | fail) (by first | (simp_all [rIn, rMi, rGo, rSc, rndV]; done) | (simp_all [rIn, rMi, rGo, rSc, rndV]; omega) | fail) (by first | (simp_all [rIn, rMi, rGo, rSc, rndV]; done) | (simp_all [rIn, rMi, rGo, rSc, rndV]; omega) | fail) (by first | (simp_all [rIn, rMi, rGo, rSc, rndV]; done) | (simp_all [rIn, rMi, rGo, rSc, rndV]; omega) | fail)]; rfl)
    | (rw [rnd_step (k := 1) (ms := c.miss) (go := c.good) (v := v) (u := u) hu (a := v.inn 1) (m := upZ (v.miss 1)) (x := 0) (s := penZ (v.score 1)) (by first | (simp_all [rIn, rMi, rGo, rSc, rndV]; done) | (simp_all [rIn, rMi, rGo, rSc, rndV]; omega) | fail) (by first | (simp_all [rIn, rMi, rGo, rSc, rndV]; done) | (simp_all [rIn, rMi, rGo, rSc, rndV]; omega) | fail) (by first | (simp_all [rIn, rMi, rGo, rSc, rndV]; done) | (simp_all [rIn, rMi, rGo, rSc, rndV]; omega) | fail) (by first | (simp_all [rIn, rMi, rGo, rSc, rndV]; done) | (simp_all [rIn, rMi, rGo, rSc, rndV]; omega) | fail)]; rfl)
    | (simp_all [allT, scP]; done)
    | (simp_all [allT, scP]; omega)
set_option maxRecDepth 100000 in
theorem rd_st2 (c : Cfg) (v w : Vw) (hk : 2 < c.np) (hp : PosV v) : ∃ p r, mrR Tryz.prog c (rndV ⟨2, c.miss, c.good⟩ v) w 2 p = some r ∧ RdNx c v w 2 r := by
  obtain ⟨p1, p2, p3⟩ := hp 2 (by omega)
  obtain ⟨u, hu⟩ : ∃ u, rndV ⟨2, c.miss, c.good⟩ v = u := ⟨_, rfl⟩
  have e1 : u.inn 2 = v.inn 2 := by rw [← hu]; rfl
  have e2 : u.got 2 = v.got 2 := by rw [← hu]; rfl
  have e3 : u.miss 2 = v.miss 2 := by rw [← hu]; rfl
  have e4 : u.good 2 = v.good 2 := by rw [← hu]; rfl
  have e5 : u.score 2 = v.score 2 := by rw [← hu]; rfl
  have w1 := upZ_wrap p1
  have w2 := upZ_wrap p2
  rw [hu]
  refine mr2 c u w _ ?_
  simp only [e1, e2, e3, e4, e5, w1, w2]
  (repeat' (first | refine ⟨fun h => ?_, fun h => ?_⟩ | fail))
  all_goals (first | (exfalso; simp_all; done) | skip)
  all_goals (refine ⟨?_, rfl, by dsimp only; omega, rfl, rfl, rfl, ?_⟩)
  all_goals first
    | (rw [rnd_step (k := 2) (ms := c.miss) (go := c.good) (v := v) (u := u) hu (a := true) (m := 0) (x := upZ (v.good 2)) (s := rewZ (v.score 2)) (by first | (simp_all [rIn, rMi, rGo, rSc, rndV]; done) | (simp_all [rIn, rMi, rGo, rSc, rndV]; omega) | fail) (by first | (simp_all [rIn, rMi, rGo, rSc, rndV]; done) | (simp_all [rIn, rMi, rGo, rSc, rndV]; omega) | fail) (by first | (simp_all [rIn, rMi, rGo, rSc, rndV]; done) | (simp_all [rIn, rMi, rGo, rSc, rndV]; omega) | fail) (by first | (simp_all [rIn, rMi, rGo, rSc, rndV]; done) | (simp_all [rIn, rMi, rGo, rSc, rndV]; omega) | fail)]; rfl)
    | (rw [rnd_step (k := 2) (ms := c.miss) (go := c.good) (v := v) (u := u) hu (a := true) (m := upZ (v.miss 2)) (x := 0) (s := penZ (v.score 2)) (by first | (simp_all [rIn, rMi, rGo, rSc, rndV]; done) | (simp_all [rIn, rMi, rGo, rSc, rndV]; omega) | fail) (by first | (simp_all [rIn, rMi, rGo, rSc, rndV]; done) | (simp_all [rIn, rMi, rGo, rSc, rndV]; omega) | fail) (by first | (simp_all [rIn, rMi, rGo, rSc, rndV]; done) | (simp_all [rIn, rMi, rGo, rSc, rndV]; omega) | fail) (by first | (simp_all [rIn, rMi, rGo, rSc, rndV]; done) | (simp_all [rIn, rMi, rGo, rSc, rndV]; omega) | fail)]; rfl)
    | (rw [rnd_step (k := 2) (ms := c.miss) (go := c.good) (v := v) (u := u) hu (a := false) (m := 0) (x := upZ (v.good 2)) (s := rewZ (v.score 2)) (by first | (simp_all [rIn, rMi, rGo, rSc, rndV]; done) | (simp_all [rIn, rMi, rGo, rSc, rndV]; omega) | fail) (by first | (simp_all [rIn, rMi, rGo, rSc, rndV]; done) | (simp_all [rIn, rMi, rGo, rSc, rndV]; omega) | fail) (by first | (simp_all [rIn, rMi, rGo, rSc, rndV]; done) | (simp_all [rIn, rMi, rGo, rSc, rndV]; omega) | fail) (by first | (simp_all [rIn, rMi, rGo, rSc, rndV]; done) | (simp_all [rIn, rMi, rGo, rSc, rndV]; omega) | fail)]; rfl)
    | (rw [rnd_step (k := 2) (ms := c.miss) (go := c.good) (v := v) (u := u) hu (a := false) (m := upZ (v.miss 2)) (x := 0) (s := penZ (v.score 2)) (by first | (simp_all [rIn, rMi, rGo, rSc, rndV]; done) | (simp_all [rIn, rMi, rGo, rSc, rndV]; omega) | fail) (by first | (simp_all [rIn, rMi, rGo, rSc, rndV]; done) | (simp_all [rIn, rMi, rGo, rSc, rndV]; omega) | fail) (by first | (simp_all [rIn, rMi, rGo, rSc, rndV]; done) | (simp_all [rIn, rMi, rGo, rSc, rndV]; omega) | fail) (by first | (simp_all [rIn, rMi, rGo, rSc, rndV]; done) | (simp_all [rIn, rMi, rGo, rSc, rndV]; omega) | fail)]; rfl)
    | (rw [rnd_step (k := 2) (ms := c.miss) (go := c.good) (v := v) (u := u) hu (a := v.inn 2) (m := 0) (x := upZ (v.good 2)) (s := rewZ (v.score 2)) (by first | (simp_all [rIn, rMi, rGo, rSc, rndV]; done) | (simp_all [rIn, rMi, rGo, rSc, rndV]; omega) | fail) (by first | (simp_all [rIn, rMi, rGo, rSc, rndV]; done) | (simp_all [rIn, rMi, rGo, rSc, rndV]; omega) | fail) (by first | (simp_all [rIn, rMi, rGo, rSc, rndV]; done) | (simp_all [rIn, rMi, rGo, rSc, rndV]; omega) | fail) (by first | (simp_all [rIn, rMi, rGo, rSc, rndV]; done) | (simp_all [rIn, rMi, rGo, rSc, rndV]; omega) | fail)]; rfl)
    | (rw [rnd_step (k := 2) (ms := c.miss) (go := c.good) (v := v) (u := u) hu (a := v.inn 2) (m := upZ (v.miss 2)) (x := 0) (s := penZ (v.score 2)) (by first | (simp_all [rIn, rMi, rGo, rSc, rndV]; done) | (simp_all [rIn, rMi, rGo, rSc, rndV]; omega) | fail) (by first | (simp_all [rIn, rMi, rGo, rSc, rndV]; done) | (simp_all [rIn, rMi, rGo, rSc, rndV]; omega) | fail) (by first | (simp_all [rIn, rMi, rGo, rSc, rndV]; done) | (simp_all [rIn, rMi, rGo, rSc, rndV]; omega) | fail) (by first | (simp_all [rIn, rMi, rGo, rSc, rndV]; done) | (simp_all [rIn, rMi, rGo, rSc, rndV]; omega) | fail)]; rfl)
    | (simp_all [allT, scP]; done)
    | (simp_all [allT, scP]; omega)
set_option maxRecDepth 100000 in
theorem rd_st3 (c : Cfg) (v w : Vw) (hk : 3 < c.np) (hp : PosV v) : ∃ p r, mrR Tryz.prog c (rndV ⟨3, c.miss, c.good⟩ v) w 3 p = some r ∧ RdNx c v w 3 r := by
  obtain ⟨p1, p2, p3⟩ := hp 3 (by omega)
  obtain ⟨u, hu⟩ : ∃ u, rndV ⟨3, c.miss, c.good⟩ v = u := ⟨_, rfl⟩
  have e1 : u.inn 3 = v.inn 3 := by rw [← hu]; rfl
  have e2 : u.got 3 = v.got 3 := by rw [← hu]; rfl
  have e3 : u.miss 3 = v.miss 3 := by rw [← hu]; rfl
  have e4 : u.good 3 = v.good 3 := by rw [← hu]; rfl
  have e5 : u.score 3 = v.score 3 := by rw [← hu]; rfl
  have w1 := upZ_wrap p1
  have w2 := upZ_wrap p2
  rw [hu]
  refine mr3 c u w _ ?_
  simp only [e1, e2, e3, e4, e5, w1, w2]
  (repeat' (first | refine ⟨fun h => ?_, fun h => ?_⟩ | fail))
  all_goals (first | (exfalso; simp_all; done) | skip)
  all_goals (refine ⟨?_, rfl, by dsimp only; omega, rfl, rfl, rfl, ?_⟩)
  all_goals first
    | (rw [rnd_step (k := 3) (ms := c.miss) (go := c.good) (v := v) (u := u) hu (a := true) (m := 0) (x := upZ (v.good 3)) (s := rewZ (v.score 3)) (by first | (simp_all [rIn, rMi, rGo, rSc, rndV]; done) | (simp_all [rIn, rMi, rGo, rSc, rndV]; omega) | fail) (by first | (simp_all [rIn, rMi, rGo, rSc, rndV]; done) | (simp_all [rIn, rMi, rGo, rSc, rndV]; omega) | fail) (by first | (simp_all [rIn, rMi, rGo, rSc, rndV]; done) | (simp_all [rIn, rMi, rGo, rSc, rndV]; omega) | fail) (by first | (simp_all [rIn, rMi, rGo, rSc, rndV]; done) | (simp_all [rIn, rMi, rGo, rSc, rndV]; omega) | fail)]; rfl)
    | (rw [rnd_step (k := 3) (ms := c.miss) (go := c.good) (v := v) (u := u) hu (a := true) (m := upZ (v.miss 3)) (x := 0) (s := penZ (v.score 3)) (by first | (simp_all [rIn, rMi, rGo, rSc, rndV]; done) | (simp_all [rIn, rMi, rGo, rSc, rndV]; omega) | fail) (by first | (simp_all [rIn, rMi, rGo, rSc, rndV]; done) | (simp_all [rIn, rMi, rGo, rSc, rndV]; omega) | fail) (by first | (simp_all [rIn, rMi, rGo, rSc, rndV]; done) | (simp_all [rIn, rMi, rGo, rSc, rndV]; omega) | fail) (by first | (simp_all [rIn, rMi, rGo, rSc, rndV]; done) | (simp_all [rIn, rMi, rGo, rSc, rndV]; omega) | fail)]; rfl)
    | (rw [rnd_step (k := 3) (ms := c.miss) (go := c.good) (v := v) (u := u) hu (a := false) (m := 0) (x := upZ (v.good 3)) (s := rewZ (v.score 3)) (by first | (simp_all [rIn, rMi, rGo, rSc, rndV]; done) | (simp_all [rIn, rMi, rGo, rSc, rndV]; omega) | fail) (by first | (simp_all [rIn, rMi, rGo, rSc, rndV]; done) | (simp_all [rIn, rMi, rGo, rSc, rndV]; omega) | fail) (by first | (simp_all [rIn, rMi, rGo, rSc, rndV]; done) | (simp_all [rIn, rMi, rGo, rSc, rndV]; omega) | fail) (by first | (simp_all [rIn, rMi, rGo, rSc, rndV]; done) | (simp_all [rIn, rMi, rGo, rSc, rndV]; omega) | fail)]; rfl)
    | (rw [rnd_step (k := 3) (ms := c.miss) (go := c.good) (v := v) (u := u) hu (a := false) (m := upZ (v.miss 3)) (x := 0) (s := penZ (v.score 3)) (by first | (simp_all [rIn, rMi, rGo, rSc, rndV]; done) | (simp_all [rIn, rMi, rGo, rSc, rndV]; omega) | fail) (by first | (simp_all [rIn, rMi, rGo, rSc, rndV]; done) | (simp_all [rIn, rMi, rGo, rSc, rndV]; omega) | fail) (by first | (simp_all [rIn, rMi, rGo, rSc, rndV]; done) | (simp_all [rIn, rMi, rGo, rSc, rndV]; omega) | fail) (by first | (simp_all [rIn, rMi, rGo, rSc, rndV]; done) | (simp_all [rIn, rMi, rGo, rSc, rndV]; omega) | fail)]; rfl)
    | (rw [rnd_step (k := 3) (ms := c.miss) (go := c.good) (v := v) (u := u) hu (a := v.inn 3) (m := 0) (x := upZ (v.good 3)) (s := rewZ (v.score 3)) (by first | (simp_all [rIn, rMi, rGo, rSc, rndV]; done) | (simp_all [rIn, rMi, rGo, rSc, rndV]; omega) | fail) (by first | (simp_all [rIn, rMi, rGo, rSc, rndV]; done) | (simp_all [rIn, rMi, rGo, rSc, rndV]; omega) | fail) (by first | (simp_all [rIn, rMi, rGo, rSc, rndV]; done) | (simp_all [rIn, rMi, rGo, rSc, rndV]; omega) | fail) (by first | (simp_all [rIn, rMi, rGo, rSc, rndV]; done) | (simp_all [rIn, rMi, rGo, rSc, rndV]; omega) | fail)]; rfl)
    | (rw [rnd_step (k := 3) (ms := c.miss) (go := c.good) (v := v) (u := u) hu (a := v.inn 3) (m := upZ (v.miss 3)) (x := 0) (s := penZ (v.score 3)) (by first | (simp_all [rIn, rMi, rGo, rSc, rndV]; done) | (simp_all [rIn, rMi, rGo, rSc, rndV]; omega) | fail) (by first | (simp_all [rIn, rMi, rGo, rSc, rndV]; done) | (simp_all [rIn, rMi, rGo, rSc, rndV]; omega) | fail) (by first | (simp_all [rIn, rMi, rGo, rSc, rndV]; done) | (simp_all [rIn, rMi, rGo, rSc, rndV]; omega) | fail) (by first | (simp_all [rIn, rMi, rGo, rSc, rndV]; done) | (simp_all [rIn, rMi, rGo, rSc, rndV]; omega) | fail)]; rfl)
    | (simp_all [allT, scP]; done)
    | (simp_all [allT, scP]; omega)
set_option maxRecDepth 100000 in
theorem rd_st4 (c : Cfg) (v w : Vw) (hk : 4 < c.np) (hp : PosV v) : ∃ p r, mrR Tryz.prog c (rndV ⟨4, c.miss, c.good⟩ v) w 4 p = some r ∧ RdNx c v w 4 r := by
  obtain ⟨p1, p2, p3⟩ := hp 4 (by omega)
  obtain ⟨u, hu⟩ : ∃ u, rndV ⟨4, c.miss, c.good⟩ v = u := ⟨_, rfl⟩
  have e1 : u.inn 4 = v.inn 4 := by rw [← hu]; rfl
  have e2 : u.got 4 = v.got 4 := by rw [← hu]; rfl
  have e3 : u.miss 4 = v.miss 4 := by rw [← hu]; rfl
  have e4 : u.good 4 = v.good 4 := by rw [← hu]; rfl
  have e5 : u.score 4 = v.score 4 := by rw [← hu]; rfl
  have w1 := upZ_wrap p1
  have w2 := upZ_wrap p2
  rw [hu]
  refine mr4 c u w _ ?_
  simp only [e1, e2, e3, e4, e5, w1, w2]
  (repeat' (first | refine ⟨fun h => ?_, fun h => ?_⟩ | fail))
  all_goals (first | (exfalso; simp_all; done) | skip)
  all_goals (refine ⟨?_, rfl, by dsimp only; omega, rfl, rfl, rfl, ?_⟩)
  all_goals first
    | (rw [rnd_step (k := 4) (ms := c.miss) (go := c.good) (v := v) (u := u) hu (a := true) (m := 0) (x := upZ (v.good 4)) (s := rewZ (v.score 4)) (by first | (simp_all [rIn, rMi, rGo, rSc, rndV]; done) | (simp_all [rIn, rMi, rGo, rSc, rndV]; omega) | fail) (by first | (simp_all [rIn, rMi, rGo, rSc, rndV]; done) | (simp_all [rIn, rMi, rGo, rSc, rndV]; omega) | fail) (by first | (simp_all [rIn, rMi, rGo, rSc, rndV]; done) | (simp_all [rIn, rMi, rGo, rSc, rndV]; omega) | fail) (by first | (simp_all [rIn, rMi, rGo, rSc, rndV]; done) | (simp_all [rIn, rMi, rGo, rSc, rndV]; omega) | fail)]; rfl)
    | (rw [rnd_step (k := 4) (ms := c.miss) (go := c.good) (v := v) (u := u) hu (a := true) (m := upZ (v.miss 4)) (x := 0) (s := penZ (v.score 4)) (by first | (simp_all [rIn, rMi, rGo, rSc, rndV]; done) | (simp_all [rIn, rMi, rGo, rSc, rndV]; omega) | fail) (by first | (simp_all [rIn, rMi, rGo, rSc, rndV]; done) | (simp_all [rIn, rMi, rGo, rSc, rndV]; omega) | fail) (by first | (simp_all [rIn, rMi, rGo, rSc, rndV]; done) | (simp_all [rIn, rMi, rGo, rSc, rndV]; omega) | fail) (by first | (simp_all [rIn, rMi, rGo, rSc, rndV]; done) | (simp_all [rIn, rMi, rGo, rSc, rndV]; omega) | fail)]; rfl)
    | (rw [rnd_step (k := 4) (ms := c.miss) (go := c.good) (v := v) (u := u) hu (a := false) (m := 0) (x := upZ (v.good 4)) (s := rewZ (v.score 4)) (by first | (simp_all [rIn, rMi, rGo, rSc, rndV]; done) | (simp_all [rIn, rMi, rGo, rSc, rndV]; omega) | fail) (by first | (simp_all [rIn, rMi, rGo, rSc, rndV]; done) | (simp_all [rIn, rMi, rGo, rSc, rndV]; omega) | fail) (by first | (simp_all [rIn, rMi, rGo, rSc, rndV]; done) | (simp_all [rIn, rMi, rGo, rSc, rndV]; omega) | fail) (by first | (simp_all [rIn, rMi, rGo, rSc, rndV]; done) | (simp_all [rIn, rMi, rGo, rSc, rndV]; omega) | fail)]; rfl)
    | (rw [rnd_step (k := 4) (ms := c.miss) (go := c.good) (v := v) (u := u) hu (a := false) (m := upZ (v.miss 4)) (x := 0) (s := penZ (v.score 4)) (by first | (simp_all [rIn, rMi, rGo, rSc, rndV]; done) | (simp_all [rIn, rMi, rGo, rSc, rndV]; omega) | fail) (by first | (simp_all [rIn, rMi, rGo, rSc, rndV]; done) | (simp_all [rIn, rMi, rGo, rSc, rndV]; omega) | fail) (by first | (simp_all [rIn, rMi, rGo, rSc, rndV]; done) | (simp_all [rIn, rMi, rGo, rSc, rndV]; omega) | fail) (by first | (simp_all [rIn, rMi, rGo, rSc, rndV]; done) | (simp_all [rIn, rMi, rGo, rSc, rndV]; omega) | fail)]; rfl)
    | (rw [rnd_step (k := 4) (ms := c.miss) (go := c.good) (v := v) (u := u) hu (a := v.inn 4) (m := 0) (x := upZ (v.good 4)) (s := rewZ (v.score 4)) (by first | (simp_all [rIn, rMi, rGo, rSc, rndV]; done) | (simp_all [rIn, rMi, rGo, rSc, rndV]; omega) | fail) (by first | (simp_all [rIn, rMi, rGo, rSc, rndV]; done) | (simp_all [rIn, rMi, rGo, rSc, rndV]; omega) | fail) (by first | (simp_all [rIn, rMi, rGo, rSc, rndV]; done) | (simp_all [rIn, rMi, rGo, rSc, rndV]; omega) | fail) (by first | (simp_all [rIn, rMi, rGo, rSc, rndV]; done) | (simp_all [rIn, rMi, rGo, rSc, rndV]; omega) | fail)]; rfl)
    | (rw [rnd_step (k := 4) (ms := c.miss) (go := c.good) (v := v) (u := u) hu (a := v.inn 4) (m := upZ (v.miss 4)) (x := 0) (s := penZ (v.score 4)) (by first | (simp_all [rIn, rMi, rGo, rSc, rndV]; done) | (simp_all [rIn, rMi, rGo, rSc, rndV]; omega) | fail) (by first | (simp_all [rIn, rMi, rGo, rSc, rndV]; done) | (simp_all [rIn, rMi, rGo, rSc, rndV]; omega) | fail) (by first | (simp_all [rIn, rMi, rGo, rSc, rndV]; done) | (simp_all [rIn, rMi, rGo, rSc, rndV]; omega) | fail) (by first | (simp_all [rIn, rMi, rGo, rSc, rndV]; done) | (simp_all [rIn, rMi, rGo, rSc, rndV]; omega) | fail)]; rfl)
    | (simp_all [allT, scP]; done)
    | (simp_all [allT, scP]; omega)
set_option maxRecDepth 100000 in
theorem rd_st5 (c : Cfg) (v w : Vw) (hk : 5 < c.np) (hp : PosV v) : ∃ p r, mrR Tryz.prog c (rndV ⟨5, c.miss, c.good⟩ v) w 5 p = some r ∧ RdNx c v w 5 r := by
  obtain ⟨p1, p2, p3⟩ := hp 5 (by omega)
  obtain ⟨u, hu⟩ : ∃ u, rndV ⟨5, c.miss, c.good⟩ v = u := ⟨_, rfl⟩
  have e1 : u.inn 5 = v.inn 5 := by rw [← hu]; rfl
  have e2 : u.got 5 = v.got 5 := by rw [← hu]; rfl
  have e3 : u.miss 5 = v.miss 5 := by rw [← hu]; rfl
  have e4 : u.good 5 = v.good 5 := by rw [← hu]; rfl
  have e5 : u.score 5 = v.score 5 := by rw [← hu]; rfl
  have w1 := upZ_wrap p1
  have w2 := upZ_wrap p2
  rw [hu]
  refine mr5 c u w _ ?_
  simp only [e1, e2, e3, e4, e5, w1, w2]
  (repeat' (first | refine ⟨fun h => ?_, fun h => ?_⟩ | fail))
  all_goals (first | (exfalso; simp_all; done) | skip)
  all_goals (refine ⟨?_, rfl, by dsimp only; omega, rfl, rfl, rfl, ?_⟩)
  all_goals first
    | (rw [rnd_step (k := 5) (ms := c.miss) (go := c.good) (v := v) (u := u) hu (a := true) (m := 0) (x := upZ (v.good 5)) (s := rewZ (v.score 5)) (by first | (simp_all [rIn, rMi, rGo, rSc, rndV]; done) | (simp_all [rIn, rMi, rGo, rSc, rndV]; omega) | fail) (by first | (simp_all [rIn, rMi, rGo, rSc, rndV]; done) | (simp_all [rIn, rMi, rGo, rSc, rndV]; omega) | fail) (by first | (simp_all [rIn, rMi, rGo, rSc, rndV]; done) | (simp_all [rIn, rMi, rGo, rSc, rndV]; omega) | fail) (by first | (simp_all [rIn, rMi, rGo, rSc, rndV]; done) | (simp_all [rIn, rMi, rGo, rSc, rndV]; omega) | fail)]; rfl)
    | (rw [rnd_step (k := 5) (ms := c.miss) (go := c.good) (v := v) (u := u) hu (a := true) (m := upZ (v.miss 5)) (x := 0) (s := penZ (v.score 5)) (by first | (simp_all [rIn, rMi, rGo, rSc, rndV]; done) | (simp_all [rIn, rMi, rGo, rSc, rndV]; omega) | fail) (by first | (simp_all [rIn, rMi, rGo, rSc, rndV]; done) | (simp_all [rIn, rMi, rGo, rSc, rndV]; omega) | fail) (by first | (simp_all [rIn, rMi, rGo, rSc, rndV]; done) | (simp_all [rIn, rMi, rGo, rSc, rndV]; omega) | fail) (by first | (simp_all [rIn, rMi, rGo, rSc, rndV]; done) | (simp_all [rIn, rMi, rGo, rSc, rndV]; omega) | fail)]; rfl)
    | (rw [rnd_step (k := 5) (ms := c.miss) (go := c.good) (v := v) (u := u) hu (a := false) (m := 0) (x := upZ (v.good 5)) (s := rewZ (v.score 5)) (by first | (simp_all [rIn, rMi, rGo, rSc, rndV]; done) | (simp_all [rIn, rMi, rGo, rSc, rndV]; omega) | fail) (by first | (simp_all [rIn, rMi, rGo, rSc, rndV]; done) | (simp_all [rIn, rMi, rGo, rSc, rndV]; omega) | fail) (by first | (simp_all [rIn, rMi, rGo, rSc, rndV]; done) | (simp_all [rIn, rMi, rGo, rSc, rndV]; omega) | fail) (by first | (simp_all [rIn, rMi, rGo, rSc, rndV]; done) | (simp_all [rIn, rMi, rGo, rSc, rndV]; omega) | fail)]; rfl)
    | (rw [rnd_step (k := 5) (ms := c.miss) (go := c.good) (v := v) (u := u) hu (a := false) (m := upZ (v.miss 5)) (x := 0) (s := penZ (v.score 5)) (by first | (simp_all [rIn, rMi, rGo, rSc, rndV]; done) | (simp_all [rIn, rMi, rGo, rSc, rndV]; omega) | fail) (by first | (simp_all [rIn, rMi, rGo, rSc, rndV]; done) | (simp_all [rIn, rMi, rGo, rSc, rndV]; omega) | fail) (by first | (simp_all [rIn, rMi, rGo, rSc, rndV]; done) | (simp_all [rIn, rMi, rGo, rSc, rndV]; omega) | fail) (by first | (simp_all [rIn, rMi, rGo, rSc, rndV]; done) | (simp_all [rIn, rMi, rGo, rSc, rndV]; omega) | fail)]; rfl)
    | (rw [rnd_step (k := 5) (ms := c.miss) (go := c.good) (v := v) (u := u) hu (a := v.inn 5) (m := 0) (x := upZ (v.good 5)) (s := rewZ (v.score 5)) (by first | (simp_all [rIn, rMi, rGo, rSc, rndV]; done) | (simp_all [rIn, rMi, rGo, rSc, rndV]; omega) | fail) (by first | (simp_all [rIn, rMi, rGo, rSc, rndV]; done) | (simp_all [rIn, rMi, rGo, rSc, rndV]; omega) | fail) (by first | (simp_all [rIn, rMi, rGo, rSc, rndV]; done) | (simp_all [rIn, rMi, rGo, rSc, rndV]; omega) | fail) (by first | (simp_all [rIn, rMi, rGo, rSc, rndV]; done) | (simp_all [rIn, rMi, rGo, rSc, rndV]; omega) | fail)]; rfl)
    | (rw [rnd_step (k := 5) (ms := c.miss) (go := c.good) (v := v) (u := u) hu (a := v.inn 5) (m := upZ (v.miss 5)) (x := 0) (s := penZ (v.score 5)) (by first | (simp_all [rIn, rMi, rGo, rSc, rndV]; done) | (simp_all [rIn, rMi, rGo, rSc, rndV]; omega) | fail) (by first | (simp_all [rIn, rMi, rGo, rSc, rndV]; done) | (simp_all [rIn, rMi, rGo, rSc, rndV]; omega) | fail) (by first | (simp_all [rIn, rMi, rGo, rSc, rndV]; done) | (simp_all [rIn, rMi, rGo, rSc, rndV]; omega) | fail) (by first | (simp_all [rIn, rMi, rGo, rSc, rndV]; done) | (simp_all [rIn, rMi, rGo, rSc, rndV]; omega) | fail)]; rfl)
    | (simp_all [allT, scP]; done)
    | (simp_all [allT, scP]; omega)
set_option maxRecDepth 100000 in
theorem rd_st6 (c : Cfg) (v w : Vw) (hk : 6 < c.np) (hp : PosV v) : ∃ p r, mrR Tryz.prog c (rndV ⟨6, c.miss, c.good⟩ v) w 6 p = some r ∧ RdNx c v w 6 r := by
  obtain ⟨p1, p2, p3⟩ := hp 6 (by omega)
  obtain ⟨u, hu⟩ : ∃ u, rndV ⟨6, c.miss, c.good⟩ v = u := ⟨_, rfl⟩
  have e1 : u.inn 6 = v.inn 6 := by rw [← hu]; rfl
  have e2 : u.got 6 = v.got 6 := by rw [← hu]; rfl
  have e3 : u.miss 6 = v.miss 6 := by rw [← hu]; rfl
  have e4 : u.good 6 = v.good 6 := by rw [← hu]; rfl
  have e5 : u.score 6 = v.score 6 := by rw [← hu]; rfl
  have w1 := upZ_wrap p1
  have w2 := upZ_wrap p2
  rw [hu]
  refine mr6 c u w _ ?_
  simp only [e1, e2, e3, e4, e5, w1, w2]
  (repeat' (first | refine ⟨fun h => ?_, fun h => ?_⟩ | fail))
  all_goals (first | (exfalso; simp_all; done) | skip)
  all_goals (refine ⟨?_, rfl, by dsimp only; omega, rfl, rfl, rfl, ?_⟩)
  all_goals first
    | (rw [rnd_step (k := 6) (ms := c.miss) (go := c.good) (v := v) (u := u) hu (a := true) (m := 0) (x := upZ (v.good 6)) (s := rewZ (v.score 6)) (by first | (simp_all [rIn, rMi, rGo, rSc, rndV]; done) | (simp_all [rIn, rMi, rGo, rSc, rndV]; omega) | fail) (by first | (simp_all [rIn, rMi, rGo, rSc, rndV]; done) | (simp_all [rIn, rMi, rGo, rSc, rndV]; omega) | fail) (by first | (simp_all [rIn, rMi, rGo, rSc, rndV]; done) | (simp_all [rIn, rMi, rGo, rSc, rndV]; omega) | fail) (by first | (simp_all [rIn, rMi, rGo, rSc, rndV]; done) | (simp_all [rIn, rMi, rGo, rSc, rndV]; omega) | fail)]; rfl)
    | (rw [rnd_step (k := 6) (ms := c.miss) (go := c.good) (v := v) (u := u) hu (a := true) (m := upZ (v.miss 6)) (x := 0) (s := penZ (v.score 6)) (by first | (simp_all [rIn, rMi, rGo, rSc, rndV]; done) | (simp_all [rIn, rMi, rGo, rSc, rndV]; omega) | fail) (by first | (simp_all [rIn, rMi, rGo, rSc, rndV]; done) | (simp_all [rIn, rMi, rGo, rSc, rndV]; omega) | fail) (by first | (simp_all [rIn, rMi, rGo, rSc, rndV]; done) | (simp_all [rIn, rMi, rGo, rSc, rndV]; omega) | fail) (by first | (simp_all [rIn, rMi, rGo, rSc, rndV]; done) | (simp_all [rIn, rMi, rGo, rSc, rndV]; omega) | fail)]; rfl)
    | (rw [rnd_step (k := 6) (ms := c.miss) (go := c.good) (v := v) (u := u) hu (a := false) (m := 0) (x := upZ (v.good 6)) (s := rewZ (v.score 6)) (by first | (simp_all [rIn, rMi, rGo, rSc, rndV]; done) | (simp_all [rIn, rMi, rGo, rSc, rndV]; omega) | fail) (by first | (simp_all [rIn, rMi, rGo, rSc, rndV]; done) | (simp_all [rIn, rMi, rGo, rSc, rndV]; omega) | fail) (by first | (simp_all [rIn, rMi, rGo, rSc, rndV]; done) | (simp_all [rIn, rMi, rGo, rSc, rndV]; omega) | fail) (by first | (simp_all [rIn, rMi, rGo, rSc, rndV]; done) | (simp_all [rIn, rMi, rGo, rSc, rndV]; omega) | fail)]; rfl)
    | (rw [rnd_step (k := 6) (ms := c.miss) (go := c.good) (v := v) (u := u) hu (a := false) (m := upZ (v.miss 6)) (x := 0) (s := penZ (v.score 6)) (by first | (simp_all [rIn, rMi, rGo, rSc, rndV]; done) | (simp_all [rIn, rMi, rGo, rSc, rndV]; omega) | fail) (by first | (simp_all [rIn, rMi, rGo, rSc, rndV]; done) | (simp_all [rIn, rMi, rGo, rSc, rndV]; omega) | fail) (by first | (simp_all [rIn, rMi, rGo, rSc, rndV]; done) | (simp_all [rIn, rMi, rGo, rSc, rndV]; omega) | fail) (by first | (simp_all [rIn, rMi, rGo, rSc, rndV]; done) | (simp_all [rIn, rMi, rGo, rSc, rndV]; omega) | fail)]; rfl)
    | (rw [rnd_step (k := 6) (ms := c.miss) (go := c.good) (v := v) (u := u) hu (a := v.inn 6) (m := 0) (x := upZ (v.good 6)) (s := rewZ (v.score 6)) (by first | (simp_all [rIn, rMi, rGo, rSc, rndV]; done) | (simp_all [rIn, rMi, rGo, rSc, rndV]; omega) | fail) (by first | (simp_all [rIn, rMi, rGo, rSc, rndV]; done) | (simp_all [rIn, rMi, rGo, rSc, rndV]; omega) | fail) (by first | (simp_all [rIn, rMi, rGo, rSc, rndV]; done) | (simp_all [rIn, rMi, rGo, rSc, rndV]; omega) | fail) (by first | (simp_all [rIn, rMi, rGo, rSc, rndV]; done) | (simp_all [rIn, rMi, rGo, rSc, rndV]; omega) | fail)]; rfl)
    | (rw [rnd_step (k := 6) (ms := c.miss) (go := c.good) (v := v) (u := u) hu (a := v.inn 6) (m := upZ (v.miss 6)) (x := 0) (s := penZ (v.score 6)) (by first | (simp_all [rIn, rMi, rGo, rSc, rndV]; done) | (simp_all [rIn, rMi, rGo, rSc, rndV]; omega) | fail) (by first | (simp_all [rIn, rMi, rGo, rSc, rndV]; done) | (simp_all [rIn, rMi, rGo, rSc, rndV]; omega) | fail) (by first | (simp_all [rIn, rMi, rGo, rSc, rndV]; done) | (simp_all [rIn, rMi, rGo, rSc, rndV]; omega) | fail) (by first | (simp_all [rIn, rMi, rGo, rSc, rndV]; done) | (simp_all [rIn, rMi, rGo, rSc, rndV]; omega) | fail)]; rfl)
    | (simp_all [allT, scP]; done)
    | (simp_all [allT, scP]; omega)
set_option maxRecDepth 100000 in
theorem rd_st7 (c : Cfg) (v w : Vw) (hk : 7 < c.np) (hp : PosV v) : ∃ p r, mrR Tryz.prog c (rndV ⟨7, c.miss, c.good⟩ v) w 7 p = some r ∧ RdNx c v w 7 r := by
  obtain ⟨p1, p2, p3⟩ := hp 7 (by omega)
  obtain ⟨u, hu⟩ : ∃ u, rndV ⟨7, c.miss, c.good⟩ v = u := ⟨_, rfl⟩
  have e1 : u.inn 7 = v.inn 7 := by rw [← hu]; rfl
  have e2 : u.got 7 = v.got 7 := by rw [← hu]; rfl
  have e3 : u.miss 7 = v.miss 7 := by rw [← hu]; rfl
  have e4 : u.good 7 = v.good 7 := by rw [← hu]; rfl
  have e5 : u.score 7 = v.score 7 := by rw [← hu]; rfl
  have w1 := upZ_wrap p1
  have w2 := upZ_wrap p2
  rw [hu]
  refine mr7 c u w _ ?_
  simp only [e1, e2, e3, e4, e5, w1, w2]
  (repeat' (first | refine ⟨fun h => ?_, fun h => ?_⟩ | fail))
  all_goals (first | (exfalso; simp_all; done) | skip)
  all_goals (refine ⟨?_, rfl, by dsimp only; omega, rfl, rfl, rfl, ?_⟩)
  all_goals first
    | (rw [rnd_step (k := 7) (ms := c.miss) (go := c.good) (v := v) (u := u) hu (a := true) (m := 0) (x := upZ (v.good 7)) (s := rewZ (v.score 7)) (by first | (simp_all [rIn, rMi, rGo, rSc, rndV]; done) | (simp_all [rIn, rMi, rGo, rSc, rndV]; omega) | fail) (by first | (simp_all [rIn, rMi, rGo, rSc, rndV]; done) | (simp_all [rIn, rMi, rGo, rSc, rndV]; omega) | fail) (by first | (simp_all [rIn, rMi, rGo, rSc, rndV]; done) | (simp_all [rIn, rMi, rGo, rSc, rndV]; omega) | fail) (by first | (simp_all [rIn, rMi, rGo, rSc, rndV]; done) | (simp_all [rIn, rMi, rGo, rSc, rndV]; omega) | fail)]; rfl)
    | (rw [rnd_step (k := 7) (ms := c.miss) (go := c.good) (v := v) (u := u) hu (a := true) (m := upZ (v.miss 7)) (x := 0) (s := penZ (v.score 7)) (by first | (simp_all [rIn, rMi, rGo, rSc, rndV]; done) | (simp_all [rIn, rMi, rGo, rSc, rndV]; omega) | fail) (by first | (simp_all [rIn, rMi, rGo, rSc, rndV]; done) | (simp_all [rIn, rMi, rGo, rSc, rndV]; omega) | fail) (by first | (simp_all [rIn, rMi, rGo, rSc, rndV]; done) | (simp_all [rIn, rMi, rGo, rSc, rndV]; omega) | fail) (by first | (simp_all [rIn, rMi, rGo, rSc, rndV]; done) | (simp_all [rIn, rMi, rGo, rSc, rndV]; omega) | fail)]; rfl)
    | (rw [rnd_step (k := 7) (ms := c.miss) (go := c.good) (v := v) (u := u) hu (a := false) (m := 0) (x := upZ (v.good 7)) (s := rewZ (v.score 7)) (by first | (simp_all [rIn, rMi, rGo, rSc, rndV]; done) | (simp_all [rIn, rMi, rGo, rSc, rndV]; omega) | fail) (by first | (simp_all [rIn, rMi, rGo, rSc, rndV]; done) | (simp_all [rIn, rMi, rGo, rSc, rndV]; omega) | fail) (by first | (simp_all [rIn, rMi, rGo, rSc, rndV]; done) | (simp_all [rIn, rMi, rGo, rSc, rndV]; omega) | fail) (by first | (simp_all [rIn, rMi, rGo, rSc, rndV]; done) | (simp_all [rIn, rMi, rGo, rSc, rndV]; omega) | fail)]; rfl)
    | (rw [rnd_step (k := 7) (ms := c.miss) (go := c.good) (v := v) (u := u) hu (a := false) (m := upZ (v.miss 7)) (x := 0) (s := penZ (v.score 7)) (by first | (simp_all [rIn, rMi, rGo, rSc, rndV]; done) | (simp_all [rIn, rMi, rGo, rSc, rndV]; omega) | fail) (by first | (simp_all [rIn, rMi, rGo, rSc, rndV]; done) | (simp_all [rIn, rMi, rGo, rSc, rndV]; omega) | fail) (by first | (simp_all [rIn, rMi, rGo, rSc, rndV]; done) | (simp_all [rIn, rMi, rGo, rSc, rndV]; omega) | fail) (by first | (simp_all [rIn, rMi, rGo, rSc, rndV]; done) | (simp_all [rIn, rMi, rGo, rSc, rndV]; omega) | fail)]; rfl)
    | (rw [rnd_step (k := 7) (ms := c.miss) (go := c.good) (v := v) (u := u) hu (a := v.inn 7) (m := 0) (x := upZ (v.good 7)) (s := rewZ (v.score 7)) (by first | (simp_all [rIn, rMi, rGo, rSc, rndV]; done) | (simp_all [rIn, rMi, rGo, rSc, rndV]; omega) | fail) (by first | (simp_all [rIn, rMi, rGo, rSc, rndV]; done) | (simp_all [rIn, rMi, rGo, rSc, rndV]; omega) | fail) (by first | (simp_all [rIn, rMi, rGo, rSc, rndV]; done) | (simp_all [rIn, rMi, rGo, rSc, rndV]; omega) | fail) (by first | (simp_all [rIn, rMi, rGo, rSc, rndV]; done) | (simp_all [rIn, rMi, rGo, rSc, rndV]; omega) | fail)]; rfl)
    | (rw [rnd_step (k := 7) (ms := c.miss) (go := c.good) (v := v) (u := u) hu (a := v.inn 7) (m := upZ (v.miss 7)) (x := 0) (s := penZ (v.score 7)) (by first | (simp_all [rIn, rMi, rGo, rSc, rndV]; done) | (simp_all [rIn, rMi, rGo, rSc, rndV]; omega) | fail) (by first | (simp_all [rIn, rMi, rGo, rSc, rndV]; done) | (simp_all [rIn, rMi, rGo, rSc, rndV]; omega) | fail) (by first | (simp_all [rIn, rMi, rGo, rSc, rndV]; done) | (simp_all [rIn, rMi, rGo, rSc, rndV]; omega) | fail) (by first | (simp_all [rIn, rMi, rGo, rSc, rndV]; done) | (simp_all [rIn, rMi, rGo, rSc, rndV]; omega) | fail)]; rfl)
    | (simp_all [allT, scP]; done)
    | (simp_all [allT, scP]; omega)
end Go.Proofs.YtpgaplcdbbnblaaGreatDoor
end
/- members.Round: its contract. -/
section
namespace Go.Proofs.YtpgaplcdbbnblaaGreatDoor
open Go.RowKit

theorem rdC_low {c : Cfg} {n : Nat} (hn : 1120 ≤ n) : lowB n (rdC c) := by
  have hc : ∀ i, i < 1120 → Nat.blt i n = true := fun i h => by rw [Nat.blt_eq]; omega
  exact low_lit (by simp [lowC, hc])
theorem rd_step (c : Cfg) (v w : Vw) (h8 : c.np ≤ 8) (hp : PosV v) (k : Nat) (hk : k < c.np) : ∃ p r, mrR Tryz.prog c (rndV ⟨k, c.miss, c.good⟩ v) w k p = some r ∧ RdNx c v w k r := by
  have : k < 8 := by omega
  match k, this with
  | 0, _ => exact rd_st0 c v w hk hp
  | 1, _ => exact rd_st1 c v w hk hp
  | 2, _ => exact rd_st2 c v w hk hp
  | 3, _ => exact rd_st3 c v w hk hp
  | 4, _ => exact rd_st4 c v w hk hp
  | 5, _ => exact rd_st5 c v w hk hp
  | 6, _ => exact rd_st6 c v w hk hp
  | 7, _ => exact rd_st7 c v w hk hp
theorem rnd_zero (ms go : Int) (v : Vw) : rndV ⟨0, ms, go⟩ v = v := by
  cases v
  simp [rndV, rIn, rMi, rGo, rSc, rGt]
theorem mr_sum (c : Cfg) (v w : Vw) (h8 : c.np ≤ 8) (hp : PosV v) :
    LoopV Tryz.prog (loopAt Tryz.prog 22 0) rdH rdI ((mrV c 0).map some) [some (vwB v), some (vwB w), some (rdC c)] 99 1134 (mkFr 99 [(3, .c (.ptr 1000 0 0)), (4, .c (.ptr 1001 0 0))]) [(1000, vwB (rndV ⟨c.np, c.miss, c.good⟩ v)), (1001, vwB w)] 100000000000000000000000000000000000000000000000000 (.exit 0) none := by
  have hz := rnd_zero c.miss c.good v
  refine loop_viewE hENrd (fuel := 100) (str := 10000000000000000000000000000000000000000) (nh := 1000000000000000000000000000000000000000000) (S := Nat) (fun k => k ≤ c.np) (fun k => c.np - k) rdH [] rdI (mrV c) (fun k => [vwB (rndV ⟨k, c.miss, c.good⟩ v), vwB w, rdC c]) (by decide) (by decide) (by unfold lim; omega) (s0 := 0) (Nat.zero_le _) (fun _ => ⟨rfl, rfl⟩) (by kernel_rfl) (by rw [hz]; exact BL.refl [vwB v, vwB w, rdC c]) (fun k _ => ⟨rfl, ?_⟩) ?_
  · intro b hb
    simp only [List.mem_cons, List.not_mem_nil, or_false] at hb
    rcases hb with rfl | rfl | rfl
    · exact vwB_low
    · exact vwB_low
    · exact rdC_low (by omega)
  intro k hk
  rcases Nat.lt_or_ge k c.np with hlt | hge
  · obtain ⟨p, r, h1, a1, a2, a3, a4, a5, a6, a7⟩ := rd_step c v w h8 hp k hlt
    exact ⟨p, [], r, h1, a1, a2, a3, a4, .inl ⟨a5, k + 1, hlt, by show c.np - (k + 1) < c.np - k; omega, by rw [a6]; rfl, by rw [a7]; exact BL.refl [vwB (rndV ⟨k + 1, c.miss, c.good⟩ v), vwB w, rdC c]⟩⟩
  · obtain rfl : k = c.np := by omega
    refine (?_ : (∃ p r, mrR Tryz.prog c (rndV ⟨c.np, c.miss, c.good⟩ v) w c.np p = some r ∧ _) → _) (rdE c (rndV ⟨c.np, c.miss, c.good⟩ v) w c.np (StepV 1134 100000000000000000000000000000000000000000000000000 99 rdH [] rdI (fun k => k ≤ c.np) (fun k => c.np - k) (mrV c) (fun k => [vwB (rndV ⟨k, c.miss, c.good⟩ v), vwB w, rdC c]) (.exit 0) [(3, .c (.ptr 1000 0 0)), (4, .c (.ptr 1001 0 0))] [(1000, vwB (rndV ⟨c.np, c.miss, c.good⟩ v)), (1001, vwB w)] c.np) ?_)
    · rintro ⟨p, r, h1, h2⟩
      exact ⟨p, [], r, h1, h2⟩
    · refine ⟨by simp [allT], rfl, by dsimp only; omega, rfl, .inr ⟨by simp, rfl, fun q hq => ?_, fun p hpp => ?_⟩⟩
      · simp only [List.mem_cons, List.not_mem_nil, or_false] at hq
        rcases hq with rfl | rfl
        · exact ⟨rfl, by simp [lkA]⟩
        · exact ⟨rfl, by simp [lkA]⟩
      · simp only [List.mem_cons, List.not_mem_nil, or_false] at hpp
        rcases hpp with rfl | rfl
        · exact ⟨by kernel_rfl, vwB_low, _, List.mem_cons_self .., BEq.refl _⟩
        · exact ⟨by kernel_rfl, vwB_low, _, List.mem_cons_of_mem _ (List.mem_cons_self ..), BEq.refl _⟩
/-- are a view's numbers none below 0? -/
def posL (l : List AC) : Bool := (List.range 8).all fun i => decide (0 ≤ asI (l.getD (8 + i) nov)) && (decide (0 ≤ asI (l.getD (16 + i) nov)) && decide (0 ≤ asI (l.getD (24 + i) nov)))
theorem posL_iff (v : Vw) : posL (vwL v) = true ↔ PosV v := by
  have e : ∀ i, i < 8 → asI ((vwL v).getD (8 + i) nov) = v.miss i ∧ asI ((vwL v).getD (16 + i) nov) = v.good i ∧ asI ((vwL v).getD (24 + i) nov) = v.score i := fun i hi => by
    have a2 := (vw_miss v i hi).1
    have a3 := (vw_good v i hi).1
    have a4 := (vw_score v i hi).1
    simp only [Nat.mul_one, Int.ofNat_eq_natCast, Int.toNat_natCast] at a2 a3 a4
    exact ⟨a2, a3, a4⟩
  unfold posL
  rw [List.all_eq_true]
  constructor
  · intro h i hi
    have h := h i (List.mem_range.2 hi)
    obtain ⟨e1, e2, e3⟩ := e i hi
    rw [e1, e2, e3] at h
    simp only [Bool.and_eq_true, decide_eq_true_eq] at h
    exact h
  · intro h i hi
    have hi := List.mem_range.1 hi
    obtain ⟨e1, e2, e3⟩ := e i hi
    rw [e1, e2, e3]
    simp only [Bool.and_eq_true, decide_eq_true_eq]
    exact h i hi
def mrndR (c : Cfg) (_ : Nat) (_ : Nat → Int) (l : List AC) : List AV → AV
  | [] => .agg (rndL ⟨c.np, c.miss, c.good⟩ l)
  | _ => i64 0
/-- a net that can be given anew -/
def gvPre (c : Cfg) (nq : Nat) : Bool := decide (0 < nq) && (decide (1 ≤ c.np ∧ 1 ≤ c.ns ∧ 1 ≤ c.nb) && (decide (c.np ≤ 1000) && (decide (c.ns ≤ 1000) && (decide (c.nb ≤ 1000) && decide (c.nt ≤ 1000)))))
def rndP (c : Cfg) (nq : Nat) (l : List AC) : List AV → Bool
  | [] => decide (c.np ≤ 8) && (gvPre c nq && posL l)
  | _ => false
def pX (pre : Cfg → Nat → List AC → List AV → Bool) : NetS → Bool
  | ⟨c, nq, _, .agg l :: r⟩ => isVw l && pre c nq l r
  | _ => false
theorem ctVwX_of {G : AMem} (hG : (G.all fun p => Nat.ble lim p.1) = true) {E : Env} (hE : EnvOk E) {f : FuncId} {R : Cfg → Nat → (Nat → Int) → List AC → List AV → AV} {pre : Cfg → Nat → List AC → List AV → Bool} (hf : ∃ (fn : Func) (c : Code), E.P.funcs[f]? = some fn ∧ fn.body = some c) (hres : ∀ c nq fq v r, plainR (R c nq fq v r) = true)
    (run : ∀ c nq fq v r, pre c nq (vwL v) r = true → ∃ p lp q, viewF [] (fCallF E (fC E 300) f (.c (.ptr 5 0 0) :: .agg (vwL v) :: r) 1000 10000000000000000000000000000000000000000 (stA (G ++ netL c nq fq) p lp)) = some q ∧ GoodF (R c nq fq (vwL v) r) q) : CtOk E.P f (ctRd (netRdG G hG) (rV R) (pX pre)) := by
  refine ctRd_ofE hE (netRdG G hG) (fuel := 300) (str := 10000000000000000000000000000000000000000) hf (rV_plain hres) fun s hs => ?_
  unfold pX at hs
  split at hs
  · rename_i c nq fq l r
    rw [Bool.and_eq_true] at hs
    have e := vw_eq hs.1
    rw [e]
    rw [e] at hs
    exact run c nq fq (vwOf l) r hs.2
  · cases hs
def ctRnd : CtF := ctRd netRd (rV mrndR) (pX rndP)
set_option maxRecDepth 100000 in
theorem ct_rnd : CtOk Tryz.prog 22 ctRnd := by
  refine ctVwX_of (G := mS) (by kernel_rfl) (E := ENrd Tryz.prog) hENrd ⟨_, _, Tryz.func22, rfl⟩ (fun c nq fq v r => by unfold mrndR; split <;> rfl) fun c nq fq v r hr => ?_
  unfold rndP at hr
  split at hr
  · simp only [gvPre, Bool.and_eq_true, decide_eq_true_eq] at hr
    obtain ⟨h8, ⟨hq, g1, g2, g3, g4, g5⟩, hp⟩ := hr
    have hp := (posL_iff v).1 hp
    refine (?_ : (∃ p q, vwE (ENrd Tryz.prog) 22 c nq fq v [] p [none, some (rdS (rndV ⟨c.np, c.miss, c.good⟩ v))] = some q ∧ GoodF (.agg (rndL ⟨c.np, c.miss, c.good⟩ (vwL v))) q) → _) (mbRdD c nq fq v (rndV ⟨c.np, c.miss, c.good⟩ v) _ ?_)
    · rintro ⟨p, q, h1, h2⟩
      exact ⟨p, _, q, h1, h2⟩
    · have hs := mr_sum c v vw0 h8 hp
      refine ⟨by rw [rndL_eq]; rfl, (by first | (unfold lim; omega) | (dsimp only; unfold lim; omega)), ?_, fun q hq => ?_⟩
      · simp [allT, cfgK_t, netK_t, intsOk_ints, stsOk_sts, intsOk_s, stsOk_s, isVw_cells, slC, slRow, inb_arr, inb_lit, Vw.len, hq]
        omega
      · rw [List.mem_singleton.1 hq]
        simp only [Nat.zero_add, Option.getD_some, Int.ofNat_eq_natCast, Int.sub_zero, Int.toNat_natCast] at hs ⊢
        exact hs
  · cases hr
end Go.Proofs.YtpgaplcdbbnblaaGreatDoor
end
/- scores.LevelOf, healths.Of, ranks' order, as the evaluator runs them. -/
section
namespace Go.Proofs.YtpgaplcdbbnblaaGreatDoor
open Go.RowKit

theorem rkLv (z : Int) (Q : VF → Prop) (H : (((decide (z < Int.ofNat 16)) = true → Q (.c (.v (.int .u8 (Int.ofNat 0))), [], 1005, [decide (z < Int.ofNat 16) == true], [])) ∧ ((decide (z < Int.ofNat 16)) = false → (((decide (z < Int.ofNat 64)) = true → Q (.c (.v (.int .u8 (Int.ofNat 1))), [], 1008, [decide (z < Int.ofNat 64) == true, decide (z < Int.ofNat 16) == false], [])) ∧ ((decide (z < Int.ofNat 64)) = false → Q (.c (.v (.int .u8 (Int.ofNat 2))), [], 1008, [decide (z < Int.ofNat 64) == false, decide (z < Int.ofNat 16) == false], [])))))) :
    ∃ p r, scE Tryz.prog 160 .u16 z p = some r ∧ Q r :=
  two H
  (fun g1 => ⟨pD 1 1, _, by kernel_rfl, g1⟩)
  (fun g1 => two g1
    (fun g2 => ⟨pD 2 5, _, by kernel_rfl, g2⟩)
    (fun g2 => ⟨pD 2 8, _, by kernel_rfl, g2⟩))
theorem rkOf (c : Cfg) (nq : Nat) (fq : Nat → Int) (v : Vw) (z : Int) (Q : VF → Prop) (H : let zq0 : List Bool := (netK c nq fq) :: true :: []; let zq1 : List Bool := (ABlk.inb (ABlk.mk true false 32 0 (Cs.lit (vwL v))) 0 (0 + Int.toNat z * 1 + 1)) :: (okl Kd.b (List.getD (vwL v) (0 + Int.toNat z * 1) nov)) :: (decide (Int.ofNat 0 ≤ z ∧ z < Int.ofNat 8)) :: (decide (headN c nq fq z < Int.ofNat 0) == false) :: zq0; let zq2 : List Bool := (ABlk.inb (ABlk.mk true false 32 0 (Cs.lit (vwL v))) 0 (24 + Int.toNat z * 1 + 1)) :: (okl (Kd.i .u16) (List.getD (vwL v) (24 + Int.toNat z * 1) nov)) :: (decide (Int.ofNat 0 ≤ z ∧ z < Int.ofNat 8)) :: ((!asB (List.getD (vwL v) (0 + Int.toNat z * 1) nov)) == false) :: zq1; let zq3 : List Bool := (decide (asI (List.getD (vwL v) (24 + Int.toNat z * 1) nov) < Int.ofNat 16) == false) :: zq2; (((decide (headN c nq fq z < Int.ofNat 0)) = true → Q (.c (.v (.int .u8 (Int.ofNat 0))), [], 1007, ((decide (headN c nq fq z < Int.ofNat 0) == true) :: zq0), [])) ∧ ((decide (headN c nq fq z < Int.ofNat 0)) = false → (((!asB (List.getD (vwL v) (0 + Int.toNat z * 1) nov)) = true → Q (.c (.v (.int .u8 (Int.ofNat 3))), [], 1013, (((!asB (List.getD (vwL v) (0 + Int.toNat z * 1) nov)) == true) :: zq1), [])) ∧ ((!asB (List.getD (vwL v) (0 + Int.toNat z * 1) nov)) = false → (((decide (asI (List.getD (vwL v) (24 + Int.toNat z * 1) nov) < Int.ofNat 16)) = true → Q (.c (.v (.int .u8 (Int.ofNat 1))), [], 1024, ((decide (asI (List.getD (vwL v) (24 + Int.toNat z * 1) nov) < Int.ofNat 16) == true) :: zq2), [])) ∧ ((decide (asI (List.getD (vwL v) (24 + Int.toNat z * 1) nov) < Int.ofNat 16)) = false → (((decide (asI (List.getD (vwL v) (24 + Int.toNat z * 1) nov) < Int.ofNat 64)) = true → Q (.c (.v (.int .u8 (Int.ofNat 2))), [], 1027, ((decide (asI (List.getD (vwL v) (24 + Int.toNat z * 1) nov) < Int.ofNat 64) == true) :: zq3), [])) ∧ ((decide (asI (List.getD (vwL v) (24 + Int.toNat z * 1) nov) < Int.ofNat 64)) = false → Q (.c (.v (.int .u8 (Int.ofNat 2))), [], 1027, ((decide (asI (List.getD (vwL v) (24 + Int.toNat z * 1) nov) < Int.ofNat 64) == false) :: zq3), [])))))))))) :
    ∃ p r, vwE (ENf Tryz.prog) 97 c nq fq v [i64 z] p [] = some r ∧ Q r :=
  two H
  (fun g1 => ⟨pD 1 1, _, by kernel_rfl, g1⟩)
  (fun g1 => two g1
    (fun g2 => ⟨pD 2 5, _, by kernel_rfl, g2⟩)
    (fun g2 => two g2
      (fun g3 => ⟨pD 4 17, _, by kernel_rfl, g3⟩)
      (fun g3 => two g3
        (fun g4 => ⟨pD 5 53, _, by kernel_rfl, g4⟩)
        (fun g4 => ⟨pD 5 80, _, by kernel_rfl, g4⟩))))
def toE (P : Program) (s p s' p' : Int) (path : List Dec) : Option VF := viewF [] (fCallF (E1 P) (fC (E1 P) 300) 159 [.agg [.v (.int .u16 s), .v (.int .i64 p)], .agg [.v (.int .u16 s'), .v (.int .i64 p')]] 1000 10000000000000000000000000000000000000000 (stA [] path []))
theorem rkTo (s t s' t' : Int) (Q : VF → Prop) (H : let zq0 : List Bool := ((s' != s') == false) :: ((s != s) == false) :: true :: true :: true :: true :: []; let zq1 : List Bool := ((t' != t') == false) :: ((t != t) == false) :: true :: true :: true :: true :: (decide (s < s') == true) :: zq0; let zq2 : List Bool := (decide (t < t') == false) :: zq1; let zq3 : List Bool := (decide (s < s') == false) :: zq0; let zq4 : List Bool := ((t' != t') == false) :: ((t != t) == false) :: true :: true :: true :: true :: (decide (s > s') == true) :: zq3; let zq5 : List Bool := (decide (t < t') == false) :: zq4; let zq6 : List Bool := ((t' != t') == false) :: ((t != t) == false) :: true :: true :: true :: true :: (decide (s > s') == false) :: zq3; let zq7 : List Bool := (decide (t < t') == false) :: zq6; (((decide (s < s')) = true → (((decide (t < t')) = true → Q (.c (.v (.int .i64 (Int.negSucc 0))), [], 130000000000000000000000000000000000001003, (true :: true :: true :: (decide (t < t') == true) :: zq1), [])) ∧ ((decide (t < t')) = false → (((decide (t > t')) = true → Q (.c (.v (.int .i64 (Int.negSucc 0))), [], 130000000000000000000000000000000000001003, (true :: true :: true :: (decide (t > t') == true) :: zq2), [])) ∧ ((decide (t > t')) = false → Q (.c (.v (.int .i64 (Int.negSucc 0))), [], 130000000000000000000000000000000000001003, (true :: true :: true :: (decide (t > t') == false) :: zq2), [])))))) ∧ ((decide (s < s')) = false → (((decide (s > s')) = true → (((decide (t < t')) = true → Q (.c (.v (.int .i64 (Int.ofNat 1))), [], 130000000000000000000000000000000000001003, (true :: true :: true :: (decide (t < t') == true) :: zq4), [])) ∧ ((decide (t < t')) = false → (((decide (t > t')) = true → Q (.c (.v (.int .i64 (Int.ofNat 1))), [], 130000000000000000000000000000000000001003, (true :: true :: true :: (decide (t > t') == true) :: zq5), [])) ∧ ((decide (t > t')) = false → Q (.c (.v (.int .i64 (Int.ofNat 1))), [], 130000000000000000000000000000000000001003, (true :: true :: true :: (decide (t > t') == false) :: zq5), [])))))) ∧ ((decide (s > s')) = false → (((decide (t < t')) = true → Q (.c (.v (.int .i64 (Int.negSucc 0))), [], 130000000000000000000000000000000000001003, (true :: true :: true :: true :: true :: true :: (decide (t < t') == true) :: zq6), [])) ∧ ((decide (t < t')) = false → (((decide (t > t')) = true → Q (.c (.v (.int .i64 (Int.ofNat 1))), [], 130000000000000000000000000000000000001003, (true :: true :: true :: true :: true :: true :: (decide (t > t') == true) :: zq7), [])) ∧ ((decide (t > t')) = false → Q (.c (.v (.int .i64 (Int.ofNat 0))), [], 130000000000000000000000000000000000001003, (true :: true :: true :: true :: true :: true :: (decide (t > t') == false) :: zq7), [])))))))))) :
    ∃ p r, toE Tryz.prog s t s' t' p = some r ∧ Q r :=
  two H
  (fun g1 => two g1
    (fun g2 => ⟨pD 8 476, _, by kernel_rfl, g2⟩)
    (fun g2 => two g2
      (fun g3 => ⟨pD 9 1448, _, by kernel_rfl, g3⟩)
      (fun g3 => ⟨pD 9 2177, _, by kernel_rfl, g3⟩)))
  (fun g1 => two g1
    (fun g2 => two g2
      (fun g3 => ⟨pD 9 1430, _, by kernel_rfl, g3⟩)
      (fun g3 => two g3
        (fun g4 => ⟨pD 10 4346, _, by kernel_rfl, g4⟩)
        (fun g4 => ⟨pD 10 6533, _, by kernel_rfl, g4⟩)))
    (fun g2 => two g2
      (fun g3 => ⟨pD 11 1457, _, by kernel_rfl, g3⟩)
      (fun g3 => two g3
        (fun g4 => ⟨pD 12 4373, _, by kernel_rfl, g4⟩)
        (fun g4 => ⟨pD 13 6560, _, by kernel_rfl, g4⟩))))
end Go.Proofs.YtpgaplcdbbnblaaGreatDoor
end
/- Contracts of scores.LevelOf, healths.Of, ranks' order. -/
section
namespace Go.Proofs.YtpgaplcdbbnblaaGreatDoor
open Go.RowKit

def levZ (z : Int) : Int := if z < 16 then 0 else if z < 64 then 1 else 2
def levR : List AV → AV
  | [.c (.v (.int .u16 z))] => .c (.v (.int .u8 (levZ z)))
  | _ => i64 0
def levP : List AV → Bool
  | [.c (.v (.int .u16 _))] => true
  | _ => false
def ctLev : CtF := ctRd (pureRd [] rfl) levR levP
theorem ct_lev : CtOk Tryz.prog 160 ctLev := by
  refine ctRd_ofE (E := E1 Tryz.prog) hE1 (pureRd [] rfl) (fuel := 300) (str := 10000000000000000000000000000000000000000) ⟨_, _, Tryz.func160, rfl⟩ (fun s => by unfold levR; split <;> rfl) fun s hs => ?_
  unfold levP at hs
  split at hs
  · rename_i z
    refine (?_ : (∃ p q, scE Tryz.prog 160 .u16 z p = some q ∧ GoodF (.c (.v (.int .u8 (levZ z)))) q) → _) (rkLv z _ ?_)
    · rintro ⟨p, q, h1, h2⟩
      exact ⟨p, [], q, h1, h2⟩
    · (repeat' (first | refine ⟨fun h => ?_, fun h => ?_⟩ | fail))
      all_goals (refine ⟨?_, (by first | (unfold lim; omega) | (dsimp only; unfold lim; omega)), by simp_all [allT], by simp⟩)
      all_goals (simp only [decide_eq_true_eq, decide_eq_false_iff_not, Int.ofNat_eq_natCast, Int.cast_ofNat_Int] at *)
      all_goals (refine congrArg (fun z => AV.c (.v (.int .u8 z))) ?_; unfold levZ)
      all_goals ((repeat' split) <;> first | rfl | (exfalso; omega))
  · cases hs
/-- a pair's health: by the node where it begins, whether it is in, its score -/
def hlZ (hd : Int) (inn : Bool) (score : Int) : Int := if hd < 0 then 0 else if inn = false then 3 else if score < 16 then 1 else 2
def hlR (c : Cfg) (nq : Nat) (fq : Nat → Int) (l : List AC) : List AV → AV
  | [.c (.v (.int .i64 z))] => .c (.v (.int .u8 (hlZ (headN c nq fq z) (asB (l.getD z.toNat nov)) (asI (l.getD (24 + z.toNat) nov)))))
  | _ => i64 0
def ctHl : CtF := ctRd netRd (rV hlR) (pW hrdC)
theorem ct_hl : CtOk Tryz.prog 97 ctHl := by
  refine ctVwW_of (G := mS) (by kernel_rfl) (E := ENf Tryz.prog) hENf ⟨_, _, Tryz.func97, rfl⟩ (fun c nq fq v r => by unfold hlR; split <;> rfl) fun c nq fq v r hr => ?_
  unfold hrdC at hr
  split at hr
  · rename_i z
    have h8 : c.np ≤ 8 := of_decide_eq_true hr
    refine (?_ : (∃ p q, vwE (ENf Tryz.prog) 97 c nq fq v [i64 z] p [] = some q ∧ GoodF (.c (.v (.int .u8 (hlZ (headN c nq fq z) (asB ((vwL v).getD z.toNat nov)) (asI ((vwL v).getD (24 + z.toNat) nov)))))) q) → _) (rkOf c nq fq v z _ ?_)
    · rintro ⟨p, q, h1, h2⟩
      exact ⟨p, [], q, h1, h2⟩
    · by_cases hd : 0 ≤ headN c nq fq z
      · obtain ⟨z0, z1⟩ := headN_in hd
        obtain ⟨k, rfl⟩ := Int.eq_ofNat_of_zero_le z0
        have hk : k < 8 := by omega
        have a0 := vw_inn v k hk
        have b0 := vw_innB v k hk
        obtain ⟨a4, b4⟩ := vw_score v k hk
        simp only [Nat.zero_add, Nat.mul_one, Int.ofNat_eq_natCast, Int.toNat_natCast] at a0 a4 b0 b4
        simp only [Int.ofNat_eq_natCast, Int.toNat_natCast, Nat.zero_add, Nat.mul_one, a0, a4, b0, b4]
        obtain ⟨h, hh⟩ : ∃ h, headN c nq fq (k : Int) = h := ⟨_, rfl⟩
        rw [hh] at hd ⊢
        clear hh
        have hn : ¬ h < 0 := by omega
        obtain ⟨b, hb⟩ : ∃ b, v.inn k = b := ⟨_, rfl⟩
        obtain ⟨sc, hsc⟩ : ∃ b, v.score k = b := ⟨_, rfl⟩
        simp only [hb, hsc]
        cases b
        all_goals (repeat' (first | refine ⟨fun h => ?_, fun h => ?_⟩ | fail))
        all_goals (first | (exfalso; simp at *; done) | (exfalso; simp at *; omega) | skip)
        all_goals (refine ⟨?_, (by first | (unfold lim; omega) | (dsimp only; unfold lim; omega)), ?_, by simp⟩)
        all_goals (simp only [decide_eq_true_eq, decide_eq_false_iff_not, Int.ofNat_eq_natCast, Int.cast_ofNat_Int] at *)
        all_goals first
          | (refine congrArg (fun z => AV.c (.v (.int .u8 z))) ?_; unfold hlZ; (repeat' split) <;> first | rfl | (exfalso; omega) | contradiction)
          | (simp [allT, cfgK_t, netK_t, intsOk_ints, stsOk_sts, intsOk_s, stsOk_s, inb_lit, Vw.len]; omega)
      · have e : decide (headN c nq fq z < 0) = true := decide_eq_true (by omega)
        refine ⟨fun h => ?_, fun h => ?_⟩
        · refine ⟨?_, (by first | (unfold lim; omega) | (dsimp only; unfold lim; omega)), ?_, by simp⟩
          · simp [hlZ, show headN c nq fq z < 0 by omega]
          · simp_all [allT, cfgK_t, netK_t, intsOk_ints, stsOk_sts, intsOk_s, stsOk_s]
        · exfalso
          simp at h
          omega
  · cases hr
/-- which of two stands ahead -/
def toZ (s p s' p' : Int) : Int := if s < s' then -1 else if s' < s then 1 else if p < p' then -1 else if p' < p then 1 else 0
def toR : List AV → AV
  | [.agg [.v (.int .u16 s), .v (.int .i64 p)], .agg [.v (.int .u16 s'), .v (.int .i64 p')]] => i64 (toZ s p s' p')
  | _ => i64 0
def toP : List AV → Bool
  | [.agg [.v (.int .u16 _), .v (.int .i64 _)], .agg [.v (.int .u16 _), .v (.int .i64 _)]] => true
  | _ => false
def ctTo : CtF := ctRd (pureRd [] rfl) toR toP
theorem ct_to : CtOk Tryz.prog 159 ctTo := by
  refine ctRd_ofE (E := E1 Tryz.prog) hE1 (pureRd [] rfl) (fuel := 300) (str := 10000000000000000000000000000000000000000) ⟨_, _, Tryz.func159, rfl⟩ (fun s => by unfold toR; split <;> rfl) fun s hs => ?_
  unfold toP at hs
  split at hs
  · rename_i s t s' t'
    refine (?_ : (∃ p q, toE Tryz.prog s t s' t' p = some q ∧ GoodF (i64 (toZ s t s' t')) q) → _) (rkTo s t s' t' _ ?_)
    · rintro ⟨p, q, h1, h2⟩
      exact ⟨p, [], q, h1, h2⟩
    · (repeat' (first | refine ⟨fun h => ?_, fun h => ?_⟩ | fail))
      all_goals (refine ⟨?_, (by first | (unfold lim; omega) | (dsimp only; unfold lim; omega)), by simp_all [allT], by simp⟩)
      all_goals (simp only [decide_eq_true_eq, decide_eq_false_iff_not, gt_iff_lt] at *)
      all_goals (refine congrArg i64 ?_; unfold toZ)
      all_goals ((repeat' split) <;> first | rfl | (exfalso; omega))
  · cases hs
/-- the number of bits of a number -/
def ctLen : CtF
  | [.c (.v (.int .u64 x))], _, _ => some (i64 (Lib.bitLen x.toNat), [], 0, [decide (0 ≤ x), decide (x ≤ 18446744073709551615)])
  | _, _, _ => none
end Go.Proofs.YtpgaplcdbbnblaaGreatDoor
end
