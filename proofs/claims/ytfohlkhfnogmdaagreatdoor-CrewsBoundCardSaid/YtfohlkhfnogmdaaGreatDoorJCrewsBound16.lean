/- Parts, one behind the other. Parts of a proof. -/
import Derived.Test.YtfohlkhfnogmdaaGreatDoorJCrewsBound10
import Derived.Test.YtfohlkhfnogmdaaGreatDoorJCrewsBound15
import Derived.Test.YtfohlkhfnogmdaaGreatDoorJCrewsBound9
set_option linter.unusedSimpArgs false
set_option linter.unusedVariables false
section
namespace Go.Proofs.YtfohlkhfnogmdaaGreatDoor
open Go.RowKit
def wiR (P : Program) (x lo hi : Int) (path : List Dec) : Option VF := viewF [] (fCallF (E1 P) (fC (E1 P) 300) 41 [i64 x, i64 lo, i64 hi] 1000 10000000000000000000000000000000000000000 (stA [] path []))
theorem wi (x lo hi : Int) (Q : VF → Prop) (H : (((decide (x > hi)) = true → Q (.c (.v (.int .i64 (Int.ofNat 3))), [], 1005, [decide (x > hi) == true], [])) ∧ ((decide (x > hi)) = false → (((decide (x < lo)) = true → Q (.c (.v (.int .i64 (Int.ofNat 1))), [], 1008, [decide (x < lo) == true, decide (x > hi) == false], [])) ∧ ((decide (x < lo)) = false → Q (.c (.v (.int .i64 (Int.ofNat 0))), [], 1008, [decide (x < lo) == false, decide (x > hi) == false], [])))))) :
 ∃ p r, wiR Tryz.prog x lo hi p = some r ∧ Q r :=
 two H
 (fun g1 => ⟨pD 1 1, _, by kernel_rfl, g1⟩)
 (fun g1 => two g1
  (fun g2 => ⟨pD 2 5, _, by kernel_rfl, g2⟩)
  (fun g2 => ⟨pD 2 8, _, by kernel_rfl, g2⟩))
def ctWithin : CtF
 | [.c (.v (.int .i64 x)), .c (.v (.int .i64 lo)), .c (.v (.int .i64 hi))], _, _ => some (i64 (withinF x lo hi), [], 0, [])
 | _, _, _ => none
def ENq (P : Program) : Env := ⟨P, [(41, ctWithin), (42, ctCfg (fun c => bo (pairs4 c)) okPr), (43, ctCfg (fun c => bo (slots4 c)) okSl)]⟩
abbrev nbV (k : Nat) : List AV := [.c (.ptr 1000 0 0), i64 (Int.ofNat k)]
def nbR (P : Program) (c : Cfg) (k : Nat) (path : List Dec) : Option VC :=
 view ([1, 4] ++ [2]) [2, 1000, 3] (fC (ENq P) 300 (loopAt P 8 0) 1000000000000000000000000000000000000000000 10000000000000000000000000000000000000000 (stH 125 [1, 4] [2, 1000, 3] (nbV k) [ints 3 c.nb c.fb, cfgB c, sts c.nt c.ft] path []))
theorem nbt (c : Cfg) (k : Nat) (Q : VC → Prop) (H : let zz2 := (ABlk.mk false false 3 1 (Cs.arr (Cfg.nb c) fun k => List.map AC.v ((fun i => [Value.int IntKind.i64 (Cfg.fb c i)]) k))); let zz0 := [some zz2, some (ABlk.mk true false 25 0 (Cs.lit [AC.v (Value.int IntKind.i64 (Cfg.nodes c)), AC.sl 0 0 0 (Cfg.np c) none, AC.sl 1 0 0 (Cfg.ns c) none, AC.v (Value.int IntKind.i64 (Cfg.long c)), AC.sl 2 0 0 (Cfg.nb c) none, AC.sl 3 0 0 (Cfg.nt c) none, AC.v (Value.int IntKind.i64 (Cfg.miss c)), AC.v (Value.int IntKind.i64 (Cfg.good c)), AC.v (Value.int IntKind.i64 (Cfg.fresh c))])), some (ABlk.mk false false 51 3 (Cs.arr (Cfg.nt c) fun k => List.map AC.v ((fun i => [Value.int IntKind.i64 (Station.node (Cfg.ft c i)), Value.int IntKind.u32 (Station.safe (Cfg.ft c i)), Value.int IntKind.i64 (Station.hold (Cfg.ft c i))]) k)))]; let zz1 := (withinF (Cfg.fb c (0 + Int.toNat (Int.ofNat k))) (Int.ofNat 0) (Int.ofNat 4096) != Int.ofNat 0); let zq0 : List Bool := [true]; let zq1 : List Bool := (ABlk.inb zz2 (0 + Int.toNat (Int.ofNat k)) 1) :: true :: (decide (Int.ofNat 0 ≤ Int.ofNat k ∧ Int.ofNat k < ↑(c.nb))) :: true :: (decide (Int.ofNat k < ↑(c.nb)) == true) :: zq0; (((decide (Int.ofNat k < ↑(c.nb))) = true → ((zz1 = true → Q (Exit.ret, [some (lkA (List.zip [1, 4] (nbV k)) 1), some (lkA (List.zip [1, 4] (nbV k)) 4), some (.c (.v (.int .i64 (withinF (c.fb (0 + Int.toNat (Int.ofNat k))) (Int.ofNat 0) (Int.ofNat 4096)))))], zz0, 125, 1000000000000000000000000000000000000000015, ((zz1 == true) :: zq1), [])) ∧ (zz1 = false → Q (Exit.normal, [some (lkA (List.zip [1, 4] (nbV k)) 1), some (.c (.v (.int .i64 (IntKind.wrap .i64 (Int.ofNat k + Int.ofNat 1))))), some (lkA (List.zip [1, 4] (nbV k)) 2)], zz0, 125, 1000000000000000000000000000000000000000016, ((zz1 == false) :: zq1), [])))) ∧ ((decide (Int.ofNat k < ↑(c.nb))) = false → Q (Exit.exit 0, [some (lkA (List.zip [1, 4] (nbV k)) 1), some (lkA (List.zip [1, 4] (nbV k)) 4), some (lkA (List.zip [1, 4] (nbV k)) 2)], zz0, 125, 1000000000000000000000000000000000000000005, ((decide (Int.ofNat k < ↑(c.nb)) == false) :: zq0), [])))) :
 ∃ p r, nbR Tryz.prog c k p = some r ∧ Q r :=
 two H
 (fun g1 => two g1
  (fun g2 => ⟨pD 2 4, _, by kernel_rfl, g2⟩)
  (fun g2 => ⟨pD 2 7, _, by kernel_rfl, g2⟩))
 (fun g1 => ⟨pD 1 2, _, by kernel_rfl, g1⟩)
def ntR (P : Program) (c : Cfg) (k : Nat) (path : List Dec) : Option VC :=
 view ([1, 5] ++ [2]) [3, 1000] (fC (ENq P) 300 (loopAt P 8 1) 1000000000000000000000000000000000000000000000000000 10000000000000000000000000000000000000000 (stH 125 [1, 5] [3, 1000] (nbV k) [sts c.nt c.ft, cfgB c] path []))
theorem ntt (c : Cfg) (k : Nat) (Q : VC → Prop) (H : let zz1 := (ABlk.mk false false 51 3 (Cs.arr (Cfg.nt c) fun k => List.map AC.v ((fun i => [Value.int IntKind.i64 (Station.node (Cfg.ft c i)), Value.int IntKind.u32 (Station.safe (Cfg.ft c i)), Value.int IntKind.i64 (Station.hold (Cfg.ft c i))]) k))); let zz0 := [some zz1, some (ABlk.mk true false 25 0 (Cs.lit [AC.v (Value.int IntKind.i64 (Cfg.nodes c)), AC.sl 0 0 0 (Cfg.np c) none, AC.sl 1 0 0 (Cfg.ns c) none, AC.v (Value.int IntKind.i64 (Cfg.long c)), AC.sl 2 0 0 (Cfg.nb c) none, AC.sl 3 0 0 (Cfg.nt c) none, AC.v (Value.int IntKind.i64 (Cfg.miss c)), AC.v (Value.int IntKind.i64 (Cfg.good c)), AC.v (Value.int IntKind.i64 (Cfg.fresh c))]))]; let zz2 := (withinF (Station.hold (c.10 (0 + Int.toNat (Int.ofNat k)))) (Int.ofNat 1) (Int.ofNat 100) != Int.ofNat 0); let zz3 := (Station.node (c.10 (0 + Int.toNat (Int.ofNat k))) < Int.ofNat 0); let zz4 := (Station.node (c.10 (0 + Int.toNat (Int.ofNat k))) ≥ Cfg.nodes c); let zq0 : List Bool := [true]; let zq1 : List Bool := true :: true :: true :: (ABlk.inb zz1 (0 + Int.toNat (Int.ofNat k)) 3) :: true :: true :: true :: (decide (Int.ofNat 0 ≤ Int.ofNat k ∧ Int.ofNat k < ↑(c.nt))) :: true :: (decide (Int.ofNat k < ↑(c.nt)) == true) :: zq0; let zq2 : List Bool := true :: true :: true :: true :: (decide zz3 == false) :: zq1; let zq3 : List Bool := true :: true :: (decide zz4 == false) :: zq2; (((decide (Int.ofNat k < ↑(c.nt))) = true → (((decide zz3) = true → Q (Exit.ret, [some (lkA (List.zip [1, 5] (nbV k)) 1), some (lkA (List.zip [1, 5] (nbV k)) 5), some (.c (.v (.int .i64 (Int.ofNat 1))))], zz0, 125, 1000000000000000000000000000000000000000000000000018, ((decide zz3 == true) :: zq1), [])) ∧ ((decide zz3) = false → (((decide zz4) = true → Q (Exit.ret, [some (lkA (List.zip [1, 5] (nbV k)) 1), some (lkA (List.zip [1, 5] (nbV k)) 5), some (.c (.v (.int .i64 (Int.ofNat 1))))], zz0, 125, 1000000000000000000000000000000000000000000000000023, ((decide zz4 == true) :: zq2), [])) ∧ ((decide zz4) = false → ((zz2 = true → Q (Exit.ret, [some (lkA (List.zip [1, 5] (nbV k)) 1), some (lkA (List.zip [1, 5] (nbV k)) 5), some (.c (.v (.int .i64 (withinF (Station.hold (c.10 (0 + Int.toNat (Int.ofNat k)))) (Int.ofNat 1) (Int.ofNat 100)))))], zz0, 125, 1000000000000000000000000000000000000000000000000029, ((zz2 == true) :: zq3), [])) ∧ (zz2 = false → Q (Exit.normal, [some (lkA (List.zip [1, 5] (nbV k)) 1), some (.c (.v (.int .i64 (IntKind.wrap .i64 (Int.ofNat k + Int.ofNat 1))))), some (lkA (List.zip [1, 5] (nbV k)) 2)], zz0, 125, 1000000000000000000000000000000000000000000000000030, ((zz2 == false) :: zq3), [])))))))) ∧ ((decide (Int.ofNat k < ↑(c.nt))) = false → Q (Exit.exit 2, [some (lkA (List.zip [1, 5] (nbV k)) 1), some (lkA (List.zip [1, 5] (nbV k)) 5), some (lkA (List.zip [1, 5] (nbV k)) 2)], zz0, 125, 1000000000000000000000000000000000000000000000000005, ((decide (Int.ofNat k < ↑(c.nt)) == false) :: zq0), [])))) :
 ∃ p r, ntR Tryz.prog c k p = some r ∧ Q r :=
 two H
 (fun g1 => two g1
  (fun g2 => ⟨pD 7 4, _, by kernel_rfl, g2⟩)
  (fun g2 => two g2
   (fun g3 => ⟨pD 7 736, _, by kernel_rfl, g3⟩)
   (fun g3 => two g3
    (fun g4 => ⟨pD 8 3652, _, by kernel_rfl, g4⟩)
    (fun g4 => ⟨pD 8 5839, _, by kernel_rfl, g4⟩))))
 (fun g1 => ⟨pD 1 2, _, by kernel_rfl, g1⟩)
end Go.Proofs.YtfohlkhfnogmdaaGreatDoor
end
section
namespace Go.Proofs.YtfohlkhfnogmdaaGreatDoor
open Go.RowKit
abbrev n4S1 (e : Exit) (l : List (Nat × AV)) (mF : AMem) : LSum := ⟨[1, 4], [2, 1000, 3], mkFr 125 l, mF, 100000000000000000000000000000000000000000000000000, e⟩
abbrev n4S2 (e : Exit) (l : List (Nat × AV)) (mF : AMem) : LSum := ⟨[1, 5], [3, 1000], mkFr 125 l, mF, 10000000000000000000000000000000000000000000000000000, e⟩
def n4R (P : Program) (c : Cfg) (lp : List (Option LSum)) (path : List Dec) : Option VF := viewF [] (fCallF (ENq P) (fC (ENq P) 300) 8 [.agg (cfgC c)] 1000 10000000000000000000000000000000000000000 (stA (cfgM c) path lp))
theorem n4A (c : Cfg) (v : Int) (Q : VF → Prop) (H : let zz0 := (if IntKind.wrap IntKind.i64 (Cfg.nodes c + Int.ofNat 116) > IntKind.wrap IntKind.i64 (IntKind.wrap IntKind.i64 (Int.ofNat 3 * Cfg.nodes c) + Int.ofNat 1) then IntKind.wrap IntKind.i64 (Cfg.nodes c + Int.ofNat 116) else IntKind.wrap IntKind.i64 (IntKind.wrap IntKind.i64 (Int.ofNat 3 * Cfg.nodes c) + Int.ofNat 1)); let zz1 := (withinF (Cfg.nodes c) (Int.ofNat 4) (Int.ofNat 16) != Int.ofNat 0); let zz2 := (withinF (↑(Cfg.np c)) (Int.ofNat 2) (Int.ofNat 8) != Int.ofNat 0); let zz3 := (withinF (↑(Cfg.ns c)) (Int.ofNat 1) (Int.ofNat 16) != Int.ofNat 0); let zz4 := (withinF (Cfg.long c) zz0 (Int.ofNat 4096) != Int.ofNat 0); let zq0 : List Bool := [true, true]; let zq1 : List Bool := true :: (zz1 == false) :: zq0; let zq2 : List Bool := (cfgK c) :: (okPr c) :: true :: true :: true :: true :: true :: true :: (zz2 == false) :: zq1; let zq3 : List Bool := true :: ((!pairs4 c) == false) :: zq2; let zq4 : List Bool := (cfgK c) :: (okSl c) :: true :: true :: true :: true :: true :: true :: (zz3 == false) :: zq3; let zq5 : List Bool := true :: true :: true :: true :: true :: true :: ((!slots4 c) == false) :: zq4; let zq6 : List Bool := true :: true :: true :: (zz4 == false) :: zq5; ((zz1 = true → Q (.c (.v (.int .i64 (withinF (c.nodes) (Int.ofNat 4) (Int.ofNat 16)))), [], 1009, ((zz1 == true) :: zq0), [])) ∧ (zz1 = false → ((zz2 = true → Q (.c (.v (.int .i64 (withinF (↑(c.np)) (Int.ofNat 2) (Int.ofNat 8)))), [], 1015, ((zz2 == true) :: zq1), [])) ∧ (zz2 = false → (((!pairs4 c) = true → Q (.c (.v (.int .i64 (Int.ofNat 1))), [], 1016, (((!pairs4 c) == true) :: zq2), [])) ∧ ((!pairs4 c) = false → ((zz3 = true → Q (.c (.v (.int .i64 (withinF (↑(c.ns)) (Int.ofNat 1) (Int.ofNat 16)))), [], 1023, ((zz3 == true) :: zq3), [])) ∧ (zz3 = false → (((!slots4 c) = true → Q (.c (.v (.int .i64 (Int.ofNat 1))), [], 1024, (((!slots4 c) == true) :: zq4), [])) ∧ ((!slots4 c) = false → ((zz4 = true → Q (.c (.v (.int .i64 (withinF (c.long) zz0 (Int.ofNat 4096)))), [], 1038, ((zz4 == true) :: zq5), [])) ∧ (zz4 = false → (((↑(c.nb) != c.nodes) = true → Q (.c (.v (.int .i64 (Int.ofNat 1))), [], 1043, (((↑(c.nb) != c.nodes) == true) :: zq6), [])) ∧ ((↑(c.nb) != c.nodes) = false → Q (.c (.v (.int .i64 v)), [], 100000000000000000000000000000000000000000000000000, (((↑(c.nb) != c.nodes) == false) :: zq6), [LoopV Tryz.prog (loopAt Tryz.prog 8 0) [1, 4] [2, 1000, 3] [some (.c (.ptr 1000 0 0)), some (.c (.v (.int .i64 (Int.ofNat 0))))] [some (ABlk.mk false false 3 1 (Cs.arr (c.nb) fun k => List.map AC.v ((fun i => [Value.int .i64 (c.fb i)]) k))), some (ABlk.mk true false 25 0 (Cs.lit [.v (.int .i64 (c.nodes)), AC.sl 0 0 0 (c.np) none, AC.sl 1 0 0 (c.ns) none, .v (.int .i64 (c.long)), AC.sl 2 0 0 (c.nb) none, AC.sl 3 0 0 (c.nt) none, .v (.int .i64 (c.miss)), .v (.int .i64 (c.good)), .v (.int .i64 (c.fresh))])), some (ABlk.mk false false 51 3 (Cs.arr (c.nt) fun k => List.map AC.v ((fun i => [Value.int .i64 (Station.node (c.ft i)), Value.int .u32 (Station.safe (c.ft i)), Value.int .i64 (Station.hold (c.ft i))]) k)))] 125 1043 (mkFr 125 [(2, i64 v)]) [] 100000000000000000000000000000000000000000000000000 Exit.ret none])))))))))))))))) :
 ∃ p r, n4R Tryz.prog c [some (n4S1 .ret [(2, i64 v)] [])] p = some r ∧ Q r :=
 two H
 (fun g1 => ⟨pD 1 1, _, by kernel_rfl, g1⟩)
 (fun g1 => two g1
  (fun g2 => ⟨pD 2 5, _, by kernel_rfl, g2⟩)
  (fun g2 => two g2
   (fun g3 => ⟨pD 3 17, _, by kernel_rfl, g3⟩)
   (fun g3 => two g3
    (fun g4 => ⟨pD 4 53, _, by kernel_rfl, g4⟩)
    (fun g4 => two g4
     (fun g5 => ⟨pD 5 161, _, by kernel_rfl, g5⟩)
     (fun g5 => two g5
      (fun g6 => ⟨pD 6 485, _, by kernel_rfl, g6⟩)
      (fun g6 => two g6
       (fun g7 => ⟨pD 7 1457, _, by kernel_rfl, g7⟩)
       (fun g7 => ⟨pD 7 2186, _, by kernel_rfl, g7⟩)))))))
theorem n4B (c : Cfg) (v : Int) (Q : VF → Prop) (H : let zz0 := (if IntKind.wrap IntKind.i64 (Cfg.nodes c + Int.ofNat 116) > IntKind.wrap IntKind.i64 (IntKind.wrap IntKind.i64 (Int.ofNat 3 * Cfg.nodes c) + Int.ofNat 1) then IntKind.wrap IntKind.i64 (Cfg.nodes c + Int.ofNat 116) else IntKind.wrap IntKind.i64 (IntKind.wrap IntKind.i64 (Int.ofNat 3 * Cfg.nodes c) + Int.ofNat 1)); let zz5 := (ABlk.mk true false 25 0 (Cs.lit [AC.v (Value.int IntKind.i64 (Cfg.nodes c)), AC.sl 0 0 0 (Cfg.np c) none, AC.sl 1 0 0 (Cfg.ns c) none, AC.v (Value.int IntKind.i64 (Cfg.long c)), AC.sl 2 0 0 (Cfg.nb c) none, AC.sl 3 0 0 (Cfg.nt c) none, AC.v (Value.int IntKind.i64 (Cfg.miss c)), AC.v (Value.int IntKind.i64 (Cfg.good c)), AC.v (Value.int IntKind.i64 (Cfg.fresh c))])); let zz7 := (ABlk.mk false false 51 3 (Cs.arr (Cfg.nt c) fun k => List.map AC.v ((fun i => [Value.int IntKind.i64 (Station.node (Cfg.ft c i)), Value.int IntKind.u32 (Station.safe (Cfg.ft c i)), Value.int IntKind.i64 (Station.hold (Cfg.ft c i))]) k))); let zz1 := [some (ABlk.mk false false 3 1 (Cs.arr (Cfg.nb c) fun k => List.map AC.v ((fun i => [Value.int IntKind.i64 (Cfg.fb c i)]) k))), some zz5, some zz7]; let zz2 := (withinF (Cfg.nodes c) (Int.ofNat 4) (Int.ofNat 16) != Int.ofNat 0); let zz3 := (withinF (↑(Cfg.np c)) (Int.ofNat 2) (Int.ofNat 8) != Int.ofNat 0); let zz4 := (withinF (↑(Cfg.ns c)) (Int.ofNat 1) (Int.ofNat 16) != Int.ofNat 0); let zz6 := (withinF (Cfg.long c) zz0 (Int.ofNat 4096) != Int.ofNat 0); let zz8 := (withinF (↑(Cfg.nt c)) (Int.ofNat 0) (Int.ofNat 8) != Int.ofNat 0); let zq0 : List Bool := [true, true]; let zq1 : List Bool := true :: (zz2 == false) :: zq0; let zq2 : List Bool := (cfgK c) :: (okPr c) :: true :: true :: true :: true :: true :: true :: (zz3 == false) :: zq1; let zq3 : List Bool := true :: ((!pairs4 c) == false) :: zq2; let zq4 : List Bool := (cfgK c) :: (okSl c) :: true :: true :: true :: true :: true :: true :: (zz4 == false) :: zq3; let zq5 : List Bool := true :: true :: true :: true :: true :: true :: ((!slots4 c) == false) :: zq4; let zq6 : List Bool := true :: true :: true :: (zz6 == false) :: zq5; let zq7 : List Bool := true :: ((↑(c.nb) != c.nodes) == false) :: zq6; ((zz2 = true → Q (.c (.v (.int .i64 (withinF (c.nodes) (Int.ofNat 4) (Int.ofNat 16)))), [], 1009, ((zz2 == true) :: zq0), [])) ∧ (zz2 = false → ((zz3 = true → Q (.c (.v (.int .i64 (withinF (↑(c.np)) (Int.ofNat 2) (Int.ofNat 8)))), [], 1015, ((zz3 == true) :: zq1), [])) ∧ (zz3 = false → (((!pairs4 c) = true → Q (.c (.v (.int .i64 (Int.ofNat 1))), [], 1016, (((!pairs4 c) == true) :: zq2), [])) ∧ ((!pairs4 c) = false → ((zz4 = true → Q (.c (.v (.int .i64 (withinF (↑(c.ns)) (Int.ofNat 1) (Int.ofNat 16)))), [], 1023, ((zz4 == true) :: zq3), [])) ∧ (zz4 = false → (((!slots4 c) = true → Q (.c (.v (.int .i64 (Int.ofNat 1))), [], 1024, (((!slots4 c) == true) :: zq4), [])) ∧ ((!slots4 c) = false → ((zz6 = true → Q (.c (.v (.int .i64 (withinF (c.long) zz0 (Int.ofNat 4096)))), [], 1038, ((zz6 == true) :: zq5), [])) ∧ (zz6 = false → (((↑(c.nb) != c.nodes) = true → Q (.c (.v (.int .i64 (Int.ofNat 1))), [], 1043, (((↑(c.nb) != c.nodes) == true) :: zq6), [])) ∧ ((↑(c.nb) != c.nodes) = false → ((zz8 = true → Q (.c (.v (.int .i64 (withinF (↑(c.nt)) (Int.ofNat 0) (Int.ofNat 8)))), [], 100000000000000000000000000000000000000000000000008, ((zz8 == true) :: zq7), [LoopV Tryz.prog (loopAt Tryz.prog 8 0) [1, 4] [2, 1000, 3] [some (.c (.ptr 1000 0 0)), some (.c (.v (.int .i64 (Int.ofNat 0))))] zz1 125 1043 (mkFr 125 [(1, .c (.ptr 1000 0 0))]) [(1000, cfgB c), (3, sts (c.nt) (c.ft))] 100000000000000000000000000000000000000000000000000 (Exit.exit 0) none])) ∧ (zz8 = false → Q (.c (.v (.int .i64 v)), [], 10000000000000000000000000000000000000000000000000000, ((zz8 == false) :: zq7), [LoopV Tryz.prog (loopAt Tryz.prog 8 1) [1, 5] [3, 1000] [some (.c (.ptr 1000 0 0)), some (.c (.v (.int .i64 (Int.ofNat 0))))] [some zz7, some zz5] 125 100000000000000000000000000000000000000000000000007 (mkFr 125 [(2, i64 v)]) [] 10000000000000000000000000000000000000000000000000000 Exit.ret none, LoopV Tryz.prog (loopAt Tryz.prog 8 0) [1, 4] [2, 1000, 3] [some (.c (.ptr 1000 0 0)), some (.c (.v (.int .i64 (Int.ofNat 0))))] zz1 125 1043 (mkFr 125 [(1, .c (.ptr 1000 0 0))]) [(1000, cfgB c), (3, sts (c.nt) (c.ft))] 100000000000000000000000000000000000000000000000000 (Exit.exit 0) none])))))))))))))))))) :
 ∃ p r, n4R Tryz.prog c [some (n4S1 (.exit 0) [(1, .c (.ptr 1000 0 0))] [(1000, cfgB c), (3, sts c.nt c.ft)]), some (n4S2 .ret [(2, i64 v)] [])] p = some r ∧ Q r :=
 two H
 (fun g1 => ⟨pD 1 1, _, by kernel_rfl, g1⟩)
 (fun g1 => two g1
  (fun g2 => ⟨pD 2 5, _, by kernel_rfl, g2⟩)
  (fun g2 => two g2
   (fun g3 => ⟨pD 3 17, _, by kernel_rfl, g3⟩)
   (fun g3 => two g3
    (fun g4 => ⟨pD 4 53, _, by kernel_rfl, g4⟩)
    (fun g4 => two g4
     (fun g5 => ⟨pD 5 161, _, by kernel_rfl, g5⟩)
     (fun g5 => two g5
      (fun g6 => ⟨pD 6 485, _, by kernel_rfl, g6⟩)
      (fun g6 => two g6
       (fun g7 => ⟨pD 7 1457, _, by kernel_rfl, g7⟩)
       (fun g7 => two g7
        (fun g8 => ⟨pD 8 4373, _, by kernel_rfl, g8⟩)
        (fun g8 => ⟨pD 8 6560, _, by kernel_rfl, g8⟩))))))))
end Go.Proofs.YtfohlkhfnogmdaaGreatDoor
end
section
namespace Go.Proofs.YtfohlkhfnogmdaaGreatDoor
open Go.RowKit
theorem n4C (c : Cfg) (Q : VF → Prop) (H : let zz11 := (ABlk.mk false false 51 3 (Cs.arr (Cfg.nt c) fun k => List.map AC.v ((fun i => [Value.int IntKind.i64 (Station.node (Cfg.ft c i)), Value.int IntKind.u32 (Station.safe (Cfg.ft c i)), Value.int IntKind.i64 (Station.hold (Cfg.ft c i))]) k))); let zz6 := (ABlk.mk true false 25 0 (Cs.lit [AC.v (Value.int IntKind.i64 (Cfg.nodes c)), AC.sl 0 0 0 (Cfg.np c) none, AC.sl 1 0 0 (Cfg.ns c) none, AC.v (Value.int IntKind.i64 (Cfg.long c)), AC.sl 2 0 0 (Cfg.nb c) none, AC.sl 3 0 0 (Cfg.nt c) none, AC.v (Value.int IntKind.i64 (Cfg.miss c)), AC.v (Value.int IntKind.i64 (Cfg.good c)), AC.v (Value.int IntKind.i64 (Cfg.fresh c))])); let zz3 := [some (ABlk.mk false false 3 1 (Cs.arr (Cfg.nb c) fun k => List.map AC.v ((fun i => [Value.int IntKind.i64 (Cfg.fb c i)]) k))), some zz6, some zz11]; let zz0 := [LoopV Tryz.prog (loopAt Tryz.prog 8 1) [1, 5] [3, 1000] [some (AV.c (AC.ptr 1000 0 0)), some (AV.c (AC.v (Value.int IntKind.i64 (Int.ofNat 0))))] [some zz11, some zz6] 125 100000000000000000000000000000000000000000000000007 (mkFr 125 [(1, AV.c (AC.ptr 1000 0 0))]) [(1000, cfgB c)] 10000000000000000000000000000000000000000000000000000 (Exit.exit 2) none, LoopV Tryz.prog (loopAt Tryz.prog 8 0) [1, 4] [2, 1000, 3] [some (AV.c (AC.ptr 1000 0 0)), some (AV.c (AC.v (Value.int IntKind.i64 (Int.ofNat 0))))] zz3 125 1043 (mkFr 125 [(1, AV.c (AC.ptr 1000 0 0))]) [(1000, cfgB c), (3, sts (Cfg.nt c) (Cfg.ft c))] 100000000000000000000000000000000000000000000000000 (Exit.exit 0) none]; let zz8 := (if IntKind.wrap IntKind.i64 (Cfg.nodes c + Int.ofNat 116) > IntKind.wrap IntKind.i64 (IntKind.wrap IntKind.i64 (Int.ofNat 3 * Cfg.nodes c) + Int.ofNat 1) then IntKind.wrap IntKind.i64 (Cfg.nodes c + Int.ofNat 116) else IntKind.wrap IntKind.i64 (IntKind.wrap IntKind.i64 (Int.ofNat 3 * Cfg.nodes c) + Int.ofNat 1)); let zz1 := (withinF (Cfg.long c) zz8 (Int.ofNat 4096) != Int.ofNat 0); let zz2 := (withinF (Cfg.nodes c) (Int.ofNat 4) (Int.ofNat 16) != Int.ofNat 0); let zz4 := (withinF (↑(Cfg.np c)) (Int.ofNat 2) (Int.ofNat 8) != Int.ofNat 0); let zz5 := (withinF (↑(Cfg.ns c)) (Int.ofNat 1) (Int.ofNat 16) != Int.ofNat 0); let zz7 := (withinF (↑(Cfg.nt c)) (Int.ofNat 0) (Int.ofNat 8) != Int.ofNat 0); let zz9 := (withinF (Cfg.miss c) (Int.ofNat 1) (Int.ofNat 100) != Int.ofNat 0); let zz10 := (withinF (Cfg.good c) (Int.ofNat 1) (Int.ofNat 100) != Int.ofNat 0); let zz12 := (withinF (Cfg.fresh c) (Int.ofNat 1) (Int.ofNat 100) != Int.ofNat 0); let zt : List Bool → List Bool := fun l => true :: true :: true :: true :: true :: true :: true :: true :: l; let zq0 : List Bool := [true, true]; let zq1 : List Bool := true :: (zz2 == false) :: zq0; let zq2 : List Bool := (cfgK c) :: (okPr c) :: true :: true :: true :: true :: true :: true :: (zz4 == false) :: zq1; let zq3 : List Bool := true :: ((!pairs4 c) == false) :: zq2; let zq4 : List Bool := (cfgK c) :: (okSl c) :: true :: true :: true :: true :: true :: true :: (zz5 == false) :: zq3; let zq5 : List Bool := true :: true :: true :: true :: true :: true :: ((!slots4 c) == false) :: zq4; let zq6 : List Bool := true :: true :: true :: (zz1 == false) :: zq5; let zq7 : List Bool := true :: ((↑(c.nb) != c.nodes) == false) :: zq6; let zq8 : List Bool := zt (true :: ((zz7 == false) :: zq7)); let zq9 : List Bool := true :: true :: true :: (zz9 == false) :: zq8; let zq10 : List Bool := true :: true :: true :: (zz10 == false) :: zq9; ((zz2 = true → Q (.c (.v (.int .i64 (withinF (c.nodes) (Int.ofNat 4) (Int.ofNat 16)))), [], 1009, ((zz2 == true) :: zq0), [])) ∧ (zz2 = false → ((zz4 = true → Q (.c (.v (.int .i64 (withinF (↑(c.np)) (Int.ofNat 2) (Int.ofNat 8)))), [], 1015, ((zz4 == true) :: zq1), [])) ∧ (zz4 = false → (((!pairs4 c) = true → Q (.c (.v (.int .i64 (Int.ofNat 1))), [], 1016, (((!pairs4 c) == true) :: zq2), [])) ∧ ((!pairs4 c) = false → ((zz5 = true → Q (.c (.v (.int .i64 (withinF (↑(c.ns)) (Int.ofNat 1) (Int.ofNat 16)))), [], 1023, ((zz5 == true) :: zq3), [])) ∧ (zz5 = false → (((!slots4 c) = true → Q (.c (.v (.int .i64 (Int.ofNat 1))), [], 1024, (((!slots4 c) == true) :: zq4), [])) ∧ ((!slots4 c) = false → ((zz1 = true → Q (.c (.v (.int .i64 (withinF (c.long) zz8 (Int.ofNat 4096)))), [], 1038, ((zz1 == true) :: zq5), [])) ∧ (zz1 = false → (((↑(c.nb) != c.nodes) = true → Q (.c (.v (.int .i64 (Int.ofNat 1))), [], 1043, (((↑(c.nb) != c.nodes) == true) :: zq6), [])) ∧ ((↑(c.nb) != c.nodes) = false → ((zz7 = true → Q (.c (.v (.int .i64 (withinF (↑(c.nt)) (Int.ofNat 0) (Int.ofNat 8)))), [], 100000000000000000000000000000000000000000000000008, ((zz7 == true) :: zq7), [LoopV Tryz.prog (loopAt Tryz.prog 8 0) [1, 4] [2, 1000, 3] [some (.c (.ptr 1000 0 0)), some (.c (.v (.int .i64 (Int.ofNat 0))))] zz3 125 1043 (mkFr 125 [(1, .c (.ptr 1000 0 0))]) [(1000, cfgB c), (3, sts (c.nt) (c.ft))] 100000000000000000000000000000000000000000000000000 (Exit.exit 0) none])) ∧ (zz7 = false → ((zz9 = true → Q (.c (.v (.int .i64 (withinF (c.miss) (Int.ofNat 1) (Int.ofNat 100)))), [], 10000000000000000000000000000000000000000000000000020, ((zz9 == true) :: zq8), zz0)) ∧ (zz9 = false → ((zz10 = true → Q (.c (.v (.int .i64 (withinF (c.good) (Int.ofNat 1) (Int.ofNat 100)))), [], 10000000000000000000000000000000000000000000000000032, ((zz10 == true) :: zq9), zz0)) ∧ (zz10 = false → ((zz12 = true → Q (.c (.v (.int .i64 (withinF (c.fresh) (Int.ofNat 1) (Int.ofNat 100)))), [], 10000000000000000000000000000000000000000000000000044, ((zz12 == true) :: zq10), zz0)) ∧ (zz12 = false → Q (.c (.v (.int .i64 (Int.ofNat 0))), [], 10000000000000000000000000000000000000000000000000048, ((zz12 == false) :: zq10), zz0)))))))))))))))))))))))) :
 ∃ p r, n4R Tryz.prog c [some (n4S1 (.exit 0) [(1, .c (.ptr 1000 0 0))] [(1000, cfgB c), (3, sts c.nt c.ft)]), some (n4S2 (.exit 2) [(1, .c (.ptr 1000 0 0))] [(1000, cfgB c)])] p = some r ∧ Q r :=
 two H
 (fun g1 => ⟨pD 1 1, _, by kernel_rfl, g1⟩)
 (fun g1 => two g1
  (fun g2 => ⟨pD 2 5, _, by kernel_rfl, g2⟩)
  (fun g2 => two g2
   (fun g3 => ⟨pD 3 17, _, by kernel_rfl, g3⟩)
   (fun g3 => two g3
    (fun g4 => ⟨pD 4 53, _, by kernel_rfl, g4⟩)
    (fun g4 => two g4
     (fun g5 => ⟨pD 5 161, _, by kernel_rfl, g5⟩)
     (fun g5 => two g5
      (fun g6 => ⟨pD 6 485, _, by kernel_rfl, g6⟩)
      (fun g6 => two g6
       (fun g7 => ⟨pD 7 1457, _, by kernel_rfl, g7⟩)
       (fun g7 => two g7
        (fun g8 => ⟨pD 8 4373, _, by kernel_rfl, g8⟩)
        (fun g8 => two g8
         (fun g9 => ⟨pD 10 26243, _, by kernel_rfl, g9⟩)
         (fun g9 => two g9
          (fun g10 => ⟨pD 12 223073, _, by kernel_rfl, g10⟩)
          (fun g10 => two g10
           (fun g11 => ⟨pD 14 1994543, _, by kernel_rfl, g11⟩)
           (fun g11 => ⟨pD 15 3588866, _, by kernel_rfl, g11⟩)))))))))))
end Go.Proofs.YtfohlkhfnogmdaaGreatDoor
end
section
namespace Go.Proofs.YtfohlkhfnogmdaaGreatDoor
open Go.RowKit
theorem jjdk : CtOk Tryz.prog 41 ctWithin := by
 refine ⟨⟨_, _, Tryz.func41, rfl⟩, fun C β m m2 w args ib r news k' ob vs hct ho hs hr hfree hlim hv => ?_⟩; unfold ctWithin at hct; split at hct
 · rename_i x lo hi
   simp only [Option.some.injEq, Prod.mk.injEq] at hct; obtain ⟨rfl, rfl, rfl, rfl⟩ := hct; cases hv
   have run : ∃ p r, wiR Tryz.prog x lo hi p = some r ∧ (r.1 = i64 (withinF x lo hi) ∧ r.2.2.1 ≤ lim ∧ allT r.2.2.2.1 ∧ ∀ q ∈ r.2.2.2.2, q) := by
    refine wi x lo hi _ ?_
    repeat' (first | refine ⟨fun h => ?_, fun h => ?_⟩ | fail)
    all_goals (refine ⟨?_, (by first | (unfold lim; omega) | (dsimp only; unfold lim; omega)), ?_, by simp⟩)
    all_goals (simp_all [allT, withinF, i64])
    all_goals (try omega)
    all_goals (rw [if_neg (by omega), if_neg (by omega)])
   obtain ⟨p, ⟨v, b', n', ob, po⟩, hrun, hvr, hn, hob, hpo⟩ := run; obtain ⟨s', r1, r2, r3, r4⟩ := jjs hrun; have hn : n' ≤ lim := hn; refine (jj1k hE1 r1 ⟨by rw [r3]; exact hob, by rw [r4]; exact hpo⟩ (C := loneC w) (β := fun _ => none) (w := w) (vs := [.int .i64 x, .int .i64 lo, .int .i64 hi]) rfl (jj78 w) (fun _ _ _ => rfl)).mono ?_; rintro e w' ⟨β', u, rfl, _, _, hu, hr'⟩; simp only at hvr; subst hvr; cases hu; exact ⟨β, _, rfl, Ext.refl _, fun _ _ => rfl, rfl, by rw [List.append_nil]; exact hr.below (jjj hr')⟩
 · cases hct
theorem hENq : EnvOk (ENq Tryz.prog) := by
 refine jj6q (fun f g h => ?_) (by kernel_rfl) (by kernel_rfl); simp only [ENq, List.mem_cons, Prod.mk.injEq, List.not_mem_nil, or_false] at h; rcases h with ⟨rfl, rfl⟩ | ⟨rfl, rfl⟩ | ⟨rfl, rfl⟩
 · exact jjdk
 · exact jjdo
 · exact jjdl
theorem jjb7 (c : Cfg) (N : Nat) (hN : 1001 ≤ N) (hN2 : N ≤ 1000000000000000000000000000000000000000000) (hn : c.nb ≤ 1000000) (j : Nat) (hj : j ≤ c.nb) (hmin : ∀ i, i < j → withinF (c.fb i) 0 4096 = 0) (hyes : j < c.nb → withinF (c.fb j) 0 4096 ≠ 0) {e : Exit} {out : List (Nat × AV)} {mF : AMem}
 (hF : (j < c.nb → e = .ret ∧ out = [(2, i64 (withinF (c.fb j) 0 4096))] ∧ mF = []) ∧ (j = c.nb → e = .exit 0 ∧ out = [(1, .c (.ptr 1000 0 0))] ∧ mF = [(1000, cfgB c), (3, sts c.nt c.ft)])) :
 LoopV Tryz.prog (loopAt Tryz.prog 8 0) [1, 4] [2, 1000, 3] ((nbV 0).map some) ([ints 3 c.nb c.fb, cfgB c, sts c.nt c.ft].map some) 125 N (mkFr 125 out) mF 100000000000000000000000000000000000000000000000000 e none := by
 refine jj3c hENq (fuel := 300) (str := 10000000000000000000000000000000000000000) (nh := 1000000000000000000000000000000000000000000) [1, 4] [2] [2, 1000, 3] nbV [ints 3 c.nb c.fb, cfgB c, sts c.nt c.ft] j hN2 (by decide) (by unfold lim; omega) ?_ (fun _ => ⟨rfl, rfl⟩) ?_ ?_ ?_ ?_ ?_
 · rcases Nat.lt_or_ge j c.nb with h | h
   · rw [(hF.1 h).1]; simp
   · rw [(hF.2 (by omega)).1]; simp
 · simp [keptB]; omega
 · intro k _
   simp [okV, lowV, lowC, notAny, i64]; omega
 · intro b hb
   simp only [List.mem_cons, List.not_mem_nil, or_false] at hb; rcases hb with rfl | rfl | rfl
   · exact jj25
   · exact jj1b (by omega)
   · exact jji
 · intro k hk
   have hm := hmin k hk; have hw : IntKind.wrap IntKind.i64 (Int.ofNat k + Int.ofNat 1) = Int.ofNat (k + 1) := by rw [jj6 _ (by simp; omega) (by simp; omega)]; rfl
   have ek : 0 + Int.toNat (Int.ofNat k) = k := by simp
   refine nbt c k _ ?_; simp only [ek]; refine ⟨fun c1 => ⟨fun c2 => ?_, fun c2 => ?_⟩, fun c1 => ?_⟩
   · exfalso; simp [hm] at c2
   · refine ⟨⟨?_, rfl, by dsimp only; omega, rfl⟩, rfl, ?_, BL.refl _⟩
     · simp only [allT, List.forall_mem_cons, jj5, jj9]
       simp [hm]; omega
     · dsimp only; rw [hw]; rfl
   · exfalso; simp at c1; omega
 · have ek : 0 + Int.toNat (Int.ofNat j) = j := by simp
   refine nbt c j _ ?_; simp only [ek]; refine ⟨fun c1 => ⟨fun c2 => ?_, fun c2 => ?_⟩, fun c1 => ?_⟩
   · have hlt : j < c.nb := by simpa using c1
     obtain ⟨rfl, rfl, rfl⟩ := hF.1 hlt; refine jj1c ⟨?_, rfl, by dsimp only; omega, rfl⟩ rfl rfl (by simp [i64]); have hy := hyes hlt; simp [allT, jj5, jj9, hlt, hy]
   · have hlt : j < c.nb := by simpa using c1
     exfalso; simp [hyes hlt] at c2
   · have hlt : ¬ j < c.nb := by simpa using c1
     obtain ⟨rfl, rfl, rfl⟩ := hF.2 (by omega); refine ⟨⟨?_, rfl, by dsimp only; omega, rfl⟩, rfl, fun q hq => ?_, fun p hpp => ?_⟩
     · simp [allT]; omega
     · rw [List.mem_singleton.1 hq]
       exact ⟨by simp [okV, lowV, lowC, notAny]; omega, by simp [lkA]⟩
     · simp only [List.mem_cons, List.not_mem_nil, or_false] at hpp
       rcases hpp with rfl | rfl
       · exact ⟨by simp [keptB]; omega, jj1b (by omega), cfgB c, by dsimp only [List.zip, List.zipWith]; exact List.mem_cons_of_mem _ (List.mem_cons_self ..), BEq.refl _⟩
       · exact ⟨by simp [keptB]; omega, jji, sts c.nt c.ft, by dsimp only [List.zip, List.zipWith]; exact List.mem_cons_of_mem _ (List.mem_cons_of_mem _ (List.mem_cons_self ..)), BEq.refl _⟩
theorem jjim (c : Cfg) (N : Nat) (hN : 1001 ≤ N) (hN2 : N ≤ 1000000000000000000000000000000000000000000000000000) (hn : c.nt ≤ 1000000) (j : Nat) (hj : j ≤ c.nt) (hmin : ∀ i, i < j → ruleSt c i = 0) (hyes : j < c.nt → ruleSt c j ≠ 0) {e : Exit} {out : List (Nat × AV)} {mF : AMem}
 (hF : (j < c.nt → e = .ret ∧ out = [(2, i64 (ruleSt c j))] ∧ mF = []) ∧ (j = c.nt → e = .exit 2 ∧ out = [(1, .c (.ptr 1000 0 0))] ∧ mF = [(1000, cfgB c)])) :
 LoopV Tryz.prog (loopAt Tryz.prog 8 1) [1, 5] [3, 1000] ((nbV 0).map some) ([sts c.nt c.ft, cfgB c].map some) 125 N (mkFr 125 out) mF 10000000000000000000000000000000000000000000000000000 e none := by
 refine jj3c hENq (fuel := 300) (str := 10000000000000000000000000000000000000000) (nh := 1000000000000000000000000000000000000000000000000000) [1, 5] [2] [3, 1000] nbV [sts c.nt c.ft, cfgB c] j hN2 (by decide) (by unfold lim; omega) ?_ (fun _ => ⟨rfl, rfl⟩) ?_ ?_ ?_ ?_ ?_
 · rcases Nat.lt_or_ge j c.nt with h | h
   · rw [(hF.1 h).1]; simp
   · rw [(hF.2 (by omega)).1]; simp
 · simp [keptB]; omega
 · intro k _
   simp [okV, lowV, lowC, notAny, i64]; omega
 · intro b hb
   simp only [List.mem_cons, List.not_mem_nil, or_false] at hb; rcases hb with rfl | rfl
   · exact jji
   · exact jj1b (by omega)
 · intro k hk
   have hm := hmin k hk; have hlt : k < c.nt := by omega
   have hw : IntKind.wrap IntKind.i64 (Int.ofNat k + Int.ofNat 1) = Int.ofNat (k + 1) := by rw [jj6 _ (by simp; omega) (by simp; omega)]; rfl
   have ek : 0 + Int.toNat (Int.ofNat k) = k := by simp
   have hb : 0 ≤ (c.ft k).node ∧ (c.ft k).node < c.nodes := by
    unfold ruleSt at hm; split at hm
    · assumption
    · cases hm
   have hh : withinF (c.ft k).hold 1 100 = 0 := by unfold ruleSt at hm; rw [if_pos hb] at hm; exact hm
   refine ntt c k _ ?_; simp only [ek]
   repeat' (first | refine ⟨fun h => ?_, fun h => ?_⟩ | fail)
   all_goals (first | (exfalso; simp at *; omega) | (exfalso; simp [hh] at h; done) | skip)
   refine ⟨⟨?_, rfl, by dsimp only; omega, rfl⟩, rfl, ?_, BL.refl _⟩
   · simp only [allT, List.forall_mem_cons, jj5, jj9]
     simp [hh]; omega
   · dsimp only; rw [hw]; rfl
 · have ek : 0 + Int.toNat (Int.ofNat j) = j := by simp
   refine ntt c j _ ?_; simp only [ek]; rcases Nat.lt_or_ge j c.nt with hlt | hge
   · obtain ⟨rfl, rfl, rfl⟩ := hF.1 hlt
     have hy := hyes hlt; unfold ruleSt at hy ⊢; by_cases hb : 0 ≤ (c.ft j).node ∧ (c.ft j).node < c.nodes
     · rw [if_pos hb] at hy ⊢
       repeat' (first | refine ⟨fun h => ?_, fun h => ?_⟩ | fail)
       all_goals (first | (exfalso; simp at *; omega) | (exfalso; simp [hy] at h; done) | skip)
       refine jj1c ⟨?_, rfl, by dsimp only; omega, rfl⟩ rfl rfl (by simp [i64]); simp only [allT, List.forall_mem_cons, jj5, jj9]; simp [hy]; omega
     · rw [if_neg hb] at hy ⊢
       repeat' (first | refine ⟨fun h => ?_, fun h => ?_⟩ | fail)
       all_goals (first | (exfalso; simp at *; omega) | skip)
       all_goals (refine jj1c ⟨?_, rfl, by dsimp only; omega, rfl⟩ rfl rfl (by simp [i64]))
       all_goals (simp only [allT, List.forall_mem_cons, jj5, jj9]; simp at *; omega)
   · obtain rfl : j = c.nt := by omega
     obtain ⟨rfl, rfl, rfl⟩ := hF.2 rfl
     repeat' (first | refine ⟨fun h => ?_, fun h => ?_⟩ | fail)
     all_goals (first | (exfalso; simp at *; done) | skip)
     refine ⟨⟨?_, rfl, by dsimp only; omega, rfl⟩, rfl, fun q hq => ?_, fun p hpp => ?_⟩
     · simp [allT]
     · rw [List.mem_singleton.1 hq]
       exact ⟨by simp [okV, lowV, lowC, notAny]; omega, by simp [lkA]⟩
     · rw [List.mem_singleton.1 hpp]
       exact ⟨by simp [keptB]; omega, jj1b (by omega), cfgB c, by dsimp only [List.zip, List.zipWith]; exact List.mem_cons_of_mem _ (List.mem_cons_self ..), BEq.refl _⟩
end Go.Proofs.YtfohlkhfnogmdaaGreatDoor
end
section
namespace Go.Proofs.YtfohlkhfnogmdaaGreatDoor
open Go.RowKit
def ref4 (c : Cfg) : Int :=
 if rule1 c ≠ 0 then rule1 c else if rule2 c ≠ 0 then rule2 c else if pairs4 c = false then 1 else if rule4 c ≠ 0 then rule4 c else if slots4 c = false then 1 else if rule6 c ≠ 0 then rule6 c else if rule7 c ≠ 0 then rule7 c else if rule8 c ≠ 0 then rule8 c else if rule9 c ≠ 0 then rule9 c else rule10 c
def n4V (c : Cfg) (r : VF) : Prop := r.1 = i64 (ref4 c) ∧ r.2.2.1 ≤ lim ∧ allT r.2.2.2.1 ∧ ∀ q ∈ r.2.2.2.2, q
theorem jjlx {n : Int} (h4 : 4 ≤ n) (h16 : n ≤ 16) : (if IntKind.wrap IntKind.i64 (n + Int.ofNat 116) > IntKind.wrap IntKind.i64 (IntKind.wrap IntKind.i64 (Int.ofNat 3 * n) + Int.ofNat 1) then IntKind.wrap IntKind.i64 (n + Int.ofNat 116) else IntKind.wrap IntKind.i64 (IntKind.wrap IntKind.i64 (Int.ofNat 3 * n) + Int.ofNat 1)) = max (3 * n + 1) (n + 116) := by
 have w1 : IntKind.wrap IntKind.i64 (n + Int.ofNat 116) = n + 116 := by
  rw [jj6 _ (by simp; omega) (by simp; omega)]; simp
 have w2 : IntKind.wrap IntKind.i64 (IntKind.wrap IntKind.i64 (Int.ofNat 3 * n) + Int.ofNat 1) = 3 * n + 1 := by
  rw [jj6 (Int.ofNat 3 * n) (by simp; omega) (by simp; omega), jj6 _ (by simp; omega) (by simp; omega)]; simp
 rw [w1, w2]; split <;> omega
theorem jjdj {f : Nat → Int} {n j : Nat} {lo hi : Int} (hmin : ∀ i, i < j → withinF (f i) lo hi = 0) (hj : j < n) (hy : withinF (f j) lo hi ≠ 0) : eachF f n lo hi = withinF (f j) lo hi := by
 unfold eachF; rw [jj2d (j := j) (fun i hi => by simp [hmin i hi]) (Nat.le_of_lt hj) (fun _ => by simp [hy]), if_pos hj]
theorem jjgu {f : Nat → Int} {n : Nat} {lo hi : Int} (hmin : ∀ i, i < n → withinF (f i) lo hi = 0) : eachF f n lo hi = 0 := by
 unfold eachF; rw [jj2d (j := n) (fun i hi => by simp [hmin i hi]) (Nat.le_refl _) (fun h => absurd h (Nat.lt_irrefl _)), if_neg (Nat.lt_irrefl _)]
theorem jjar {c : Cfg} {j : Nat} (hmin : ∀ i, i < j → ruleSt c i = 0) (hj : j < c.nt) (hy : ruleSt c j ≠ 0) : rule9 c = ruleSt c j := by
 unfold rule9; rw [jj2d (j := j) (fun i hi => by simp [hmin i hi]) (Nat.le_of_lt hj) (fun _ => by simp [hy]), if_pos hj]
theorem jjd0 {c : Cfg} (hmin : ∀ i, i < c.nt → ruleSt c i = 0) : rule9 c = 0 := by
 unfold rule9; rw [jj2d (j := c.nt) (fun i hi => by simp [hmin i hi]) (Nat.le_refl _) (fun h => absurd h (Nat.lt_irrefl _)), if_neg (Nat.lt_irrefl _)]
theorem jjg7 (c : Cfg) : ∃ p lp r, n4R Tryz.prog c lp p = some r ∧ n4V c r := by
 have f2 : rule2 c = 0 → 2 ≤ c.np ∧ c.np ≤ 8 := fun h => by have := jj8 h; omega
 have f4 : rule4 c = 0 → 1 ≤ c.ns ∧ c.ns ≤ 16 := fun h => by have := jj8 h; omega
 have f8 : rule8 c = 0 → c.nt ≤ 8 := fun h => by have := jj8 h; omega
 have f1 : rule1 c = 0 → 4 ≤ c.nodes ∧ c.nodes ≤ 16 := fun h => jj8 h
 obtain ⟨j, hj, hmin, hyes⟩ := jj2b c.nb fun i => withinF (c.fb i) 0 4096 ≠ 0
 simp only [ne_eq, Decidable.not_not] at hmin; obtain ⟨i, hi, him, hiy⟩ := jj2b c.nt fun i => ruleSt c i ≠ 0
 simp only [ne_eq, Decidable.not_not] at him; have r1 : withinF (Cfg.nodes c) (Int.ofNat 4) (Int.ofNat 16) = rule1 c := rfl; have r2 : withinF (↑(Cfg.np c)) (Int.ofNat 2) (Int.ofNat 8) = rule2 c := rfl; have r4 : withinF (↑(Cfg.ns c)) (Int.ofNat 1) (Int.ofNat 16) = rule4 c := rfl; have r6 : withinF (Cfg.long c) (max (3 * Cfg.nodes c + 1) (Cfg.nodes c + 116)) (Int.ofNat 4096) = rule6 c := rfl; have r8 : withinF (↑(Cfg.nt c)) (Int.ofNat 0) (Int.ofNat 8) = rule8 c := rfl; have z1 : Int.ofNat 1 = 1 := rfl; have z0 : Int.ofNat 0 = 0 := rfl; have z100 : Int.ofNat 100 = 100 := rfl; by_cases h1 : rule1 c = 0
 · obtain ⟨g4, g16⟩ := f1 h1
   have hmx := jjlx g4 g16; rcases Nat.lt_or_ge j c.nb with hlt | hge
   · have hy := hyes hlt
     have e7 : (c.nb : Int) = c.nodes → rule7 c = withinF (c.fb j) 0 4096 := fun h => by unfold rule7; rw [if_pos h, jjdj hmin hlt hy]
     have e7' : ¬ (c.nb : Int) = c.nodes → rule7 c = 1 := fun h => by unfold rule7; rw [if_neg h]
     refine (?_ : (∃ p r, n4R Tryz.prog c [some (n4S1 .ret [(2, i64 (withinF (c.fb j) 0 4096))] [])] p = some r ∧ n4V c r) → _) (n4A c (withinF (c.fb j) 0 4096) (n4V c) ?_)
     · rintro ⟨p, r, q1, q2⟩
       exact ⟨p, _, r, q1, q2⟩
     simp only [jj9k, jjn, jj1, jj3, r1, r2, r4, hmx, r6, r8]
     repeat' (first | refine ⟨fun h => ?_, fun h => ?_⟩ | fail)
     all_goals (simp only [bne_iff_ne, ne_eq, bne_eq_false_iff_eq, Bool.not_eq_true', Bool.not_eq_false', z0, z1] at *)
     all_goals (refine ⟨?_, (by first | (unfold lim; omega) | (dsimp only; unfold lim; omega)), ?_, ?_⟩)
     all_goals (first
      | (intro q hq; cases hq; done)
      | (intro q hq
         rw [List.mem_singleton.1 hq]
         exact jjb7 c _ (by omega) (by omega) (by omega) j hj hmin (fun _ => hy) ⟨fun _ => ⟨rfl, rfl, rfl⟩, fun h => by omega⟩)
      | (simp_all [ref4, i64]; done)
      | (simp_all [allT, okPr, okSl]; done)
      | (simp_all [allT, okPr, okSl]; omega)
      | fail)
   · obtain rfl : j = c.nb := by omega
     have e7 : (c.nb : Int) = c.nodes → rule7 c = 0 := fun h => by unfold rule7; rw [if_pos h, jjgu hmin]
     have e7' : ¬ (c.nb : Int) = c.nodes → rule7 c = 1 := fun h => by unfold rule7; rw [if_neg h]
     have r10a : withinF (Cfg.miss c) (Int.ofNat 1) (Int.ofNat 100) = withinF c.miss 1 100 := rfl; have r10b : withinF (Cfg.good c) (Int.ofNat 1) (Int.ofNat 100) = withinF c.good 1 100 := rfl; have r10c : withinF (Cfg.fresh c) (Int.ofNat 1) (Int.ofNat 100) = withinF c.fresh 1 100 := rfl; rcases Nat.lt_or_ge i c.nt with hlt | hge
     · have hy := hiy hlt
       have e9 : rule9 c = ruleSt c i := jjar him hlt hy; refine (?_ : (∃ p r, n4R Tryz.prog c [some (n4S1 (.exit 0) [(1, .c (.ptr 1000 0 0))] [(1000, cfgB c), (3, sts c.nt c.ft)]), some (n4S2 .ret [(2, i64 (ruleSt c i))] [])] p = some r ∧ n4V c r) → _) (n4B c (ruleSt c i) (n4V c) ?_)
       · rintro ⟨p, r, q1, q2⟩
         exact ⟨p, _, r, q1, q2⟩
       simp only [jj9k, jjn, jj1, jj3, r1, r2, r4, hmx, r6, r8, r10a, r10b, r10c]
       repeat' (first | refine ⟨fun h => ?_, fun h => ?_⟩ | fail)
       all_goals (simp only [bne_iff_ne, ne_eq, bne_eq_false_iff_eq, Bool.not_eq_true', Bool.not_eq_false', z0, z1] at *)
       all_goals (refine ⟨?_, (by first | (unfold lim; omega) | (dsimp only; unfold lim; omega)), ?_, ?_⟩)
       all_goals (first
        | (intro q hq; cases hq; done)
        | (intro q hq
           rw [List.mem_singleton.1 hq]
           exact jjb7 c _ (by omega) (by omega) (by omega) c.nb (Nat.le_refl _) hmin (fun h => by omega) ⟨fun h => by omega, fun _ => ⟨rfl, rfl, rfl⟩⟩)
        | (intro q hq
           simp only [List.mem_cons, List.not_mem_nil, or_false] at hq; rcases hq with rfl | rfl
           · exact jjim c _ (by omega) (by omega) (by omega) i hi him (fun _ => hy) ⟨fun _ => ⟨rfl, rfl, rfl⟩, fun h => by omega⟩
           · exact jjb7 c _ (by omega) (by omega) (by omega) c.nb (Nat.le_refl _) hmin (fun h => by omega) ⟨fun h => by omega, fun _ => ⟨rfl, rfl, rfl⟩⟩)
        | (simp_all [ref4, i64, rule10]; done)
        | (simp_all [allT, okPr, okSl]; done)
        | (simp_all [allT, okPr, okSl]; omega)
        | fail)
     · obtain rfl : i = c.nt := by omega
       have e9 : rule9 c = 0 := jjd0 him; refine (?_ : (∃ p r, n4R Tryz.prog c [some (n4S1 (.exit 0) [(1, .c (.ptr 1000 0 0))] [(1000, cfgB c), (3, sts c.nt c.ft)]), some (n4S2 (.exit 2) [(1, .c (.ptr 1000 0 0))] [(1000, cfgB c)])] p = some r ∧ n4V c r) → _) (n4C c (n4V c) ?_)
       · rintro ⟨p, r, q1, q2⟩
         exact ⟨p, _, r, q1, q2⟩
       simp only [jj9k, jjn, jj1, jj3, r1, r2, r4, hmx, r6, r8, r10a, r10b, r10c]
       repeat' (first | refine ⟨fun h => ?_, fun h => ?_⟩ | fail)
       all_goals (simp only [bne_iff_ne, ne_eq, bne_eq_false_iff_eq, Bool.not_eq_true', Bool.not_eq_false', z0, z1] at *)
       all_goals (refine ⟨?_, (by first | (unfold lim; omega) | (dsimp only; unfold lim; omega)), ?_, ?_⟩)
       all_goals (first
        | (intro q hq; cases hq; done)
        | (intro q hq
           rw [List.mem_singleton.1 hq]
           exact jjb7 c _ (by omega) (by omega) (by omega) c.nb (Nat.le_refl _) hmin (fun h => by omega) ⟨fun h => by omega, fun _ => ⟨rfl, rfl, rfl⟩⟩)
        | (intro q hq
           simp only [List.mem_cons, List.not_mem_nil, or_false] at hq; rcases hq with rfl | rfl
           · exact jjim c _ (by omega) (by omega) (by omega) c.nt (Nat.le_refl _) him (fun h => by omega) ⟨fun h => by omega, fun _ => ⟨rfl, rfl, rfl⟩⟩
           · exact jjb7 c _ (by omega) (by omega) (by omega) c.nb (Nat.le_refl _) hmin (fun h => by omega) ⟨fun h => by omega, fun _ => ⟨rfl, rfl, rfl⟩⟩)
        | (simp_all [ref4, i64, rule10]; done)
        | (simp_all [allT, okPr, okSl]; done)
        | (simp_all [allT, okPr, okSl]; omega)
        | fail)
 · refine (?_ : (∃ p r, n4R Tryz.prog c [some (n4S1 .ret [(2, i64 0)] [])] p = some r ∧ n4V c r) → _) (n4A c 0 (n4V c) ?_)
   · rintro ⟨p, r, q1, q2⟩
     exact ⟨p, _, r, q1, q2⟩
   simp only [r1]; refine ⟨fun h => ⟨?_, (by first | (unfold lim; omega) | (dsimp only; unfold lim; omega)), ?_, fun q hq => (by cases hq)⟩, fun h => ?_⟩
   · show i64 (rule1 c) = i64 (ref4 c)
     unfold ref4; rw [if_pos h1]
   · simp [allT]
     exact h1
   · exfalso
     simp at h; exact h1 h
end Go.Proofs.YtfohlkhfnogmdaaGreatDoor
end
section
namespace Go.Proofs.YtfohlkhfnogmdaaGreatDoor
open Go.RowKit
theorem jjfu (c : Cfg) : slots4 c = all5 c c.np := by
 have hin : ((List.range c.ns).all fun k => decide (¬ BadS c k)) = insideF c.fs c.ns c.np := by
  unfold insideF BadS; congr 1; funext k; simp only [decide_eq_decide]; omega
 unfold slots4 all5; rw [hin]
 cases hi : insideF c.fs c.ns c.np with
 | false => rfl
 | true =>
  have h0 : ∀ k, k < c.ns → 0 ≤ c.fs k := fun k hk => by
   have := List.all_eq_true.1 hi k (by simpa using hk); simp at this; exact this.1
  rw [Bool.true_and, Bool.true_and]; congr 1; funext i; unfold hasQ hasF; rw [Bool.eq_iff_iff]; simp only [Bool.not_eq_false, decide_eq_true_eq, List.any_eq_true, List.mem_range, beq_iff_eq]; constructor
  · rintro ⟨p, h1, h2⟩
    exact ⟨p, h1, by have := h0 p h1; simp; omega⟩
  · rintro ⟨p, h1, h2⟩
    exact ⟨p, h1, by have := h0 p h1; simp at h2; omega⟩
theorem jjaf (c : Cfg) (k i : Nat) : usedF c k i = true ↔ ∃ p, p < k ∧ (i = (c.fp p).toNat ∨ i = (nxt4 c p).toNat) := by
 unfold usedF; simp [List.any_eq_true]
def Fair (c : Cfg) : Prop := (∀ i, i < c.np → 0 ≤ c.fp i ∧ c.fp i < c.nodes) ∧ (∀ i, i + 1 < c.np → c.fp i ≤ c.fp (i + 1)) ∧ (∀ p q, p < q → q < c.np → c.fp p ≠ c.fp q ∧ c.fp p ≠ nxt4 c q ∧ nxt4 c p ≠ c.fp q ∧ nxt4 c p ≠ nxt4 c q)
theorem jjil (c : Cfg) (p : Nat) (h4 : 4 ≤ c.nodes) (h0 : 0 ≤ c.fp p) (h1 : c.fp p < c.nodes) : c.fp p ≠ nxt4 c p := by
 unfold nxt4; rw [Int.tmod_eq_emod_of_nonneg (by omega)]; rcases (by omega : c.fp p + 1 < c.nodes ∨ c.fp p + 1 = c.nodes) with h | h
 · rw [Int.emod_eq_of_lt (by omega) h]; omega
 · rw [h, Int.emod_self]; omega
theorem jjaz (c : Cfg) (h4 : 4 ≤ c.nodes) : pairs4 c = true ↔ Fair c := by
 have hp : pairs4 c = true ↔ ∀ k, k < c.np → ¬ BadP c k := by
  unfold pairs4; simp [List.all_eq_true]
 rw [hp]; constructor
 · intro h
   have hin : ∀ i, i < c.np → 0 ≤ c.fp i ∧ c.fp i < c.nodes := fun i hi => by
    have := h i hi; unfold BadP at this; omega
   refine ⟨hin, fun i hi => ?_, fun p q hpq hq => ?_⟩
   · have := h (i + 1) hi
     unfold BadP at this; simp only [not_or, not_and, Nat.add_sub_cancel] at this; have := this.2.2.1 (by omega); omega
   · have hq' := h q hq
     unfold BadP at hq'; simp only [not_or, jjaf] at hq'; obtain ⟨_, _, _, u1, u2⟩ := hq'; obtain ⟨a0, a1⟩ := hin p (by omega); obtain ⟨b0, b1⟩ := hin q hq; obtain ⟨n0, _⟩ := jj5z c p h4 a0; obtain ⟨m0, _⟩ := jj5z c q h4 b0; refine ⟨fun e => u1 ⟨p, hpq, .inl (by rw [e])⟩, fun e => u2 ⟨p, hpq, .inl (by rw [e])⟩, fun e => u1 ⟨p, hpq, .inr (by rw [e])⟩, fun e => u2 ⟨p, hpq, .inr (by rw [e])⟩⟩
 · rintro ⟨hin, hs, hd⟩ k hk
   obtain ⟨b0, b1⟩ := hin k hk; obtain ⟨m0, _⟩ := jj5z c k h4 b0; unfold BadP; simp only [not_or, jjaf]; refine ⟨by omega, by omega, ?_, ?_, ?_⟩
   · rintro ⟨h0, h1⟩
     have h2 := hs (k - 1) (by omega); rw [show k - 1 + 1 = k by omega] at h2; exact (hd (k - 1) k (by omega) hk).1 (by omega)
   · rintro ⟨p, hpk, e⟩
     obtain ⟨a0, a1⟩ := hin p (by omega); obtain ⟨n0, _⟩ := jj5z c p h4 a0; obtain ⟨d1, d2, d3, d4⟩ := hd p k hpk hk; rcases e with e | e <;> omega
   · rintro ⟨p, hpk, e⟩
     obtain ⟨a0, a1⟩ := hin p (by omega); obtain ⟨n0, _⟩ := jj5z c p h4 a0; obtain ⟨d1, d2, d3, d4⟩ := hd p k hpk hk; rcases e with e | e <;> omega
theorem jjas (c : Cfg) (h4 : 4 ≤ c.nodes) (h16 : c.nodes ≤ 16) : rule3 c = 0 ↔ Fair c := by
 have h3 : rule3 c = 0 ↔ (insideF c.fp c.np c.nodes = true ∧ sortedF c.fp c.np = true ∧ nodupF (halfF c) (2 * c.np) = true) := by
  unfold rule3; simp only [Bool.and_eq_true]; split <;> simp_all
 have hi : insideF c.fp c.np c.nodes = true ↔ ∀ i, i < c.np → 0 ≤ c.fp i ∧ c.fp i < c.nodes := by
  unfold insideF; simp [List.all_eq_true]
 have hs : sortedF c.fp c.np = true ↔ ∀ i, i + 1 < c.np → c.fp i ≤ c.fp (i + 1) := by
  unfold sortedF; simp only [List.all_eq_true, List.mem_range, decide_eq_true_eq]; exact ⟨fun h i hi => h i (by omega), fun h i hi => h i (by omega)⟩
 have hn : nodupF (halfF c) (2 * c.np) = true ↔ ∀ q q', q < q' → q' < 2 * c.np → halfF c q ≠ halfF c q' := by
  unfold nodupF; rw [decide_eq_true_eq, List.Nodup, List.pairwise_map, List.pairwise_iff_getElem]; simp only [List.length_range, List.getElem_range]; exact ⟨fun h q q' h1 h2 => h q q' (by omega) h2 h1, fun h q q' _ h2 h1 => h q q' h1 h2⟩
 rw [h3, hi, hs, hn]; unfold Fair; refine and_congr_right fun hin => and_congr_right fun _ => ?_
 have he : ∀ p, halfF c (2 * p) = c.fp p := fun p => by unfold halfF; rw [if_pos (by omega), show 2 * p / 2 = p by omega]
 have ho : ∀ p, p < c.np → halfF c (2 * p + 1) = nxt4 c p := fun p hp => by
  obtain ⟨a0, a1⟩ := hin p hp; unfold halfF ringF nxt4; rw [if_neg (by omega), show (2 * p + 1) / 2 = p by omega, if_pos ⟨h4, h16, a0, a1⟩, Int.tmod_eq_emod_of_nonneg (by omega)]
 constructor
 · intro h p q hpq hq
   refine ⟨?_, ?_, ?_, ?_⟩
   · have := h (2 * p) (2 * q) (by omega) (by omega); rwa [he, he] at this
   · have := h (2 * p) (2 * q + 1) (by omega) (by omega); rwa [he, ho q hq] at this
   · have := h (2 * p + 1) (2 * q) (by omega) (by omega); rwa [he, ho p (by omega)] at this
   · have := h (2 * p + 1) (2 * q + 1) (by omega) (by omega); rwa [ho p (by omega), ho q hq] at this
 · intro h q q' h1 h2
   obtain ⟨x, hx⟩ : ∃ x, x = q / 2 := ⟨_, rfl⟩
   obtain ⟨y, hy⟩ : ∃ y, y = q' / 2 := ⟨_, rfl⟩
   have hyn : y < c.np := by omega
   rcases Nat.lt_or_ge x y with hxy | hxy
   · obtain ⟨d1, d2, d3, d4⟩ := h x y hxy hyn
     rcases (by omega : q = 2 * x ∨ q = 2 * x + 1) with rfl | rfl <;> rcases (by omega : q' = 2 * y ∨ q' = 2 * y + 1) with rfl | rfl
     · rw [he, he]; exact d1
     · rw [he, ho y hyn]; exact d2
     · rw [he, ho x (by omega)]; exact d3
     · rw [ho x (by omega), ho y hyn]; exact d4
   · obtain rfl : x = y := by omega
     obtain rfl : q = 2 * x := by omega
     obtain rfl : q' = 2 * x + 1 := by omega
     obtain ⟨a0, a1⟩ := hin x hyn; rw [he, ho x hyn]; exact jjil c x h4 a0 a1
theorem jji8 (c : Cfg) : ref4 c = cfgErr c := by
 unfold ref4 cfgErr; by_cases h1 : rule1 c = 0
 · obtain ⟨g4, g16⟩ := jj8 h1
   have hp : pairs4 c = false ↔ rule3 c ≠ 0 := by
    rw [← Bool.not_eq_true, jjaz c g4, ← jjas c g4 g16]
   have h3 : rule3 c ≠ 0 → rule3 c = 1 := by
    unfold rule3; split
    · intro h; exact absurd rfl h
    · intro _; rfl
   have h5 : slots4 c = false ↔ rule5 c ≠ 0 := by
    rw [jjfu]; unfold rule5; cases all5 c c.np <;> simp
   have h5' : rule5 c ≠ 0 → rule5 c = 1 := by
    unfold rule5; split
    · intro h; exact absurd rfl h
    · intro _; rfl
   by_cases e3 : rule3 c = 0
   · by_cases e5 : rule5 c = 0
     · simp [h1, hp, h5, e3, e5]
     · simp [h1, hp, h5, e3, e5, h5' e5]
   · simp [h1, hp, e3, h3 e3]
 · simp [h1]
end Go.Proofs.YtfohlkhfnogmdaaGreatDoor
end
section
namespace Go.Proofs.YtfohlkhfnogmdaaGreatDoor
open Go.RowKit
theorem jjfa : CtOk Tryz.prog 8 (ctCfg (fun c => i64 (cfgErr c)) fun _ => true) := by
 refine jj3l (E := ENq Tryz.prog) (fuel := 300) (str := 10000000000000000000000000000000000000000) hENq ⟨_, _, Tryz.func8, rfl⟩ (fun c => jj11 _) fun c _ => ?_
 obtain ⟨p, lp, r, h1, h2⟩ := jjg7 c; unfold n4V at h2; rw [jji8] at h2; exact ⟨p, lp, r, h1, h2⟩
end Go.Proofs.YtfohlkhfnogmdaaGreatDoor
end
section
namespace Go.Proofs.YtfohlkhfnogmdaaGreatDoor
open Go.RowKit
theorem rvUp (z : Int) (Q : VF → Prop) (H : let zz0 := (IntKind.wrap IntKind.i64 (IntKind.wrap IntKind.i64 z + Int.ofNat 1) < Int.ofNat 0); let zz1 := (IntKind.wrap IntKind.i64 (IntKind.wrap IntKind.i64 z + Int.ofNat 1) > Int.ofNat 100); (((decide zz0) = true → Q (.c (.v (.int .u8 (Int.ofNat 0))), [], 1010, [decide zz0 == true], [])) ∧ ((decide zz0) = false → (((decide zz1) = true → Q (.c (.v (.int .u8 (Int.ofNat 100))), [], 1014, [decide zz1 == true, decide zz0 == false], [])) ∧ ((decide zz1) = false → Q (.c (.v (.int .u8 (IntKind.wrap .u8 (IntKind.wrap .i64 (IntKind.wrap .i64 z + Int.ofNat 1))))), [], 1014, [decide zz1 == false, decide zz0 == false], [])))))) :
 ∃ p r, scE Tryz.prog 136 .u8 z p = some r ∧ Q r :=
 two H
 (fun g1 => ⟨pD 1 1, _, by kernel_rfl, g1⟩)
 (fun g1 => two g1
  (fun g2 => ⟨pD 2 5, _, by kernel_rfl, g2⟩)
  (fun g2 => ⟨pD 2 8, _, by kernel_rfl, g2⟩))
theorem rvPen (z : Int) (Q : VF → Prop) (H : let zz0 := (IntKind.wrap IntKind.i64 (IntKind.wrap IntKind.i64 z + Int.ofNat 8) < Int.ofNat 0); let zz1 := (IntKind.wrap IntKind.i64 (IntKind.wrap IntKind.i64 z + Int.ofNat 8) > Int.ofNat 1000); let zq0 : List Bool := [decide (IntKind.wrap .i64 z < Int.ofNat 0) == false]; let zq1 : List Bool := (decide (IntKind.wrap .i64 z > Int.ofNat 1000) == false) :: zq0; let zq2 : List Bool := (decide zz0 == false) :: zq1; (((decide (IntKind.wrap .i64 z < Int.ofNat 0)) = true → Q (.c (.v (.int .u16 (Int.ofNat 8))), [], 1018, [decide (IntKind.wrap .i64 z < Int.ofNat 0) == true], [])) ∧ ((decide (IntKind.wrap .i64 z < Int.ofNat 0)) = false → (((decide (IntKind.wrap .i64 z > Int.ofNat 1000)) = true → Q (.c (.v (.int .u16 (Int.ofNat 1000))), [], 1022, ((decide (IntKind.wrap .i64 z > Int.ofNat 1000) == true) :: zq0), [])) ∧ ((decide (IntKind.wrap .i64 z > Int.ofNat 1000)) = false → (((decide zz0) = true → Q (.c (.v (.int .u16 (Int.ofNat 0))), [], 1018, ((decide zz0 == true) :: zq1), [])) ∧ ((decide zz0) = false → (((decide zz1) = true → Q (.c (.v (.int .u16 (Int.ofNat 1000))), [], 1022, ((decide zz1 == true) :: zq2), [])) ∧ ((decide zz1) = false → Q (.c (.v (.int .u16 (IntKind.wrap .u16 (IntKind.wrap .i64 (IntKind.wrap .i64 z + Int.ofNat 8))))), [], 1022, ((decide zz1 == false) :: zq2), [])))))))))) :
 ∃ p r, scE Tryz.prog 138 .u16 z p = some r ∧ Q r :=
 two H
 (fun g1 => ⟨pD 3 1, _, by kernel_rfl, g1⟩)
 (fun g1 => two g1
  (fun g2 => ⟨pD 4 5, _, by kernel_rfl, g2⟩)
  (fun g2 => two g2
   (fun g3 => ⟨pD 3 17, _, by kernel_rfl, g3⟩)
   (fun g3 => two g3
    (fun g4 => ⟨pD 4 53, _, by kernel_rfl, g4⟩)
    (fun g4 => ⟨pD 4 80, _, by kernel_rfl, g4⟩))))
theorem rvRew (z : Int) (Q : VF → Prop) (H : let zz0 := (IntKind.wrap IntKind.i64 (IntKind.wrap IntKind.i64 z - Int.ofNat 1) < Int.ofNat 0); let zz1 := (IntKind.wrap IntKind.i64 (IntKind.wrap IntKind.i64 z - Int.ofNat 1) > Int.ofNat 1000); let zq0 : List Bool := [decide (IntKind.wrap .i64 z < Int.ofNat 0) == false]; let zq1 : List Bool := (decide (IntKind.wrap .i64 z > Int.ofNat 1000) == false) :: zq0; let zq2 : List Bool := (decide zz0 == false) :: zq1; (((decide (IntKind.wrap .i64 z < Int.ofNat 0)) = true → Q (.c (.v (.int .u16 (Int.ofNat 0))), [], 1014, [decide (IntKind.wrap .i64 z < Int.ofNat 0) == true], [])) ∧ ((decide (IntKind.wrap .i64 z < Int.ofNat 0)) = false → (((decide (IntKind.wrap .i64 z > Int.ofNat 1000)) = true → Q (.c (.v (.int .u16 (Int.ofNat 999))), [], 1022, ((decide (IntKind.wrap .i64 z > Int.ofNat 1000) == true) :: zq0), [])) ∧ ((decide (IntKind.wrap .i64 z > Int.ofNat 1000)) = false → (((decide zz0) = true → Q (.c (.v (.int .u16 (Int.ofNat 0))), [], 1018, ((decide zz0 == true) :: zq1), [])) ∧ ((decide zz0) = false → (((decide zz1) = true → Q (.c (.v (.int .u16 (Int.ofNat 1000))), [], 1022, ((decide zz1 == true) :: zq2), [])) ∧ ((decide zz1) = false → Q (.c (.v (.int .u16 (IntKind.wrap .u16 (IntKind.wrap .i64 (IntKind.wrap .i64 z - Int.ofNat 1))))), [], 1022, ((decide zz1 == false) :: zq2), [])))))))))) :
 ∃ p r, scE Tryz.prog 137 .u16 z p = some r ∧ Q r :=
 two H
 (fun g1 => ⟨pD 2 1, _, by kernel_rfl, g1⟩)
 (fun g1 => two g1
  (fun g2 => ⟨pD 4 5, _, by kernel_rfl, g2⟩)
  (fun g2 => two g2
   (fun g3 => ⟨pD 3 17, _, by kernel_rfl, g3⟩)
   (fun g3 => two g3
    (fun g4 => ⟨pD 4 53, _, by kernel_rfl, g4⟩)
    (fun g4 => ⟨pD 4 80, _, by kernel_rfl, g4⟩))))
end Go.Proofs.YtfohlkhfnogmdaaGreatDoor
end
section
namespace Go.Proofs.YtfohlkhfnogmdaaGreatDoor
open Go.RowKit
def scPB (k : IntKind) : List AV → Bool
 | [.c (.v (.int q z))] => decide (q = k) && (decide (0 ≤ z) && decide (z ≤ 65535))
 | _ => false
def ctScB (k : IntKind) (g : Int → Int) : CtF := ctRd (pureRd [] rfl) (scrR k g) (scPB k)
theorem jjfz {f : FuncId} {k : IntKind} {g : Int → Int} (hf : ∃ (fn : Func) (c : Code), Tryz.prog.funcs[f]? = some fn ∧ fn.body = some c) (run : ∀ z : Int, 0 ≤ z → z ≤ 65535 → ∃ p q, scE Tryz.prog f k z p = some q ∧ GoodF (.c (.v (.int k (g z)))) q) : CtOk Tryz.prog f (ctScB k g) := by
 refine jj1i (E := E1 Tryz.prog) hE1 (pureRd [] rfl) (fuel := 300) (str := 10000000000000000000000000000000000000000) hf (fun s => by unfold scrR; split <;> rfl) fun s hs => ?_
 unfold scPB at hs; split at hs
 · rename_i q z
   simp only [Bool.and_eq_true, decide_eq_true_eq] at hs; obtain ⟨rfl, h0, h1⟩ := hs; obtain ⟨p, r, g1, g2⟩ := run z h0 h1; exact ⟨p, [], r, g1, g2⟩
 · cases hs
theorem jj4e {z : Int} (h0 : -1000000 ≤ z) (h1 : z ≤ 1000000) : IntKind.wrap .i64 z = z := jj6 _ (by omega) (by omega)
theorem jjm7 : CtOk Tryz.prog 136 (ctScB .u8 upZ) := by
 refine jjfz ⟨_, _, Tryz.func136, rfl⟩ fun z h0 h1 => rvUp z _ ?_
 have w1 := jj4e (z := z) (by omega) (by omega); have w2 := jj4e (z := z + Int.ofNat 1) (by simp; omega) (by simp; omega); simp only [w1, w2]
 (repeat' (first | refine ⟨fun h => ?_, fun h => ?_⟩ | fail))
 all_goals (simp only [decide_eq_true_eq, decide_eq_false_iff_not, Int.ofNat_eq_natCast, Int.cast_ofNat_Int, gt_iff_lt, ge_iff_le] at *)
 all_goals (refine ⟨?_, (by first | (unfold lim; omega) | (dsimp only; unfold lim; omega)), by simp_all [allT], by simp⟩)
 all_goals first
  | (exfalso; omega)
  | (rw [show upZ z = 100 by unfold upZ; omega])
  | (rw [jjed (by omega) (by omega), show upZ z = z + 1 by unfold upZ; omega])
theorem jjjo : CtOk Tryz.prog 138 (ctScB .u16 penZ) := by
 refine jjfz ⟨_, _, Tryz.func138, rfl⟩ fun z h0 h1 => rvPen z _ ?_
 have w1 := jj4e (z := z) (by omega) (by omega); have w2 := jj4e (z := z + Int.ofNat 8) (by simp; omega) (by simp; omega); simp only [w1, w2]
 (repeat' (first | refine ⟨fun h => ?_, fun h => ?_⟩ | fail))
 all_goals (simp only [decide_eq_true_eq, decide_eq_false_iff_not, Int.ofNat_eq_natCast, Int.cast_ofNat_Int, gt_iff_lt, ge_iff_le] at *)
 all_goals (refine ⟨?_, (by first | (unfold lim; omega) | (dsimp only; unfold lim; omega)), by simp_all [allT], by simp⟩)
 all_goals first
  | (exfalso; omega)
  | (rw [show penZ z = 1000 by unfold penZ; omega])
  | (rw [jj68 (by omega) (by omega), show penZ z = z + 8 by unfold penZ; omega])
theorem jjjn : CtOk Tryz.prog 137 (ctScB .u16 rewZ) := by
 refine jjfz ⟨_, _, Tryz.func137, rfl⟩ fun z h0 h1 => rvRew z _ ?_
 have w1 := jj4e (z := z) (by omega) (by omega); have w2 := jj4e (z := z - Int.ofNat 1) (by simp; omega) (by simp; omega); simp only [w1, w2]
 (repeat' (first | refine ⟨fun h => ?_, fun h => ?_⟩ | fail))
 all_goals (simp only [decide_eq_true_eq, decide_eq_false_iff_not, Int.ofNat_eq_natCast, Int.cast_ofNat_Int, gt_iff_lt, ge_iff_le] at *)
 all_goals (refine ⟨?_, (by first | (unfold lim; omega) | (dsimp only; unfold lim; omega)), by simp_all [allT], by simp⟩)
 all_goals first
  | (exfalso; omega)
  | (rw [show rewZ z = 999 by unfold rewZ; omega])
  | (rw [show rewZ z = 0 by unfold rewZ; omega])
  | (rw [jj68 (by omega) (by omega), show rewZ z = z - 1 by unfold rewZ; omega])
end Go.Proofs.YtfohlkhfnogmdaaGreatDoor
end
section
namespace Go.Proofs.YtfohlkhfnogmdaaGreatDoor
open Go.RowKit
def ctsRd : List (FuncId × CtF) := [(101, ctClnSt), (126, ctSc .u8 upZ), (128, ctSc .u16 penZ), (127, ctSc .u16 rewZ)]
theorem jjgy : ∀ f g, (f, g) ∈ ctsRd → CtOk Tryz.prog f g := by
 intro f g h; simp only [ctsRd, List.mem_cons, Prod.mk.injEq, List.not_mem_nil, or_false] at h; rcases h with ⟨rfl, rfl⟩ | ⟨rfl, rfl⟩ | ⟨rfl, rfl⟩ | ⟨rfl, rfl⟩
 · exact jj8g
 · exact ct_up
 · exact jjmk
 · exact jjmh
def ENrd (P : Program) : Env := ⟨P, ctsRd⟩
theorem hENrd : EnvOk (ENrd Tryz.prog) := jj6q jjgy (by kernel_rfl) (by kernel_rfl)
def vw0 : Vw := ⟨fun _ => false, fun _ => 0, fun _ => 0, fun _ => 0, fun _ => false, 0, 0⟩
abbrev rdH : List Nat := [3, 4, 5, 11, 12]
abbrev rdS (u : Vw) : LSum := ⟨rdH, [1000, 1001, 1128], mkFr 99 [(3, .c (.ptr 1000 0 0)), (4, .c (.ptr 1001 0 0))], [(1000, vwB u), (1001, vwB vw0)], 100000000000000000000000000000000000000000000000000, .exit 0⟩
theorem mbRdD (c : Cfg) (nq : Nat) (fq : Nat → Int) (v u : Vw) (Q : VF → Prop) (H : let zt : List Bool → List Bool := fun l => true :: true :: true :: true :: true :: true :: true :: true :: l; let zu : List Bool → List Bool := fun l => zt (zt (zt (zt l))); Q (.agg [.v (.bool (Vw.inn u 0)), .v (.bool (Vw.inn u 1)), .v (.bool (Vw.inn u 2)), .v (.bool (Vw.inn u 3)), .v (.bool (Vw.inn u 4)), .v (.bool (Vw.inn u 5)), .v (.bool (Vw.inn u 6)), .v (.bool (Vw.inn u 7)), .v (.int .u8 (Vw.miss u 0)), .v (.int .u8 (Vw.miss u 1)), .v (.int .u8 (Vw.miss u 2)), .v (.int .u8 (Vw.miss u 3)), .v (.int .u8 (Vw.miss u 4)), .v (.int .u8 (Vw.miss u 5)), .v (.int .u8 (Vw.miss u 6)), .v (.int .u8 (Vw.miss u 7)), .v (.int .u8 (Vw.good u 0)), .v (.int .u8 (Vw.good u 1)), .v (.int .u8 (Vw.good u 2)), .v (.int .u8 (Vw.good u 3)), .v (.int .u8 (Vw.good u 4)), .v (.int .u8 (Vw.good u 5)), .v (.int .u8 (Vw.good u 6)), .v (.int .u8 (Vw.good u 7)), .v (.int .u16 (Vw.score u 0)), .v (.int .u16 (Vw.score u 1)), .v (.int .u16 (Vw.score u 2)), .v (.int .u16 (Vw.score u 3)), .v (.int .u16 (Vw.score u 4)), .v (.int .u16 (Vw.score u 5)), .v (.int .u16 (Vw.score u 6)), .v (.int .u16 (Vw.score u 7)), .v (.bool (Vw.got u 0)), .v (.bool (Vw.got u 1)), .v (.bool (Vw.got u 2)), .v (.bool (Vw.got u 3)), .v (.bool (Vw.got u 4)), .v (.bool (Vw.got u 5)), .v (.bool (Vw.got u 6)), .v (.bool (Vw.got u 7)), .v (.int .i8 (Vw.command u)), .v (.int .u8 (Vw.mode u))], [], 100000000000000000000000000000000000000000000000002, (zu (zu (zu (zt (true :: true :: true :: true :: true :: true :: ((decide (Int.ofNat 0 ≤ Int.ofNat 0 ∧ Int.ofNat 0 ≤ Option.getD (some ↑(c.nt)) ↑(c.nt) ∧ Option.getD (some ↑(c.nt)) ↑(c.nt) ≤ slC none (c.nt) (some ↑(c.nt)))) :: true :: (decide (slC none (c.nt) (some ↑(c.nt)) ≤ ↑(Option.getD none (c.nt)))) :: true :: (slRow none (ABlk.mk true true 51 3 (Cs.arr (c.nt) fun k => List.map AC.v ((fun i => [Value.int .i64 (Station.node (stOf (eltZ (ABlk.mk false false 51 3 (Cs.arr (c.nt) fun k => List.map AC.v ((fun i => [Value.int .i64 (Station.node (c.ft i)), Value.int .u32 (Station.safe (c.ft i)), Value.int .i64 (Station.hold (c.ft i))]) k))) 0 0 3) i)), Value.int .u32 (Station.safe (stOf (eltZ (ABlk.mk false false 51 3 (Cs.arr (c.nt) fun k => List.map AC.v ((fun i => [Value.int .i64 (Station.node (c.ft i)), Value.int .u32 (Station.safe (c.ft i)), Value.int .i64 (Station.hold (c.ft i))]) k))) 0 0 3) i)), Value.int .i64 (Station.hold (stOf (eltZ (ABlk.mk false false 51 3 (Cs.arr (c.nt) fun k => List.map AC.v ((fun i => [Value.int .i64 (Station.node (c.ft i)), Value.int .u32 (Station.safe (c.ft i)), Value.int .i64 (Station.hold (c.ft i))]) k))) 0 0 3) i))]) k))) 0 (c.nt)) :: (decide (0 + c.nt ≤ c.nt)) :: (decide (c.nt ≤ 1000000)) :: (stsOk (c.nt) fun k => List.map AC.v ((fun i => [Value.int .i64 (Station.node (c.ft i)), Value.int .u32 (Station.safe (c.ft i)), Value.int .i64 (Station.hold (c.ft i))]) k)) :: true :: true :: (decide (Int.ofNat 0 ≤ Int.ofNat 0 ∧ Int.ofNat 0 ≤ Option.getD (some ↑(0 + c.nb)) ↑(0 + c.nb) ∧ Option.getD (some ↑(0 + c.nb)) ↑(0 + c.nb) ≤ slC none (0 + c.nb) (some ↑(0 + c.nb)))) :: true :: (decide (slC none (0 + c.nb) (some ↑(0 + c.nb)) ≤ ↑(Option.getD none (0 + c.nb)))) :: true :: (slRow none (ABlk.mk true true 3 1 (Cs.arr (0 + c.nb) fun i => if i < 0 then [] else elt (ABlk.mk false false 3 1 (Cs.arr (c.nb) fun k => List.map AC.v ((fun i => [Value.int .i64 (c.fb i)]) k))) 0 0 1 (i - 0))) 0 (0 + c.nb)) :: (decide (0 + c.nb ≤ c.nb)) :: true :: true :: (decide ((0 + c.nb) * 8 ≤ 140737488355328)) :: (ABlk.inb (ABlk.mk false false 3 1 (Cs.arr (c.nb) fun k => List.map AC.v ((fun i => [Value.int .i64 (c.fb i)]) k))) 0 1) :: true :: true :: true :: true :: (decide (Int.ofNat 0 ≤ Int.ofNat 0 ∧ Int.ofNat 0 ≤ Option.getD (some ↑(0 + c.ns)) ↑(0 + c.ns) ∧ Option.getD (some ↑(0 + c.ns)) ↑(0 + c.ns) ≤ slC none (0 + c.ns) (some ↑(0 + c.ns)))) :: true :: (decide (slC none (0 + c.ns) (some ↑(0 + c.ns)) ≤ ↑(Option.getD none (0 + c.ns)))) :: true :: (slRow none (ABlk.mk true true 3 1 (Cs.arr (0 + c.ns) fun i => if i < 0 then [] else elt (ABlk.mk false false 3 1 (Cs.arr (c.ns) fun k => List.map AC.v ((fun i => [Value.int .i64 (c.fs i)]) k))) 0 0 1 (i - 0))) 0 (0 + c.ns)) :: (decide (0 + c.ns ≤ c.ns)) :: true :: true :: (decide ((0 + c.ns) * 8 ≤ 140737488355328)) :: (ABlk.inb (ABlk.mk false false 3 1 (Cs.arr (c.ns) fun k => List.map AC.v ((fun i => [Value.int .i64 (c.fs i)]) k))) 0 1) :: true :: true :: true :: true :: (decide (Int.ofNat 0 ≤ Int.ofNat 0 ∧ Int.ofNat 0 ≤ Option.getD (some ↑(0 + c.np)) ↑(0 + c.np) ∧ Option.getD (some ↑(0 + c.np)) ↑(0 + c.np) ≤ slC none (0 + c.np) (some ↑(0 + c.np)))) :: true :: (decide (slC none (0 + c.np) (some ↑(0 + c.np)) ≤ ↑(Option.getD none (0 + c.np)))) :: true :: (slRow none (ABlk.mk true true 3 1 (Cs.arr (0 + c.np) fun i => if i < 0 then [] else elt (ABlk.mk false false 3 1 (Cs.arr (c.np) fun k => List.map AC.v ((fun i => [Value.int .i64 (c.fp i)]) k))) 0 0 1 (i - 0))) 0 (0 + c.np)) :: (decide (0 + c.np ≤ c.np)) :: true :: true :: (decide ((0 + c.np) * 8 ≤ 140737488355328)) :: (ABlk.inb (ABlk.mk false false 3 1 (Cs.arr (c.np) fun k => List.map AC.v ((fun i => [Value.int .i64 (c.fp i)]) k))) 0 1) :: (zt (true :: (((!decide (↑nq > Int.ofNat 0)) == false) :: true :: []))))))))), [LoopV Tryz.prog (loopAt Tryz.prog 74 0) rdH [1000, 1001, 1128] [some (.c (.ptr 1000 0 0)), some (.c (.ptr 1001 0 0)), some (.c (.ptr 1128 0 0)), some (.c (.v (.int .i64 ↑(Int.toNat (Option.getD (some ↑(0 + c.np)) ↑(0 + c.np) - Int.ofNat 0))))), some (.c (.v (.int .i64 (Int.ofNat 0))))] [some (ABlk.mk true false 59 0 (Cs.lit (vwL v))), some (ABlk.mk true false 59 0 (Cs.lit [.v (.bool false), .v (.bool false), .v (.bool false), .v (.bool false), .v (.bool false), .v (.bool false), .v (.bool false), .v (.bool false), .v (.int .u8 (Int.ofNat 0)), .v (.int .u8 (Int.ofNat 0)), .v (.int .u8 (Int.ofNat 0)), .v (.int .u8 (Int.ofNat 0)), .v (.int .u8 (Int.ofNat 0)), .v (.int .u8 (Int.ofNat 0)), .v (.int .u8 (Int.ofNat 0)), .v (.int .u8 (Int.ofNat 0)), .v (.int .u8 (Int.ofNat 0)), .v (.int .u8 (Int.ofNat 0)), .v (.int .u8 (Int.ofNat 0)), .v (.int .u8 (Int.ofNat 0)), .v (.int .u8 (Int.ofNat 0)), .v (.int .u8 (Int.ofNat 0)), .v (.int .u8 (Int.ofNat 0)), .v (.int .u8 (Int.ofNat 0)), .v (.int .u16 (Int.ofNat 0)), .v (.int .u16 (Int.ofNat 0)), .v (.int .u16 (Int.ofNat 0)), .v (.int .u16 (Int.ofNat 0)), .v (.int .u16 (Int.ofNat 0)), .v (.int .u16 (Int.ofNat 0)), .v (.int .u16 (Int.ofNat 0)), .v (.int .u16 (Int.ofNat 0)), .v (.bool false), .v (.bool false), .v (.bool false), .v (.bool false), .v (.bool false), .v (.bool false), .v (.bool false), .v (.bool false), .v (.int .i8 (Int.ofNat 0)), .v (.int .u8 (Int.ofNat 0))])), some (ABlk.mk true false 25 0 (Cs.lit [.v (.int .i64 (c.nodes)), AC.sl 1043 0 0 (Int.toNat (Option.getD (some ↑(0 + c.np)) ↑(0 + c.np) - Int.ofNat 0)) (some (Int.toNat (↑(0 + c.np) - Int.ofNat 0))), AC.sl 1070 0 0 (Int.toNat (Option.getD (some ↑(0 + c.ns)) ↑(0 + c.ns) - Int.ofNat 0)) (some (Int.toNat (↑(0 + c.ns) - Int.ofNat 0))), .v (.int .i64 (c.long)), AC.sl 1097 0 0 (Int.toNat (Option.getD (some ↑(0 + c.nb)) ↑(0 + c.nb) - Int.ofNat 0)) (some (Int.toNat (↑(0 + c.nb) - Int.ofNat 0))), AC.sl 1114 0 0 (Int.toNat (Option.getD (some ↑(c.nt)) ↑(c.nt) - Int.ofNat 0)) (some (Int.toNat (↑(c.nt) - Int.ofNat 0))), .v (.int .i64 (c.miss)), .v (.int .i64 (c.good)), .v (.int .i64 (c.fresh))]))] 99 1134 (mkFr 99 [(3, .c (.ptr 1000 0 0)), (4, .c (.ptr 1001 0 0))]) [(1000, vwB u), (1001, vwB vw0)] 100000000000000000000000000000000000000000000000000 (Exit.exit 0) none])) :
 ∃ p r, vwE (ENrd Tryz.prog) 74 c nq fq v [] p [none, some (rdS u)] = some r ∧ Q r :=
 ⟨pD 14 1458, _, by kernel_rfl, H⟩
end Go.Proofs.YtfohlkhfnogmdaaGreatDoor
end
section
namespace Go.Proofs.YtfohlkhfnogmdaaGreatDoor
open Go.RowKit
abbrev rdC (c : Cfg) : ABlk := ⟨true, false, 25, 0, .lit [.v (.int .i64 c.nodes), .sl 1043 0 0 c.np (some c.np), .sl 1070 0 0 c.ns (some c.ns), .v (.int .i64 c.long), .sl 1097 0 0 c.nb (some c.nb), .sl 1114 0 0 c.nt (some c.nt), .v (.int .i64 c.miss), .v (.int .i64 c.good), .v (.int .i64 c.fresh)]⟩
abbrev rdI : List Nat := [1000, 1001, 1128]
abbrev mrV (c : Cfg) (k : Nat) : List AV := [.c (.ptr 1000 0 0), .c (.ptr 1001 0 0), .c (.ptr 1128 0 0), i64 (Int.ofNat c.np), i64 (Int.ofNat k)]
def mrR (P : Program) (c : Cfg) (u v : Vw) (k : Nat) (path : List Dec) : Option VC :=
 view (rdH ++ []) rdI (fC (ENrd P) 100 (loopAt P 74 0) 1000000000000000000000000000000000000000000 10000000000000000000000000000000000000000 (stH 99 rdH rdI (mrV c k) [vwB u, vwB v, rdC c] path []))
theorem mrFz (k0Z k1Z : Nat) (hkZ : k0Z < 8 ∧ k1Z = k0Z + 1) (c : Cfg) (u v : Vw) (Q : VC → Prop) (H : let zz0 := (rdC c); let zz1 := [some (lkA (List.zip rdH (mrV c k0Z)) 3), some (lkA (List.zip rdH (mrV c k0Z)) 4), some (lkA (List.zip rdH (mrV c k0Z)) 5), some (lkA (List.zip rdH (mrV c k0Z)) 11), some (AV.c (AC.v (Value.int IntKind.i64 (Int.ofNat k1Z))))]; let zz2 := [AV.c (AC.v (Value.int IntKind.u16 (Vw.score u k0Z)))]; let zz3 := [some (ABlk.mk true false 59 0 (Cs.lit (vwL (updV k0Z (Vw.inn u k0Z) (Int.ofNat 0) (upZ (Vw.good u k0Z)) (rewZ (Vw.score u k0Z)) false u)))), some (ABlk.mk true false 59 0 (Cs.lit (vwL v))), some zz0]; let zz4 := [some (ABlk.mk true false 59 0 (Cs.lit (vwL (updV k0Z (Vw.inn u k0Z) (upZ (Vw.miss u k0Z)) (Int.ofNat 0) (penZ (Vw.score u k0Z)) false u)))), some (ABlk.mk true false 59 0 (Cs.lit (vwL v))), some zz0]; let zz5 := (IntKind.wrap IntKind.i64 (upZ (Vw.good u k0Z)) ≥ Cfg.good c); let zz6 := (IntKind.wrap IntKind.i64 (upZ (Vw.miss u k0Z)) ≥ Cfg.miss c); let zz7 := [AV.c (AC.v (Value.int IntKind.u8 (Vw.good u k0Z)))]; let zz8 := [AV.c (AC.v (Value.int IntKind.u8 (Vw.miss u k0Z)))]; let zz9 := [some (ABlk.mk true false 59 0 (Cs.lit (vwL (updV k0Z true (Int.ofNat 0) (upZ (Vw.good u k0Z)) (rewZ (Vw.score u k0Z)) false u)))), some (ABlk.mk true false 59 0 (Cs.lit (vwL v))), some zz0]; let zz10 := [some (ABlk.mk true false 59 0 (Cs.lit (vwL (updV k0Z true (upZ (Vw.miss u k0Z)) (Int.ofNat 0) (penZ (Vw.score u k0Z)) false u)))), some (ABlk.mk true false 59 0 (Cs.lit (vwL v))), some zz0]; let zt : List Bool → List Bool := fun l => true :: true :: true :: true :: true :: true :: true :: true :: l; let zq0 : List Bool := [true, true, true, decide (Int.ofNat k0Z < Int.ofNat (c.np)) == true]; let zq1 : List Bool := zt (true :: true :: ((scP .u16 zz2) :: true :: true :: true :: true :: (scP .u8 zz7) :: true :: true :: true :: (Vw.got u k0Z == true) :: zq0)); let zq2 : List Bool := true :: true :: true :: true :: true :: (Vw.inn u k0Z == true) :: zq1; let zq3 : List Bool := true :: true :: true :: (decide (Int.ofNat 0 ≥ c.miss) == false) :: zq2; let zq4 : List Bool := true :: true :: true :: true :: true :: ((!Vw.inn u k0Z) == true) :: zq3; let zq5 : List Bool := true :: true :: true :: (Vw.inn u k0Z == false) :: zq1; let zq6 : List Bool := true :: true :: true :: true :: true :: ((!Vw.inn u k0Z) == true) :: zq5; let zq7 : List Bool := zt (true :: true :: ((scP .u16 zz2) :: true :: true :: true :: true :: (scP .u8 zz8) :: true :: true :: true :: (Vw.got u k0Z == false) :: zq0)); let zq8 : List Bool := true :: true :: true :: true :: true :: (Vw.inn u k0Z == true) :: zq7; let zq9 : List Bool := true :: true :: true :: (decide zz6 == false) :: zq8; let zq10 : List Bool := true :: true :: true :: true :: true :: ((!Vw.inn u k0Z) == true) :: zq9; let zq11 : List Bool := true :: true :: true :: (Vw.inn u k0Z == false) :: zq7; let zq12 : List Bool := true :: true :: true :: true :: true :: ((!Vw.inn u k0Z) == true) :: zq11; (((Vw.got u k0Z) = true → (((Vw.inn u k0Z) = true → (((decide (Int.ofNat 0 ≥ c.miss)) = true → Q (Exit.normal, zz1, [some (ABlk.mk true false 59 0 (Cs.lit (vwL (updV k0Z false (Int.ofNat 0) (upZ (Vw.good u k0Z)) (rewZ (Vw.score u k0Z)) false u)))), some (ABlk.mk true false 59 0 (Cs.lit (vwL v))), some zz0], 99, 1370000000000000000000000000000000000000017, (true :: true :: true :: true :: (decide (Int.ofNat 0 ≥ c.miss) == true) :: zq2), [])) ∧ ((decide (Int.ofNat 0 ≥ c.miss)) = false → (((!Vw.inn u k0Z) = true → (((decide zz5) = true → Q (Exit.normal, zz1, zz9, 99, 1530000000000000000000000000000000000000017, (true :: true :: true :: true :: (decide zz5 == true) :: zq4), [])) ∧ ((decide zz5) = false → Q (Exit.normal, zz1, zz3, 99, 1530000000000000000000000000000000000000013, (true :: true :: (decide zz5 == false) :: zq4), [])))) ∧ ((!Vw.inn u k0Z) = false → Q (Exit.normal, zz1, zz3, 99, 1530000000000000000000000000000000000000013, (true :: true :: ((!Vw.inn u k0Z) == false) :: zq3), [])))))) ∧ ((Vw.inn u k0Z) = false → (((!Vw.inn u k0Z) = true → (((decide zz5) = true → Q (Exit.normal, zz1, zz9, 99, 1530000000000000000000000000000000000000017, (true :: true :: true :: true :: (decide zz5 == true) :: zq6), [])) ∧ ((decide zz5) = false → Q (Exit.normal, zz1, zz3, 99, 1530000000000000000000000000000000000000013, (true :: true :: (decide zz5 == false) :: zq6), [])))) ∧ ((!Vw.inn u k0Z) = false → Q (Exit.normal, zz1, zz3, 99, 1530000000000000000000000000000000000000013, (true :: true :: ((!Vw.inn u k0Z) == false) :: zq5), [])))))) ∧ ((Vw.got u k0Z) = false → (((Vw.inn u k0Z) = true → (((decide zz6) = true → Q (Exit.normal, zz1, [some (ABlk.mk true false 59 0 (Cs.lit (vwL (updV k0Z false (upZ (Vw.miss u k0Z)) (Int.ofNat 0) (penZ (Vw.score u k0Z)) false u)))), some (ABlk.mk true false 59 0 (Cs.lit (vwL v))), some zz0], 99, 1370000000000000000000000000000000000000017, (true :: true :: true :: true :: (decide zz6 == true) :: zq8), [])) ∧ ((decide zz6) = false → (((!Vw.inn u k0Z) = true → (((decide (Int.ofNat 0 ≥ c.good)) = true → Q (Exit.normal, zz1, zz10, 99, 1530000000000000000000000000000000000000017, (true :: true :: true :: true :: (decide (Int.ofNat 0 ≥ c.good) == true) :: zq10), [])) ∧ ((decide (Int.ofNat 0 ≥ c.good)) = false → Q (Exit.normal, zz1, zz4, 99, 1530000000000000000000000000000000000000013, (true :: true :: (decide (Int.ofNat 0 ≥ c.good) == false) :: zq10), [])))) ∧ ((!Vw.inn u k0Z) = false → Q (Exit.normal, zz1, zz4, 99, 1530000000000000000000000000000000000000013, (true :: true :: ((!Vw.inn u k0Z) == false) :: zq9), [])))))) ∧ ((Vw.inn u k0Z) = false → (((!Vw.inn u k0Z) = true → (((decide (Int.ofNat 0 ≥ c.good)) = true → Q (Exit.normal, zz1, zz10, 99, 1530000000000000000000000000000000000000017, (true :: true :: true :: true :: (decide (Int.ofNat 0 ≥ c.good) == true) :: zq12), [])) ∧ ((decide (Int.ofNat 0 ≥ c.good)) = false → Q (Exit.normal, zz1, zz4, 99, 1530000000000000000000000000000000000000013, (true :: true :: (decide (Int.ofNat 0 ≥ c.good) == false) :: zq12), [])))) ∧ ((!Vw.inn u k0Z) = false → Q (Exit.normal, zz1, zz4, 99, 1530000000000000000000000000000000000000013, (true :: true :: ((!Vw.inn u k0Z) == false) :: zq11), [])))))))) :
 ∃ p r, mrR Tryz.prog c u v k0Z p = some r ∧ Q r := by
 have hZ : (k0Z = 0 ∧ k1Z = 1) ∨ (k0Z = 1 ∧ k1Z = 2) ∨ (k0Z = 2 ∧ k1Z = 3) ∨ (k0Z = 3 ∧ k1Z = 4) ∨ (k0Z = 4 ∧ k1Z = 5) ∨ (k0Z = 5 ∧ k1Z = 6) ∨ (k0Z = 6 ∧ k1Z = 7) ∨ (k0Z = 7 ∧ k1Z = 8) := by omega
 clear hkZ; rcases hZ with ⟨rfl, rfl⟩ | ⟨rfl, rfl⟩ | ⟨rfl, rfl⟩ | ⟨rfl, rfl⟩ | ⟨rfl, rfl⟩ | ⟨rfl, rfl⟩ | ⟨rfl, rfl⟩ | ⟨rfl, rfl⟩
 all_goals
  exact two H
   (fun g1 => two g1
    (fun g2 => two g2
     (fun g3 => ⟨pD 11 59062, _, by kernel_rfl, g3⟩)
     (fun g3 => two g3
      (fun g4 => two g4
       (fun g5 => ⟨pD 20 1162556725, _, by kernel_rfl, g5⟩)
       (fun g5 => ⟨pD 20 2324818192, _, by kernel_rfl, g5⟩))
      (fun g4 => ⟨pD 20 472405, _, by kernel_rfl, g4⟩)))
    (fun g2 => two g2
     (fun g3 => two g3
      (fun g4 => ⟨pD 20 1162438636, _, by kernel_rfl, g4⟩)
      (fun g4 => ⟨pD 20 2324700103, _, by kernel_rfl, g4⟩))
     (fun g3 => ⟨pD 20 354316, _, by kernel_rfl, g3⟩)))
   (fun g1 => two g1
    (fun g2 => two g2
     (fun g3 => ⟨pD 11 59065, _, by kernel_rfl, g3⟩)
     (fun g3 => two g3
      (fun g4 => two g4
       (fun g5 => ⟨pD 20 1162556728, _, by kernel_rfl, g5⟩)
       (fun g5 => ⟨pD 20 2324818195, _, by kernel_rfl, g5⟩))
      (fun g4 => ⟨pD 20 472408, _, by kernel_rfl, g4⟩)))
    (fun g2 => two g2
     (fun g3 => two g3
      (fun g4 => ⟨pD 20 1162438639, _, by kernel_rfl, g4⟩)
      (fun g4 => ⟨pD 20 2324700106, _, by kernel_rfl, g4⟩))
     (fun g3 => ⟨pD 20 354319, _, by kernel_rfl, g3⟩)))

theorem rdE (c : Cfg) (u v : Vw) (k : Nat) (Q : VC → Prop) (H : Q (Exit.exit 0, [some (lkA (List.zip rdH (mrV c k)) 3), some (lkA (List.zip rdH (mrV c k)) 4), some (lkA (List.zip rdH (mrV c k)) 5), some (lkA (List.zip rdH (mrV c k)) 11), some (lkA (List.zip rdH (mrV c k)) 12)], [some (ABlk.mk true false 59 0 (Cs.lit (vwL u))), some (ABlk.mk true false 59 0 (Cs.lit (vwL v))), some (ABlk.mk true false 25 0 (Cs.lit [.v (.int .i64 (c.nodes)), AC.sl 1043 0 0 (c.np) (some (c.np)), AC.sl 1070 0 0 (c.ns) (some (c.ns)), .v (.int .i64 (c.long)), AC.sl 1097 0 0 (c.nb) (some (c.nb)), AC.sl 1114 0 0 (c.nt) (some (c.nt)), .v (.int .i64 (c.miss)), .v (.int .i64 (c.good)), .v (.int .i64 (c.fresh))]))], 99, 1000000000000000000000000000000000000000001, [decide (Int.ofNat k < Int.ofNat (c.np)) == false], [])) :
 ∃ p r, mrR Tryz.prog c u v k p = some r ∧ Q r :=
 ⟨pD 1 2, _, by kernel_rfl, H⟩
end Go.Proofs.YtfohlkhfnogmdaaGreatDoor
end
section
namespace Go.Proofs.YtfohlkhfnogmdaaGreatDoor
open Go.RowKit
def PosV (v : Vw) : Prop := ∀ i, i < 8 → 0 ≤ v.miss i ∧ 0 ≤ v.good i ∧ 0 ≤ v.score i
def posL (l : List AC) : Bool := (List.range 8).all fun i => decide (0 ≤ asI (l.getD (8 + i) nov)) && (decide (0 ≤ asI (l.getD (16 + i) nov)) && decide (0 ≤ asI (l.getD (24 + i) nov)))
theorem jjay (v : Vw) : posL (vwL v) = true ↔ PosV v := by
 have e : ∀ i, i < 8 → asI ((vwL v).getD (8 + i) nov) = v.miss i ∧ asI ((vwL v).getD (16 + i) nov) = v.good i ∧ asI ((vwL v).getD (24 + i) nov) = v.score i := fun i hi => by
  have a2 := (jjeb v i hi).1; have a3 := (jjec v i hi).1; have a4 := (jj2f v i hi).1; simp only [Nat.mul_one, Int.ofNat_eq_natCast, Int.toNat_natCast] at a2 a3 a4; exact ⟨a2, a3, a4⟩
 unfold posL; rw [List.all_eq_true]; constructor
 · intro h i hi
   have h := h i (List.mem_range.2 hi); obtain ⟨e1, e2, e3⟩ := e i hi; rw [e1, e2, e3] at h; simp only [Bool.and_eq_true, decide_eq_true_eq] at h; exact h
 · intro h i hi
   have hi := List.mem_range.1 hi; obtain ⟨e1, e2, e3⟩ := e i hi; rw [e1, e2, e3]; simp only [Bool.and_eq_true, decide_eq_true_eq]; exact h i hi
def gvPre (c : Cfg) (nq : Nat) : Bool := decide (0 < nq) && (decide (1 ≤ c.np ∧ 1 ≤ c.ns ∧ 1 ≤ c.nb) && (decide (c.np ≤ 1000) && (decide (c.ns ≤ 1000) && (decide (c.nb ≤ 1000) && decide (c.nt ≤ 1000)))))
end Go.Proofs.YtfohlkhfnogmdaaGreatDoor
end
section
namespace Go.Proofs.YtfohlkhfnogmdaaGreatDoor
open Go.RowKit
theorem jj0 {k : Nat} {ms go : Int} {v u : Vw} (hu : rndV ⟨k, ms, go⟩ v = u) {a : Bool} {m x s : Int} (h1 : rIn ⟨k + 1, ms, go⟩ k (v.inn k) (v.got k) (v.miss k) (v.good k) = a := by first | (simp_all [rIn, rMi, rGo, rSc, rndV]; done) | (simp_all [rIn, rMi, rGo, rSc, rndV]; omega) | fail) (h2 : rMi ⟨k + 1, ms, go⟩ k (v.got k) (v.miss k) = m := by first | (simp_all [rIn, rMi, rGo, rSc, rndV]; done) | (simp_all [rIn, rMi, rGo, rSc, rndV]; omega) | fail) (h3 : rGo ⟨k + 1, ms, go⟩ k (v.got k) (v.good k) = x := by first | (simp_all [rIn, rMi, rGo, rSc, rndV]; done) | (simp_all [rIn, rMi, rGo, rSc, rndV]; omega) | fail) (h4 : rSc ⟨k + 1, ms, go⟩ k (v.got k) (v.score k) = s := by first | (simp_all [rIn, rMi, rGo, rSc, rndV]; done) | (simp_all [rIn, rMi, rGo, rSc, rndV]; omega) | fail) :
 rndV ⟨k + 1, ms, go⟩ v = updV k a m x s false u := by
 subst hu h1 h2 h3 h4; unfold rndV updV; have e : ∀ i, i ≠ k → (i < k + 1 ↔ i < k) := fun i h => by omega
 simp only [Vw.mk.injEq, and_true]; refine ⟨?_, ?_, ?_, ?_, ?_⟩ <;> (funext i; by_cases hi : i = k)
 all_goals (first | (subst hi; simp; done) | (subst hi; simp [rGt]; done) | (have e2 := e i hi; by_cases hk : i < k <;> simp [hi, rIn, rMi, rGo, rSc, rGt, hk, e2]))
theorem jje {z : Int} (h : 0 ≤ z) : IntKind.wrap .i64 (upZ z) = upZ z := jj6 _ (by unfold upZ; omega) (by unfold upZ; omega)
def RdNx (c : Cfg) (v w : Vw) (k : Nat) (r : VC) : Prop :=
 allT r.2.2.2.2.2.1 ∧ r.2.2.2.2.2.2 = [] ∧ r.2.2.2.2.1 ≤ 100000000000000000000000000000000000000000000000000 ∧ r.2.2.2.1 = 99 ∧ r.1 = .normal ∧ r.2.1 = (mrV c (k + 1)).map some ∧ r.2.2.1 = [some (vwB (rndV ⟨k + 1, c.miss, c.good⟩ v)), some (vwB w), some (rdC c)]
set_option maxRecDepth 100000 in
theorem jjle (c : Cfg) (v w : Vw) (hk : 0 < c.np) (hp : PosV v) : ∃ p r, mrR Tryz.prog c (rndV ⟨0, c.miss, c.good⟩ v) w 0 p = some r ∧ RdNx c v w 0 r := by
 obtain ⟨p1, p2, p3⟩ := hp 0 (by omega); obtain ⟨u, hu⟩ : ∃ u, rndV ⟨0, c.miss, c.good⟩ v = u := ⟨_, rfl⟩
 have e1 : u.inn 0 = v.inn 0 := by rw [← hu]; rfl
 have e2 : u.got 0 = v.got 0 := by rw [← hu]; rfl
 have e3 : u.miss 0 = v.miss 0 := by rw [← hu]; rfl
 have e4 : u.good 0 = v.good 0 := by rw [← hu]; rfl
 have e5 : u.score 0 = v.score 0 := by rw [← hu]; rfl
 have w1 := jje p1; have w2 := jje p2; rw [hu]; refine (mrFz 0 1 ⟨by decide, rfl⟩) c u w _ ?_; simp only [e1, e2, e3, e4, e5, w1, w2]
 (repeat' (first | refine ⟨fun h => ?_, fun h => ?_⟩ | fail))
 all_goals (first | (exfalso; simp_all; done) | skip)
 all_goals (refine ⟨?_, rfl, by dsimp only; omega, rfl, rfl, rfl, ?_⟩)
 all_goals first
  | (rw [jj0 (k := 0) (ms := c.miss) (go := c.good) (v := v) (u := u) hu (a := true) (m := 0) (x := upZ (v.good 0)) (s := rewZ (v.score 0))]; rfl)
  | (rw [jj0 (k := 0) (ms := c.miss) (go := c.good) (v := v) (u := u) hu (a := true) (m := upZ (v.miss 0)) (x := 0) (s := penZ (v.score 0))]; rfl)
  | (rw [jj0 (k := 0) (ms := c.miss) (go := c.good) (v := v) (u := u) hu (a := false) (m := 0) (x := upZ (v.good 0)) (s := rewZ (v.score 0))]; rfl)
  | (rw [jj0 (k := 0) (ms := c.miss) (go := c.good) (v := v) (u := u) hu (a := false) (m := upZ (v.miss 0)) (x := 0) (s := penZ (v.score 0))]; rfl)
  | (rw [jj0 (k := 0) (ms := c.miss) (go := c.good) (v := v) (u := u) hu (a := v.inn 0) (m := 0) (x := upZ (v.good 0)) (s := rewZ (v.score 0))]; rfl)
  | (rw [jj0 (k := 0) (ms := c.miss) (go := c.good) (v := v) (u := u) hu (a := v.inn 0) (m := upZ (v.miss 0)) (x := 0) (s := penZ (v.score 0))]; rfl)
  | (simp_all [allT, scP]; done)
  | (simp_all [allT, scP]; omega)
set_option maxRecDepth 100000 in
theorem jjld (c : Cfg) (v w : Vw) (hk : 1 < c.np) (hp : PosV v) : ∃ p r, mrR Tryz.prog c (rndV ⟨1, c.miss, c.good⟩ v) w 1 p = some r ∧ RdNx c v w 1 r := by
 obtain ⟨p1, p2, p3⟩ := hp 1 (by omega); obtain ⟨u, hu⟩ : ∃ u, rndV ⟨1, c.miss, c.good⟩ v = u := ⟨_, rfl⟩
 have e1 : u.inn 1 = v.inn 1 := by rw [← hu]; rfl
 have e2 : u.got 1 = v.got 1 := by rw [← hu]; rfl
 have e3 : u.miss 1 = v.miss 1 := by rw [← hu]; rfl
 have e4 : u.good 1 = v.good 1 := by rw [← hu]; rfl
 have e5 : u.score 1 = v.score 1 := by rw [← hu]; rfl
 have w1 := jje p1; have w2 := jje p2; rw [hu]; refine (mrFz 1 2 ⟨by decide, rfl⟩) c u w _ ?_; simp only [e1, e2, e3, e4, e5, w1, w2]
 (repeat' (first | refine ⟨fun h => ?_, fun h => ?_⟩ | fail))
 all_goals (first | (exfalso; simp_all; done) | skip)
 all_goals (refine ⟨?_, rfl, by dsimp only; omega, rfl, rfl, rfl, ?_⟩)
 all_goals first
  | (rw [jj0 (k := 1) (ms := c.miss) (go := c.good) (v := v) (u := u) hu (a := true) (m := 0) (x := upZ (v.good 1)) (s := rewZ (v.score 1))]; rfl)
  | (rw [jj0 (k := 1) (ms := c.miss) (go := c.good) (v := v) (u := u) hu (a := true) (m := upZ (v.miss 1)) (x := 0) (s := penZ (v.score 1))]; rfl)
  | (rw [jj0 (k := 1) (ms := c.miss) (go := c.good) (v := v) (u := u) hu (a := false) (m := 0) (x := upZ (v.good 1)) (s := rewZ (v.score 1))]; rfl)
  | (rw [jj0 (k := 1) (ms := c.miss) (go := c.good) (v := v) (u := u) hu (a := false) (m := upZ (v.miss 1)) (x := 0) (s := penZ (v.score 1))]; rfl)
  | (rw [jj0 (k := 1) (ms := c.miss) (go := c.good) (v := v) (u := u) hu (a := v.inn 1) (m := 0) (x := upZ (v.good 1)) (s := rewZ (v.score 1))]; rfl)
  | (rw [jj0 (k := 1) (ms := c.miss) (go := c.good) (v := v) (u := u) hu (a := v.inn 1) (m := upZ (v.miss 1)) (x := 0) (s := penZ (v.score 1))]; rfl)
  | (simp_all [allT, scP]; done)
  | (simp_all [allT, scP]; omega)
set_option maxRecDepth 100000 in
theorem jjlc (c : Cfg) (v w : Vw) (hk : 2 < c.np) (hp : PosV v) : ∃ p r, mrR Tryz.prog c (rndV ⟨2, c.miss, c.good⟩ v) w 2 p = some r ∧ RdNx c v w 2 r := by
 obtain ⟨p1, p2, p3⟩ := hp 2 (by omega); obtain ⟨u, hu⟩ : ∃ u, rndV ⟨2, c.miss, c.good⟩ v = u := ⟨_, rfl⟩
 have e1 : u.inn 2 = v.inn 2 := by rw [← hu]; rfl
 have e2 : u.got 2 = v.got 2 := by rw [← hu]; rfl
 have e3 : u.miss 2 = v.miss 2 := by rw [← hu]; rfl
 have e4 : u.good 2 = v.good 2 := by rw [← hu]; rfl
 have e5 : u.score 2 = v.score 2 := by rw [← hu]; rfl
 have w1 := jje p1; have w2 := jje p2; rw [hu]; refine (mrFz 2 3 ⟨by decide, rfl⟩) c u w _ ?_; simp only [e1, e2, e3, e4, e5, w1, w2]
 (repeat' (first | refine ⟨fun h => ?_, fun h => ?_⟩ | fail))
 all_goals (first | (exfalso; simp_all; done) | skip)
 all_goals (refine ⟨?_, rfl, by dsimp only; omega, rfl, rfl, rfl, ?_⟩)
 all_goals first
  | (rw [jj0 (k := 2) (ms := c.miss) (go := c.good) (v := v) (u := u) hu (a := true) (m := 0) (x := upZ (v.good 2)) (s := rewZ (v.score 2))]; rfl)
  | (rw [jj0 (k := 2) (ms := c.miss) (go := c.good) (v := v) (u := u) hu (a := true) (m := upZ (v.miss 2)) (x := 0) (s := penZ (v.score 2))]; rfl)
  | (rw [jj0 (k := 2) (ms := c.miss) (go := c.good) (v := v) (u := u) hu (a := false) (m := 0) (x := upZ (v.good 2)) (s := rewZ (v.score 2))]; rfl)
  | (rw [jj0 (k := 2) (ms := c.miss) (go := c.good) (v := v) (u := u) hu (a := false) (m := upZ (v.miss 2)) (x := 0) (s := penZ (v.score 2))]; rfl)
  | (rw [jj0 (k := 2) (ms := c.miss) (go := c.good) (v := v) (u := u) hu (a := v.inn 2) (m := 0) (x := upZ (v.good 2)) (s := rewZ (v.score 2))]; rfl)
  | (rw [jj0 (k := 2) (ms := c.miss) (go := c.good) (v := v) (u := u) hu (a := v.inn 2) (m := upZ (v.miss 2)) (x := 0) (s := penZ (v.score 2))]; rfl)
  | (simp_all [allT, scP]; done)
  | (simp_all [allT, scP]; omega)
set_option maxRecDepth 100000 in
theorem jjlb (c : Cfg) (v w : Vw) (hk : 3 < c.np) (hp : PosV v) : ∃ p r, mrR Tryz.prog c (rndV ⟨3, c.miss, c.good⟩ v) w 3 p = some r ∧ RdNx c v w 3 r := by
 obtain ⟨p1, p2, p3⟩ := hp 3 (by omega); obtain ⟨u, hu⟩ : ∃ u, rndV ⟨3, c.miss, c.good⟩ v = u := ⟨_, rfl⟩
 have e1 : u.inn 3 = v.inn 3 := by rw [← hu]; rfl
 have e2 : u.got 3 = v.got 3 := by rw [← hu]; rfl
 have e3 : u.miss 3 = v.miss 3 := by rw [← hu]; rfl
 have e4 : u.good 3 = v.good 3 := by rw [← hu]; rfl
 have e5 : u.score 3 = v.score 3 := by rw [← hu]; rfl
 have w1 := jje p1; have w2 := jje p2; rw [hu]; refine (mrFz 3 4 ⟨by decide, rfl⟩) c u w _ ?_; simp only [e1, e2, e3, e4, e5, w1, w2]
 (repeat' (first | refine ⟨fun h => ?_, fun h => ?_⟩ | fail))
 all_goals (first | (exfalso; simp_all; done) | skip)
 all_goals (refine ⟨?_, rfl, by dsimp only; omega, rfl, rfl, rfl, ?_⟩)
 all_goals first
  | (rw [jj0 (k := 3) (ms := c.miss) (go := c.good) (v := v) (u := u) hu (a := true) (m := 0) (x := upZ (v.good 3)) (s := rewZ (v.score 3))]; rfl)
  | (rw [jj0 (k := 3) (ms := c.miss) (go := c.good) (v := v) (u := u) hu (a := true) (m := upZ (v.miss 3)) (x := 0) (s := penZ (v.score 3))]; rfl)
  | (rw [jj0 (k := 3) (ms := c.miss) (go := c.good) (v := v) (u := u) hu (a := false) (m := 0) (x := upZ (v.good 3)) (s := rewZ (v.score 3))]; rfl)
  | (rw [jj0 (k := 3) (ms := c.miss) (go := c.good) (v := v) (u := u) hu (a := false) (m := upZ (v.miss 3)) (x := 0) (s := penZ (v.score 3))]; rfl)
  | (rw [jj0 (k := 3) (ms := c.miss) (go := c.good) (v := v) (u := u) hu (a := v.inn 3) (m := 0) (x := upZ (v.good 3)) (s := rewZ (v.score 3))]; rfl)
  | (rw [jj0 (k := 3) (ms := c.miss) (go := c.good) (v := v) (u := u) hu (a := v.inn 3) (m := upZ (v.miss 3)) (x := 0) (s := penZ (v.score 3))]; rfl)
  | (simp_all [allT, scP]; done)
  | (simp_all [allT, scP]; omega)
set_option maxRecDepth 100000 in
theorem jjla (c : Cfg) (v w : Vw) (hk : 4 < c.np) (hp : PosV v) : ∃ p r, mrR Tryz.prog c (rndV ⟨4, c.miss, c.good⟩ v) w 4 p = some r ∧ RdNx c v w 4 r := by
 obtain ⟨p1, p2, p3⟩ := hp 4 (by omega); obtain ⟨u, hu⟩ : ∃ u, rndV ⟨4, c.miss, c.good⟩ v = u := ⟨_, rfl⟩
 have e1 : u.inn 4 = v.inn 4 := by rw [← hu]; rfl
 have e2 : u.got 4 = v.got 4 := by rw [← hu]; rfl
 have e3 : u.miss 4 = v.miss 4 := by rw [← hu]; rfl
 have e4 : u.good 4 = v.good 4 := by rw [← hu]; rfl
 have e5 : u.score 4 = v.score 4 := by rw [← hu]; rfl
 have w1 := jje p1; have w2 := jje p2; rw [hu]; refine (mrFz 4 5 ⟨by decide, rfl⟩) c u w _ ?_; simp only [e1, e2, e3, e4, e5, w1, w2]
 (repeat' (first | refine ⟨fun h => ?_, fun h => ?_⟩ | fail))
 all_goals (first | (exfalso; simp_all; done) | skip)
 all_goals (refine ⟨?_, rfl, by dsimp only; omega, rfl, rfl, rfl, ?_⟩)
 all_goals first
  | (rw [jj0 (k := 4) (ms := c.miss) (go := c.good) (v := v) (u := u) hu (a := true) (m := 0) (x := upZ (v.good 4)) (s := rewZ (v.score 4))]; rfl)
  | (rw [jj0 (k := 4) (ms := c.miss) (go := c.good) (v := v) (u := u) hu (a := true) (m := upZ (v.miss 4)) (x := 0) (s := penZ (v.score 4))]; rfl)
  | (rw [jj0 (k := 4) (ms := c.miss) (go := c.good) (v := v) (u := u) hu (a := false) (m := 0) (x := upZ (v.good 4)) (s := rewZ (v.score 4))]; rfl)
  | (rw [jj0 (k := 4) (ms := c.miss) (go := c.good) (v := v) (u := u) hu (a := false) (m := upZ (v.miss 4)) (x := 0) (s := penZ (v.score 4))]; rfl)
  | (rw [jj0 (k := 4) (ms := c.miss) (go := c.good) (v := v) (u := u) hu (a := v.inn 4) (m := 0) (x := upZ (v.good 4)) (s := rewZ (v.score 4))]; rfl)
  | (rw [jj0 (k := 4) (ms := c.miss) (go := c.good) (v := v) (u := u) hu (a := v.inn 4) (m := upZ (v.miss 4)) (x := 0) (s := penZ (v.score 4))]; rfl)
  | (simp_all [allT, scP]; done)
  | (simp_all [allT, scP]; omega)
set_option maxRecDepth 100000 in
theorem jjl9 (c : Cfg) (v w : Vw) (hk : 5 < c.np) (hp : PosV v) : ∃ p r, mrR Tryz.prog c (rndV ⟨5, c.miss, c.good⟩ v) w 5 p = some r ∧ RdNx c v w 5 r := by
 obtain ⟨p1, p2, p3⟩ := hp 5 (by omega); obtain ⟨u, hu⟩ : ∃ u, rndV ⟨5, c.miss, c.good⟩ v = u := ⟨_, rfl⟩
 have e1 : u.inn 5 = v.inn 5 := by rw [← hu]; rfl
 have e2 : u.got 5 = v.got 5 := by rw [← hu]; rfl
 have e3 : u.miss 5 = v.miss 5 := by rw [← hu]; rfl
 have e4 : u.good 5 = v.good 5 := by rw [← hu]; rfl
 have e5 : u.score 5 = v.score 5 := by rw [← hu]; rfl
 have w1 := jje p1; have w2 := jje p2; rw [hu]; refine (mrFz 5 6 ⟨by decide, rfl⟩) c u w _ ?_; simp only [e1, e2, e3, e4, e5, w1, w2]
 (repeat' (first | refine ⟨fun h => ?_, fun h => ?_⟩ | fail))
 all_goals (first | (exfalso; simp_all; done) | skip)
 all_goals (refine ⟨?_, rfl, by dsimp only; omega, rfl, rfl, rfl, ?_⟩)
 all_goals first
  | (rw [jj0 (k := 5) (ms := c.miss) (go := c.good) (v := v) (u := u) hu (a := true) (m := 0) (x := upZ (v.good 5)) (s := rewZ (v.score 5))]; rfl)
  | (rw [jj0 (k := 5) (ms := c.miss) (go := c.good) (v := v) (u := u) hu (a := true) (m := upZ (v.miss 5)) (x := 0) (s := penZ (v.score 5))]; rfl)
  | (rw [jj0 (k := 5) (ms := c.miss) (go := c.good) (v := v) (u := u) hu (a := false) (m := 0) (x := upZ (v.good 5)) (s := rewZ (v.score 5))]; rfl)
  | (rw [jj0 (k := 5) (ms := c.miss) (go := c.good) (v := v) (u := u) hu (a := false) (m := upZ (v.miss 5)) (x := 0) (s := penZ (v.score 5))]; rfl)
  | (rw [jj0 (k := 5) (ms := c.miss) (go := c.good) (v := v) (u := u) hu (a := v.inn 5) (m := 0) (x := upZ (v.good 5)) (s := rewZ (v.score 5))]; rfl)
  | (rw [jj0 (k := 5) (ms := c.miss) (go := c.good) (v := v) (u := u) hu (a := v.inn 5) (m := upZ (v.miss 5)) (x := 0) (s := penZ (v.score 5))]; rfl)
  | (simp_all [allT, scP]; done)
  | (simp_all [allT, scP]; omega)
set_option maxRecDepth 100000 in
theorem jjl8 (c : Cfg) (v w : Vw) (hk : 6 < c.np) (hp : PosV v) : ∃ p r, mrR Tryz.prog c (rndV ⟨6, c.miss, c.good⟩ v) w 6 p = some r ∧ RdNx c v w 6 r := by
 obtain ⟨p1, p2, p3⟩ := hp 6 (by omega); obtain ⟨u, hu⟩ : ∃ u, rndV ⟨6, c.miss, c.good⟩ v = u := ⟨_, rfl⟩
 have e1 : u.inn 6 = v.inn 6 := by rw [← hu]; rfl
 have e2 : u.got 6 = v.got 6 := by rw [← hu]; rfl
 have e3 : u.miss 6 = v.miss 6 := by rw [← hu]; rfl
 have e4 : u.good 6 = v.good 6 := by rw [← hu]; rfl
 have e5 : u.score 6 = v.score 6 := by rw [← hu]; rfl
 have w1 := jje p1; have w2 := jje p2; rw [hu]; refine (mrFz 6 7 ⟨by decide, rfl⟩) c u w _ ?_; simp only [e1, e2, e3, e4, e5, w1, w2]
 (repeat' (first | refine ⟨fun h => ?_, fun h => ?_⟩ | fail))
 all_goals (first | (exfalso; simp_all; done) | skip)
 all_goals (refine ⟨?_, rfl, by dsimp only; omega, rfl, rfl, rfl, ?_⟩)
 all_goals first
  | (rw [jj0 (k := 6) (ms := c.miss) (go := c.good) (v := v) (u := u) hu (a := true) (m := 0) (x := upZ (v.good 6)) (s := rewZ (v.score 6))]; rfl)
  | (rw [jj0 (k := 6) (ms := c.miss) (go := c.good) (v := v) (u := u) hu (a := true) (m := upZ (v.miss 6)) (x := 0) (s := penZ (v.score 6))]; rfl)
  | (rw [jj0 (k := 6) (ms := c.miss) (go := c.good) (v := v) (u := u) hu (a := false) (m := 0) (x := upZ (v.good 6)) (s := rewZ (v.score 6))]; rfl)
  | (rw [jj0 (k := 6) (ms := c.miss) (go := c.good) (v := v) (u := u) hu (a := false) (m := upZ (v.miss 6)) (x := 0) (s := penZ (v.score 6))]; rfl)
  | (rw [jj0 (k := 6) (ms := c.miss) (go := c.good) (v := v) (u := u) hu (a := v.inn 6) (m := 0) (x := upZ (v.good 6)) (s := rewZ (v.score 6))]; rfl)
  | (rw [jj0 (k := 6) (ms := c.miss) (go := c.good) (v := v) (u := u) hu (a := v.inn 6) (m := upZ (v.miss 6)) (x := 0) (s := penZ (v.score 6))]; rfl)
  | (simp_all [allT, scP]; done)
  | (simp_all [allT, scP]; omega)
set_option maxRecDepth 100000 in
theorem jjl7 (c : Cfg) (v w : Vw) (hk : 7 < c.np) (hp : PosV v) : ∃ p r, mrR Tryz.prog c (rndV ⟨7, c.miss, c.good⟩ v) w 7 p = some r ∧ RdNx c v w 7 r := by
 obtain ⟨p1, p2, p3⟩ := hp 7 (by omega); obtain ⟨u, hu⟩ : ∃ u, rndV ⟨7, c.miss, c.good⟩ v = u := ⟨_, rfl⟩
 have e1 : u.inn 7 = v.inn 7 := by rw [← hu]; rfl
 have e2 : u.got 7 = v.got 7 := by rw [← hu]; rfl
 have e3 : u.miss 7 = v.miss 7 := by rw [← hu]; rfl
 have e4 : u.good 7 = v.good 7 := by rw [← hu]; rfl
 have e5 : u.score 7 = v.score 7 := by rw [← hu]; rfl
 have w1 := jje p1; have w2 := jje p2; rw [hu]; refine (mrFz 7 8 ⟨by decide, rfl⟩) c u w _ ?_; simp only [e1, e2, e3, e4, e5, w1, w2]
 (repeat' (first | refine ⟨fun h => ?_, fun h => ?_⟩ | fail))
 all_goals (first | (exfalso; simp_all; done) | skip)
 all_goals (refine ⟨?_, rfl, by dsimp only; omega, rfl, rfl, rfl, ?_⟩)
 all_goals first
  | (rw [jj0 (k := 7) (ms := c.miss) (go := c.good) (v := v) (u := u) hu (a := true) (m := 0) (x := upZ (v.good 7)) (s := rewZ (v.score 7))]; rfl)
  | (rw [jj0 (k := 7) (ms := c.miss) (go := c.good) (v := v) (u := u) hu (a := true) (m := upZ (v.miss 7)) (x := 0) (s := penZ (v.score 7))]; rfl)
  | (rw [jj0 (k := 7) (ms := c.miss) (go := c.good) (v := v) (u := u) hu (a := false) (m := 0) (x := upZ (v.good 7)) (s := rewZ (v.score 7))]; rfl)
  | (rw [jj0 (k := 7) (ms := c.miss) (go := c.good) (v := v) (u := u) hu (a := false) (m := upZ (v.miss 7)) (x := 0) (s := penZ (v.score 7))]; rfl)
  | (rw [jj0 (k := 7) (ms := c.miss) (go := c.good) (v := v) (u := u) hu (a := v.inn 7) (m := 0) (x := upZ (v.good 7)) (s := rewZ (v.score 7))]; rfl)
  | (rw [jj0 (k := 7) (ms := c.miss) (go := c.good) (v := v) (u := u) hu (a := v.inn 7) (m := upZ (v.miss 7)) (x := 0) (s := penZ (v.score 7))]; rfl)
  | (simp_all [allT, scP]; done)
  | (simp_all [allT, scP]; omega)
end Go.Proofs.YtfohlkhfnogmdaaGreatDoor
end
section
namespace Go.Proofs.YtfohlkhfnogmdaaGreatDoor
open Go.RowKit
def ctsRv : List (FuncId × CtF) := [(136, ctScB .u8 upZ), (138, ctScB .u16 penZ), (137, ctScB .u16 rewZ)]
theorem jjgx : ∀ f g, (f, g) ∈ ctsRv → CtOk Tryz.prog f g := by
 intro f g h; simp only [ctsRv, List.mem_cons, Prod.mk.injEq, List.not_mem_nil, or_false] at h; rcases h with ⟨rfl, rfl⟩ | ⟨rfl, rfl⟩ | ⟨rfl, rfl⟩
 · exact jjm7
 · exact jjjo
 · exact jjjn
def ENrv (P : Program) : Env := ⟨P, ctsRv⟩
theorem hENrv : EnvOk (ENrv Tryz.prog) := jj6q jjgx (by kernel_rfl) (by kernel_rfl)
abbrev rvH : List Nat := [2, 3, 4, 5]
abbrev rvI : List Nat := [1000, 1001, 1002]
abbrev rvV (k : Nat) : List AV := [.c (.ptr 1000 0 0), .c (.ptr 1001 0 0), .c (.ptr 1002 0 0), i64 (Int.ofNat k)]
def rvR (P : Program) (c : Cfg) (u : Vw) (k : Nat) (path : List Dec) : Option VC :=
 view (rvH ++ []) rvI (fC (ENrv P) 100 (loopAt P 77 0) 1000000000000000000000000000000000000000000 10000000000000000000000000000000000000000 (stH 93 rvH rvI (rvV k) [cfgB c, vwB u, vwB vw0] path []))
theorem rvFz (k0Z k1Z : Nat) (hkZ : k0Z < 8 ∧ k1Z = k0Z + 1) (c : Cfg) (u : Vw) (Q : VC → Prop) (H : let zz0 := (vwB vw0); let zz1 := (cfgB c); let zz2 := [some (lkA (List.zip rvH (rvV k0Z)) 2), some (lkA (List.zip rvH (rvV k0Z)) 3), some (lkA (List.zip rvH (rvV k0Z)) 4), some (AV.c (AC.v (Value.int IntKind.i64 (Int.ofNat k1Z))))]; let zz3 := [AV.c (AC.v (Value.int IntKind.u16 (Vw.score u k0Z)))]; let zz4 := (IntKind.wrap IntKind.i64 (upZ (Vw.good u k0Z)) ≥ Cfg.good c); let zz5 := [some zz1, some (ABlk.mk true false 59 0 (Cs.lit (vwL (updV k0Z (Vw.inn u k0Z) (Int.ofNat 0) (upZ (Vw.good u k0Z)) (rewZ (Vw.score u k0Z)) false u)))), some zz0]; let zz6 := [some zz1, some (ABlk.mk true false 59 0 (Cs.lit (vwL (updV k0Z (Vw.inn u k0Z) (upZ (Vw.miss u k0Z)) (Int.ofNat 0) (penZ (Vw.score u k0Z)) false u)))), some zz0]; let zz7 := (IntKind.wrap IntKind.i64 (upZ (Vw.miss u k0Z)) ≥ Cfg.miss c); let zz8 := [AV.c (AC.v (Value.int IntKind.u8 (Vw.good u k0Z)))]; let zz9 := [AV.c (AC.v (Value.int IntKind.u8 (Vw.miss u k0Z)))]; let zz10 := [some zz1, some (ABlk.mk true false 59 0 (Cs.lit (vwL (updV k0Z true (Int.ofNat 0) (upZ (Vw.good u k0Z)) (rewZ (Vw.score u k0Z)) false u)))), some zz0]; let zz11 := [some zz1, some (ABlk.mk true false 59 0 (Cs.lit (vwL (updV k0Z true (upZ (Vw.miss u k0Z)) (Int.ofNat 0) (penZ (Vw.score u k0Z)) false u)))), some zz0]; let zq0 : List Bool := [true, true, true, true, true, true, decide (Int.ofNat k0Z < ↑(c.np)) == true, true]; let zq1 : List Bool := true :: true :: true :: (scPB .u16 zz3) :: true :: true :: true :: true :: true :: true :: (scPB .u8 zz8) :: true :: true :: true :: true :: true :: (Vw.got u k0Z == true) :: zq0; let zq2 : List Bool := true :: true :: true :: true :: true :: (Vw.inn u k0Z == true) :: zq1; let zq3 : List Bool := true :: true :: (decide (Int.ofNat 0 ≥ c.miss) == true) :: zq2; let zq4 : List Bool := true :: true :: true :: true :: true :: ((!Vw.inn u k0Z) == true) :: zq3; let zq5 : List Bool := (decide (Int.ofNat 0 ≥ c.miss) == false) :: zq2; let zq6 : List Bool := true :: true :: true :: true :: true :: ((!Vw.inn u k0Z) == true) :: zq5; let zq7 : List Bool := (Vw.inn u k0Z == false) :: zq1; let zq8 : List Bool := true :: true :: true :: true :: true :: ((!Vw.inn u k0Z) == true) :: zq7; let zq9 : List Bool := true :: true :: true :: (scPB .u16 zz3) :: true :: true :: true :: true :: true :: true :: (scPB .u8 zz9) :: true :: true :: true :: true :: true :: (Vw.got u k0Z == false) :: zq0; let zq10 : List Bool := true :: true :: true :: true :: true :: (Vw.inn u k0Z == true) :: zq9; let zq11 : List Bool := true :: true :: (decide zz7 == true) :: zq10; let zq12 : List Bool := true :: true :: true :: true :: true :: ((!Vw.inn u k0Z) == true) :: zq11; let zq13 : List Bool := (decide zz7 == false) :: zq10; let zq14 : List Bool := true :: true :: true :: true :: true :: ((!Vw.inn u k0Z) == true) :: zq13; let zq15 : List Bool := (Vw.inn u k0Z == false) :: zq9; let zq16 : List Bool := true :: true :: true :: true :: true :: ((!Vw.inn u k0Z) == true) :: zq15; (((Vw.got u k0Z) = true → (((Vw.inn u k0Z) = true → (((decide (Int.ofNat 0 ≥ c.miss)) = true → (((!Vw.inn u k0Z) = true → (((decide zz4) = true → Q (Exit.normal, zz2, zz10, 93, 1230000000000000000000000000000000000000049, (true :: true :: true :: true :: (decide zz4 == true) :: zq4), [])) ∧ ((decide zz4) = false → Q (Exit.normal, zz2, [some zz1, some (ABlk.mk true false 59 0 (Cs.lit (vwL (updV k0Z false (Int.ofNat 0) (upZ (Vw.good u k0Z)) (rewZ (Vw.score u k0Z)) false u)))), some zz0], 93, 1230000000000000000000000000000000000000045, (true :: true :: (decide zz4 == false) :: zq4), [])))) ∧ ((!Vw.inn u k0Z) = false → Q (Exit.normal, zz2, [some zz1, some (ABlk.mk true false 59 0 (Cs.lit (vwL (updV k0Z false (Int.ofNat 0) (upZ (Vw.good u k0Z)) (rewZ (Vw.score u k0Z)) false u)))), some zz0], 93, 1230000000000000000000000000000000000000045, (true :: true :: ((!Vw.inn u k0Z) == false) :: zq3), [])))) ∧ ((decide (Int.ofNat 0 ≥ c.miss)) = false → (((!Vw.inn u k0Z) = true → (((decide zz4) = true → Q (Exit.normal, zz2, zz10, 93, 1230000000000000000000000000000000000000045, (true :: true :: true :: true :: (decide zz4 == true) :: zq6), [])) ∧ ((decide zz4) = false → Q (Exit.normal, zz2, zz5, 93, 1230000000000000000000000000000000000000041, (true :: true :: (decide zz4 == false) :: zq6), [])))) ∧ ((!Vw.inn u k0Z) = false → Q (Exit.normal, zz2, zz5, 93, 1230000000000000000000000000000000000000041, (true :: true :: ((!Vw.inn u k0Z) == false) :: zq5), [])))))) ∧ ((Vw.inn u k0Z) = false → (((!Vw.inn u k0Z) = true → (((decide zz4) = true → Q (Exit.normal, zz2, zz10, 93, 1230000000000000000000000000000000000000045, (true :: true :: true :: true :: (decide zz4 == true) :: zq8), [])) ∧ ((decide zz4) = false → Q (Exit.normal, zz2, zz5, 93, 1230000000000000000000000000000000000000041, (true :: true :: (decide zz4 == false) :: zq8), [])))) ∧ ((!Vw.inn u k0Z) = false → Q (Exit.normal, zz2, zz5, 93, 1230000000000000000000000000000000000000041, (true :: true :: ((!Vw.inn u k0Z) == false) :: zq7), [])))))) ∧ ((Vw.got u k0Z) = false → (((Vw.inn u k0Z) = true → (((decide zz7) = true → (((!Vw.inn u k0Z) = true → (((decide (Int.ofNat 0 ≥ c.good)) = true → Q (Exit.normal, zz2, zz11, 93, 1230000000000000000000000000000000000000049, (true :: true :: true :: true :: (decide (Int.ofNat 0 ≥ c.good) == true) :: zq12), [])) ∧ ((decide (Int.ofNat 0 ≥ c.good)) = false → Q (Exit.normal, zz2, [some zz1, some (ABlk.mk true false 59 0 (Cs.lit (vwL (updV k0Z false (upZ (Vw.miss u k0Z)) (Int.ofNat 0) (penZ (Vw.score u k0Z)) false u)))), some zz0], 93, 1230000000000000000000000000000000000000045, (true :: true :: (decide (Int.ofNat 0 ≥ c.good) == false) :: zq12), [])))) ∧ ((!Vw.inn u k0Z) = false → Q (Exit.normal, zz2, [some zz1, some (ABlk.mk true false 59 0 (Cs.lit (vwL (updV k0Z false (upZ (Vw.miss u k0Z)) (Int.ofNat 0) (penZ (Vw.score u k0Z)) false u)))), some zz0], 93, 1230000000000000000000000000000000000000045, (true :: true :: ((!Vw.inn u k0Z) == false) :: zq11), [])))) ∧ ((decide zz7) = false → (((!Vw.inn u k0Z) = true → (((decide (Int.ofNat 0 ≥ c.good)) = true → Q (Exit.normal, zz2, zz11, 93, 1230000000000000000000000000000000000000045, (true :: true :: true :: true :: (decide (Int.ofNat 0 ≥ c.good) == true) :: zq14), [])) ∧ ((decide (Int.ofNat 0 ≥ c.good)) = false → Q (Exit.normal, zz2, zz6, 93, 1230000000000000000000000000000000000000041, (true :: true :: (decide (Int.ofNat 0 ≥ c.good) == false) :: zq14), [])))) ∧ ((!Vw.inn u k0Z) = false → Q (Exit.normal, zz2, zz6, 93, 1230000000000000000000000000000000000000041, (true :: true :: ((!Vw.inn u k0Z) == false) :: zq13), [])))))) ∧ ((Vw.inn u k0Z) = false → (((!Vw.inn u k0Z) = true → (((decide (Int.ofNat 0 ≥ c.good)) = true → Q (Exit.normal, zz2, zz11, 93, 1230000000000000000000000000000000000000045, (true :: true :: true :: true :: (decide (Int.ofNat 0 ≥ c.good) == true) :: zq16), [])) ∧ ((decide (Int.ofNat 0 ≥ c.good)) = false → Q (Exit.normal, zz2, zz6, 93, 1230000000000000000000000000000000000000041, (true :: true :: (decide (Int.ofNat 0 ≥ c.good) == false) :: zq16), [])))) ∧ ((!Vw.inn u k0Z) = false → Q (Exit.normal, zz2, zz6, 93, 1230000000000000000000000000000000000000041, (true :: true :: ((!Vw.inn u k0Z) == false) :: zq15), [])))))))) :
 ∃ p r, rvR Tryz.prog c u k0Z p = some r ∧ Q r := by
 have hZ : (k0Z = 0 ∧ k1Z = 1) ∨ (k0Z = 1 ∧ k1Z = 2) ∨ (k0Z = 2 ∧ k1Z = 3) ∨ (k0Z = 3 ∧ k1Z = 4) ∨ (k0Z = 4 ∧ k1Z = 5) ∨ (k0Z = 5 ∧ k1Z = 6) ∨ (k0Z = 6 ∧ k1Z = 7) ∨ (k0Z = 7 ∧ k1Z = 8) := by omega
 clear hkZ; rcases hZ with ⟨rfl, rfl⟩ | ⟨rfl, rfl⟩ | ⟨rfl, rfl⟩ | ⟨rfl, rfl⟩ | ⟨rfl, rfl⟩ | ⟨rfl, rfl⟩ | ⟨rfl, rfl⟩ | ⟨rfl, rfl⟩
 all_goals
  exact two H
   (fun g1 => two g1
    (fun g2 => two g2
     (fun g3 => two g3
      (fun g4 => two g4
       (fun g5 => ⟨pD 20 1162497676, _, by kernel_rfl, g5⟩)
       (fun g5 => ⟨pD 20 2324759143, _, by kernel_rfl, g5⟩))
      (fun g4 => ⟨pD 20 413356, _, by kernel_rfl, g4⟩))
     (fun g3 => two g3
      (fun g4 => two g4
       (fun g5 => ⟨pD 20 1162556725, _, by kernel_rfl, g5⟩)
       (fun g5 => ⟨pD 20 2324818192, _, by kernel_rfl, g5⟩))
      (fun g4 => ⟨pD 20 472405, _, by kernel_rfl, g4⟩)))
    (fun g2 => two g2
     (fun g3 => two g3
      (fun g4 => ⟨pD 20 1162438636, _, by kernel_rfl, g4⟩)
      (fun g4 => ⟨pD 20 2324700103, _, by kernel_rfl, g4⟩))
     (fun g3 => ⟨pD 20 354316, _, by kernel_rfl, g3⟩)))
   (fun g1 => two g1
    (fun g2 => two g2
     (fun g3 => two g3
      (fun g4 => two g4
       (fun g5 => ⟨pD 20 1162497679, _, by kernel_rfl, g5⟩)
       (fun g5 => ⟨pD 20 2324759146, _, by kernel_rfl, g5⟩))
      (fun g4 => ⟨pD 20 413359, _, by kernel_rfl, g4⟩))
     (fun g3 => two g3
      (fun g4 => two g4
       (fun g5 => ⟨pD 20 1162556728, _, by kernel_rfl, g5⟩)
       (fun g5 => ⟨pD 20 2324818195, _, by kernel_rfl, g5⟩))
      (fun g4 => ⟨pD 20 472408, _, by kernel_rfl, g4⟩)))
    (fun g2 => two g2
     (fun g3 => two g3
      (fun g4 => ⟨pD 20 1162438639, _, by kernel_rfl, g4⟩)
      (fun g4 => ⟨pD 20 2324700106, _, by kernel_rfl, g4⟩))
     (fun g3 => ⟨pD 20 354319, _, by kernel_rfl, g3⟩)))

theorem rvX (c : Cfg) (u : Vw) (k : Nat) (Q : VC → Prop) (H : Q (Exit.exit 0, [some (lkA (List.zip rvH (rvV k)) 2), some (lkA (List.zip rvH (rvV k)) 3), some (lkA (List.zip rvH (rvV k)) 4), some (lkA (List.zip rvH (rvV k)) 5)], [some (ABlk.mk true false 25 0 (Cs.lit [.v (.int .i64 (c.nodes)), AC.sl 0 0 0 (c.np) none, AC.sl 1 0 0 (c.ns) none, .v (.int .i64 (c.long)), AC.sl 2 0 0 (c.nb) none, AC.sl 3 0 0 (c.nt) none, .v (.int .i64 (c.miss)), .v (.int .i64 (c.good)), .v (.int .i64 (c.fresh))])), some (ABlk.mk true false 59 0 (Cs.lit (vwL u))), some (ABlk.mk true false 59 0 (Cs.lit [.v (.bool false), .v (.bool false), .v (.bool false), .v (.bool false), .v (.bool false), .v (.bool false), .v (.bool false), .v (.bool false), .v (.int .u8 (Int.ofNat 0)), .v (.int .u8 (Int.ofNat 0)), .v (.int .u8 (Int.ofNat 0)), .v (.int .u8 (Int.ofNat 0)), .v (.int .u8 (Int.ofNat 0)), .v (.int .u8 (Int.ofNat 0)), .v (.int .u8 (Int.ofNat 0)), .v (.int .u8 (Int.ofNat 0)), .v (.int .u8 (Int.ofNat 0)), .v (.int .u8 (Int.ofNat 0)), .v (.int .u8 (Int.ofNat 0)), .v (.int .u8 (Int.ofNat 0)), .v (.int .u8 (Int.ofNat 0)), .v (.int .u8 (Int.ofNat 0)), .v (.int .u8 (Int.ofNat 0)), .v (.int .u8 (Int.ofNat 0)), .v (.int .u16 (Int.ofNat 0)), .v (.int .u16 (Int.ofNat 0)), .v (.int .u16 (Int.ofNat 0)), .v (.int .u16 (Int.ofNat 0)), .v (.int .u16 (Int.ofNat 0)), .v (.int .u16 (Int.ofNat 0)), .v (.int .u16 (Int.ofNat 0)), .v (.int .u16 (Int.ofNat 0)), .v (.bool false), .v (.bool false), .v (.bool false), .v (.bool false), .v (.bool false), .v (.bool false), .v (.bool false), .v (.bool false), .v (.int .i8 (Int.ofNat 0)), .v (.int .u8 (Int.ofNat 0))]))], 93, 1000000000000000000000000000000000000000005, [decide (Int.ofNat k < ↑(c.np)) == false, true], [])) :
 ∃ p r, rvR Tryz.prog c u k p = some r ∧ Q r :=
 ⟨pD 1 2, _, by kernel_rfl, H⟩
end Go.Proofs.YtfohlkhfnogmdaaGreatDoor
end
section
namespace Go.Proofs.YtfohlkhfnogmdaaGreatDoor
open Go.RowKit
def BndV (v : Vw) : Prop := ∀ i, i < 8 → (0 ≤ v.miss i ∧ v.miss i ≤ 255) ∧ (0 ≤ v.good i ∧ v.good i ≤ 255) ∧ (0 ≤ v.score i ∧ v.score i ≤ 65535)
def RvNx (c : Cfg) (v : Vw) (k : Nat) (r : VC) : Prop :=
 allT r.2.2.2.2.2.1 ∧ r.2.2.2.2.2.2 = [] ∧ r.2.2.2.2.1 ≤ 100000000000000000000000000000000000000000000000000 ∧ r.2.2.2.1 = 93 ∧ r.1 = .normal ∧ r.2.1 = (rvV (k + 1)).map some ∧ r.2.2.1 = [some (cfgB c), some (vwB (rndV ⟨k + 1, c.miss, c.good⟩ v)), some (vwB vw0)]
set_option maxRecDepth 100000 in
theorem jjl3 (c : Cfg) (v : Vw) (hk : 0 < c.np) (hp : BndV v) : ∃ p r, rvR Tryz.prog c (rndV ⟨0, c.miss, c.good⟩ v) 0 p = some r ∧ RvNx c v 0 r := by
 obtain ⟨⟨p1, q1⟩, ⟨p2, q2⟩, ⟨p3, q3⟩⟩ := hp 0 (by omega); obtain ⟨u, hu⟩ : ∃ u, rndV ⟨0, c.miss, c.good⟩ v = u := ⟨_, rfl⟩
 have e1 : u.inn 0 = v.inn 0 := by rw [← hu]; rfl
 have e2 : u.got 0 = v.got 0 := by rw [← hu]; rfl
 have e3 : u.miss 0 = v.miss 0 := by rw [← hu]; rfl
 have e4 : u.good 0 = v.good 0 := by rw [← hu]; rfl
 have e5 : u.score 0 = v.score 0 := by rw [← hu]; rfl
 have w1 := jje p1; have w2 := jje p2; rw [hu]; refine (rvFz 0 1 ⟨by decide, rfl⟩) c u _ ?_; simp only [e1, e2, e3, e4, e5, w1, w2]
 (repeat' (first | refine ⟨fun h => ?_, fun h => ?_⟩ | fail))
 all_goals (first | (exfalso; simp_all; done) | skip)
 all_goals (refine ⟨?_, rfl, by dsimp only; omega, rfl, rfl, rfl, ?_⟩)
 all_goals first
  | (rw [jj0 (k := 0) (ms := c.miss) (go := c.good) (v := v) (u := u) hu (a := true) (m := 0) (x := upZ (v.good 0)) (s := rewZ (v.score 0))]; rfl)
  | (rw [jj0 (k := 0) (ms := c.miss) (go := c.good) (v := v) (u := u) hu (a := true) (m := upZ (v.miss 0)) (x := 0) (s := penZ (v.score 0))]; rfl)
  | (rw [jj0 (k := 0) (ms := c.miss) (go := c.good) (v := v) (u := u) hu (a := false) (m := 0) (x := upZ (v.good 0)) (s := rewZ (v.score 0))]; rfl)
  | (rw [jj0 (k := 0) (ms := c.miss) (go := c.good) (v := v) (u := u) hu (a := false) (m := upZ (v.miss 0)) (x := 0) (s := penZ (v.score 0))]; rfl)
  | (rw [jj0 (k := 0) (ms := c.miss) (go := c.good) (v := v) (u := u) hu (a := v.inn 0) (m := 0) (x := upZ (v.good 0)) (s := rewZ (v.score 0))]; rfl)
  | (rw [jj0 (k := 0) (ms := c.miss) (go := c.good) (v := v) (u := u) hu (a := v.inn 0) (m := upZ (v.miss 0)) (x := 0) (s := penZ (v.score 0))]; rfl)
  | (simp_all [allT, scPB]; done)
  | (simp_all [allT, scPB]; omega)
set_option maxRecDepth 100000 in
theorem jjl2 (c : Cfg) (v : Vw) (hk : 1 < c.np) (hp : BndV v) : ∃ p r, rvR Tryz.prog c (rndV ⟨1, c.miss, c.good⟩ v) 1 p = some r ∧ RvNx c v 1 r := by
 obtain ⟨⟨p1, q1⟩, ⟨p2, q2⟩, ⟨p3, q3⟩⟩ := hp 1 (by omega); obtain ⟨u, hu⟩ : ∃ u, rndV ⟨1, c.miss, c.good⟩ v = u := ⟨_, rfl⟩
 have e1 : u.inn 1 = v.inn 1 := by rw [← hu]; rfl
 have e2 : u.got 1 = v.got 1 := by rw [← hu]; rfl
 have e3 : u.miss 1 = v.miss 1 := by rw [← hu]; rfl
 have e4 : u.good 1 = v.good 1 := by rw [← hu]; rfl
 have e5 : u.score 1 = v.score 1 := by rw [← hu]; rfl
 have w1 := jje p1; have w2 := jje p2; rw [hu]; refine (rvFz 1 2 ⟨by decide, rfl⟩) c u _ ?_; simp only [e1, e2, e3, e4, e5, w1, w2]
 (repeat' (first | refine ⟨fun h => ?_, fun h => ?_⟩ | fail))
 all_goals (first | (exfalso; simp_all; done) | skip)
 all_goals (refine ⟨?_, rfl, by dsimp only; omega, rfl, rfl, rfl, ?_⟩)
 all_goals first
  | (rw [jj0 (k := 1) (ms := c.miss) (go := c.good) (v := v) (u := u) hu (a := true) (m := 0) (x := upZ (v.good 1)) (s := rewZ (v.score 1))]; rfl)
  | (rw [jj0 (k := 1) (ms := c.miss) (go := c.good) (v := v) (u := u) hu (a := true) (m := upZ (v.miss 1)) (x := 0) (s := penZ (v.score 1))]; rfl)
  | (rw [jj0 (k := 1) (ms := c.miss) (go := c.good) (v := v) (u := u) hu (a := false) (m := 0) (x := upZ (v.good 1)) (s := rewZ (v.score 1))]; rfl)
  | (rw [jj0 (k := 1) (ms := c.miss) (go := c.good) (v := v) (u := u) hu (a := false) (m := upZ (v.miss 1)) (x := 0) (s := penZ (v.score 1))]; rfl)
  | (rw [jj0 (k := 1) (ms := c.miss) (go := c.good) (v := v) (u := u) hu (a := v.inn 1) (m := 0) (x := upZ (v.good 1)) (s := rewZ (v.score 1))]; rfl)
  | (rw [jj0 (k := 1) (ms := c.miss) (go := c.good) (v := v) (u := u) hu (a := v.inn 1) (m := upZ (v.miss 1)) (x := 0) (s := penZ (v.score 1))]; rfl)
  | (simp_all [allT, scPB]; done)
  | (simp_all [allT, scPB]; omega)
set_option maxRecDepth 100000 in
theorem jjl1 (c : Cfg) (v : Vw) (hk : 2 < c.np) (hp : BndV v) : ∃ p r, rvR Tryz.prog c (rndV ⟨2, c.miss, c.good⟩ v) 2 p = some r ∧ RvNx c v 2 r := by
 obtain ⟨⟨p1, q1⟩, ⟨p2, q2⟩, ⟨p3, q3⟩⟩ := hp 2 (by omega); obtain ⟨u, hu⟩ : ∃ u, rndV ⟨2, c.miss, c.good⟩ v = u := ⟨_, rfl⟩
 have e1 : u.inn 2 = v.inn 2 := by rw [← hu]; rfl
 have e2 : u.got 2 = v.got 2 := by rw [← hu]; rfl
 have e3 : u.miss 2 = v.miss 2 := by rw [← hu]; rfl
 have e4 : u.good 2 = v.good 2 := by rw [← hu]; rfl
 have e5 : u.score 2 = v.score 2 := by rw [← hu]; rfl
 have w1 := jje p1; have w2 := jje p2; rw [hu]; refine (rvFz 2 3 ⟨by decide, rfl⟩) c u _ ?_; simp only [e1, e2, e3, e4, e5, w1, w2]
 (repeat' (first | refine ⟨fun h => ?_, fun h => ?_⟩ | fail))
 all_goals (first | (exfalso; simp_all; done) | skip)
 all_goals (refine ⟨?_, rfl, by dsimp only; omega, rfl, rfl, rfl, ?_⟩)
 all_goals first
  | (rw [jj0 (k := 2) (ms := c.miss) (go := c.good) (v := v) (u := u) hu (a := true) (m := 0) (x := upZ (v.good 2)) (s := rewZ (v.score 2))]; rfl)
  | (rw [jj0 (k := 2) (ms := c.miss) (go := c.good) (v := v) (u := u) hu (a := true) (m := upZ (v.miss 2)) (x := 0) (s := penZ (v.score 2))]; rfl)
  | (rw [jj0 (k := 2) (ms := c.miss) (go := c.good) (v := v) (u := u) hu (a := false) (m := 0) (x := upZ (v.good 2)) (s := rewZ (v.score 2))]; rfl)
  | (rw [jj0 (k := 2) (ms := c.miss) (go := c.good) (v := v) (u := u) hu (a := false) (m := upZ (v.miss 2)) (x := 0) (s := penZ (v.score 2))]; rfl)
  | (rw [jj0 (k := 2) (ms := c.miss) (go := c.good) (v := v) (u := u) hu (a := v.inn 2) (m := 0) (x := upZ (v.good 2)) (s := rewZ (v.score 2))]; rfl)
  | (rw [jj0 (k := 2) (ms := c.miss) (go := c.good) (v := v) (u := u) hu (a := v.inn 2) (m := upZ (v.miss 2)) (x := 0) (s := penZ (v.score 2))]; rfl)
  | (simp_all [allT, scPB]; done)
  | (simp_all [allT, scPB]; omega)
set_option maxRecDepth 100000 in
theorem jjl0 (c : Cfg) (v : Vw) (hk : 3 < c.np) (hp : BndV v) : ∃ p r, rvR Tryz.prog c (rndV ⟨3, c.miss, c.good⟩ v) 3 p = some r ∧ RvNx c v 3 r := by
 obtain ⟨⟨p1, q1⟩, ⟨p2, q2⟩, ⟨p3, q3⟩⟩ := hp 3 (by omega); obtain ⟨u, hu⟩ : ∃ u, rndV ⟨3, c.miss, c.good⟩ v = u := ⟨_, rfl⟩
 have e1 : u.inn 3 = v.inn 3 := by rw [← hu]; rfl
 have e2 : u.got 3 = v.got 3 := by rw [← hu]; rfl
 have e3 : u.miss 3 = v.miss 3 := by rw [← hu]; rfl
 have e4 : u.good 3 = v.good 3 := by rw [← hu]; rfl
 have e5 : u.score 3 = v.score 3 := by rw [← hu]; rfl
 have w1 := jje p1; have w2 := jje p2; rw [hu]; refine (rvFz 3 4 ⟨by decide, rfl⟩) c u _ ?_; simp only [e1, e2, e3, e4, e5, w1, w2]
 (repeat' (first | refine ⟨fun h => ?_, fun h => ?_⟩ | fail))
 all_goals (first | (exfalso; simp_all; done) | skip)
 all_goals (refine ⟨?_, rfl, by dsimp only; omega, rfl, rfl, rfl, ?_⟩)
 all_goals first
  | (rw [jj0 (k := 3) (ms := c.miss) (go := c.good) (v := v) (u := u) hu (a := true) (m := 0) (x := upZ (v.good 3)) (s := rewZ (v.score 3))]; rfl)
  | (rw [jj0 (k := 3) (ms := c.miss) (go := c.good) (v := v) (u := u) hu (a := true) (m := upZ (v.miss 3)) (x := 0) (s := penZ (v.score 3))]; rfl)
  | (rw [jj0 (k := 3) (ms := c.miss) (go := c.good) (v := v) (u := u) hu (a := false) (m := 0) (x := upZ (v.good 3)) (s := rewZ (v.score 3))]; rfl)
  | (rw [jj0 (k := 3) (ms := c.miss) (go := c.good) (v := v) (u := u) hu (a := false) (m := upZ (v.miss 3)) (x := 0) (s := penZ (v.score 3))]; rfl)
  | (rw [jj0 (k := 3) (ms := c.miss) (go := c.good) (v := v) (u := u) hu (a := v.inn 3) (m := 0) (x := upZ (v.good 3)) (s := rewZ (v.score 3))]; rfl)
  | (rw [jj0 (k := 3) (ms := c.miss) (go := c.good) (v := v) (u := u) hu (a := v.inn 3) (m := upZ (v.miss 3)) (x := 0) (s := penZ (v.score 3))]; rfl)
  | (simp_all [allT, scPB]; done)
  | (simp_all [allT, scPB]; omega)
set_option maxRecDepth 100000 in
theorem jjkz (c : Cfg) (v : Vw) (hk : 4 < c.np) (hp : BndV v) : ∃ p r, rvR Tryz.prog c (rndV ⟨4, c.miss, c.good⟩ v) 4 p = some r ∧ RvNx c v 4 r := by
 obtain ⟨⟨p1, q1⟩, ⟨p2, q2⟩, ⟨p3, q3⟩⟩ := hp 4 (by omega); obtain ⟨u, hu⟩ : ∃ u, rndV ⟨4, c.miss, c.good⟩ v = u := ⟨_, rfl⟩
 have e1 : u.inn 4 = v.inn 4 := by rw [← hu]; rfl
 have e2 : u.got 4 = v.got 4 := by rw [← hu]; rfl
 have e3 : u.miss 4 = v.miss 4 := by rw [← hu]; rfl
 have e4 : u.good 4 = v.good 4 := by rw [← hu]; rfl
 have e5 : u.score 4 = v.score 4 := by rw [← hu]; rfl
 have w1 := jje p1; have w2 := jje p2; rw [hu]; refine (rvFz 4 5 ⟨by decide, rfl⟩) c u _ ?_; simp only [e1, e2, e3, e4, e5, w1, w2]
 (repeat' (first | refine ⟨fun h => ?_, fun h => ?_⟩ | fail))
 all_goals (first | (exfalso; simp_all; done) | skip)
 all_goals (refine ⟨?_, rfl, by dsimp only; omega, rfl, rfl, rfl, ?_⟩)
 all_goals first
  | (rw [jj0 (k := 4) (ms := c.miss) (go := c.good) (v := v) (u := u) hu (a := true) (m := 0) (x := upZ (v.good 4)) (s := rewZ (v.score 4))]; rfl)
  | (rw [jj0 (k := 4) (ms := c.miss) (go := c.good) (v := v) (u := u) hu (a := true) (m := upZ (v.miss 4)) (x := 0) (s := penZ (v.score 4))]; rfl)
  | (rw [jj0 (k := 4) (ms := c.miss) (go := c.good) (v := v) (u := u) hu (a := false) (m := 0) (x := upZ (v.good 4)) (s := rewZ (v.score 4))]; rfl)
  | (rw [jj0 (k := 4) (ms := c.miss) (go := c.good) (v := v) (u := u) hu (a := false) (m := upZ (v.miss 4)) (x := 0) (s := penZ (v.score 4))]; rfl)
  | (rw [jj0 (k := 4) (ms := c.miss) (go := c.good) (v := v) (u := u) hu (a := v.inn 4) (m := 0) (x := upZ (v.good 4)) (s := rewZ (v.score 4))]; rfl)
  | (rw [jj0 (k := 4) (ms := c.miss) (go := c.good) (v := v) (u := u) hu (a := v.inn 4) (m := upZ (v.miss 4)) (x := 0) (s := penZ (v.score 4))]; rfl)
  | (simp_all [allT, scPB]; done)
  | (simp_all [allT, scPB]; omega)
set_option maxRecDepth 100000 in
theorem jjky (c : Cfg) (v : Vw) (hk : 5 < c.np) (hp : BndV v) : ∃ p r, rvR Tryz.prog c (rndV ⟨5, c.miss, c.good⟩ v) 5 p = some r ∧ RvNx c v 5 r := by
 obtain ⟨⟨p1, q1⟩, ⟨p2, q2⟩, ⟨p3, q3⟩⟩ := hp 5 (by omega); obtain ⟨u, hu⟩ : ∃ u, rndV ⟨5, c.miss, c.good⟩ v = u := ⟨_, rfl⟩
 have e1 : u.inn 5 = v.inn 5 := by rw [← hu]; rfl
 have e2 : u.got 5 = v.got 5 := by rw [← hu]; rfl
 have e3 : u.miss 5 = v.miss 5 := by rw [← hu]; rfl
 have e4 : u.good 5 = v.good 5 := by rw [← hu]; rfl
 have e5 : u.score 5 = v.score 5 := by rw [← hu]; rfl
 have w1 := jje p1; have w2 := jje p2; rw [hu]; refine (rvFz 5 6 ⟨by decide, rfl⟩) c u _ ?_; simp only [e1, e2, e3, e4, e5, w1, w2]
 (repeat' (first | refine ⟨fun h => ?_, fun h => ?_⟩ | fail))
 all_goals (first | (exfalso; simp_all; done) | skip)
 all_goals (refine ⟨?_, rfl, by dsimp only; omega, rfl, rfl, rfl, ?_⟩)
 all_goals first
  | (rw [jj0 (k := 5) (ms := c.miss) (go := c.good) (v := v) (u := u) hu (a := true) (m := 0) (x := upZ (v.good 5)) (s := rewZ (v.score 5))]; rfl)
  | (rw [jj0 (k := 5) (ms := c.miss) (go := c.good) (v := v) (u := u) hu (a := true) (m := upZ (v.miss 5)) (x := 0) (s := penZ (v.score 5))]; rfl)
  | (rw [jj0 (k := 5) (ms := c.miss) (go := c.good) (v := v) (u := u) hu (a := false) (m := 0) (x := upZ (v.good 5)) (s := rewZ (v.score 5))]; rfl)
  | (rw [jj0 (k := 5) (ms := c.miss) (go := c.good) (v := v) (u := u) hu (a := false) (m := upZ (v.miss 5)) (x := 0) (s := penZ (v.score 5))]; rfl)
  | (rw [jj0 (k := 5) (ms := c.miss) (go := c.good) (v := v) (u := u) hu (a := v.inn 5) (m := 0) (x := upZ (v.good 5)) (s := rewZ (v.score 5))]; rfl)
  | (rw [jj0 (k := 5) (ms := c.miss) (go := c.good) (v := v) (u := u) hu (a := v.inn 5) (m := upZ (v.miss 5)) (x := 0) (s := penZ (v.score 5))]; rfl)
  | (simp_all [allT, scPB]; done)
  | (simp_all [allT, scPB]; omega)
set_option maxRecDepth 100000 in
theorem jjkx (c : Cfg) (v : Vw) (hk : 6 < c.np) (hp : BndV v) : ∃ p r, rvR Tryz.prog c (rndV ⟨6, c.miss, c.good⟩ v) 6 p = some r ∧ RvNx c v 6 r := by
 obtain ⟨⟨p1, q1⟩, ⟨p2, q2⟩, ⟨p3, q3⟩⟩ := hp 6 (by omega); obtain ⟨u, hu⟩ : ∃ u, rndV ⟨6, c.miss, c.good⟩ v = u := ⟨_, rfl⟩
 have e1 : u.inn 6 = v.inn 6 := by rw [← hu]; rfl
 have e2 : u.got 6 = v.got 6 := by rw [← hu]; rfl
 have e3 : u.miss 6 = v.miss 6 := by rw [← hu]; rfl
 have e4 : u.good 6 = v.good 6 := by rw [← hu]; rfl
 have e5 : u.score 6 = v.score 6 := by rw [← hu]; rfl
 have w1 := jje p1; have w2 := jje p2; rw [hu]; refine (rvFz 6 7 ⟨by decide, rfl⟩) c u _ ?_; simp only [e1, e2, e3, e4, e5, w1, w2]
 (repeat' (first | refine ⟨fun h => ?_, fun h => ?_⟩ | fail))
 all_goals (first | (exfalso; simp_all; done) | skip)
 all_goals (refine ⟨?_, rfl, by dsimp only; omega, rfl, rfl, rfl, ?_⟩)
 all_goals first
  | (rw [jj0 (k := 6) (ms := c.miss) (go := c.good) (v := v) (u := u) hu (a := true) (m := 0) (x := upZ (v.good 6)) (s := rewZ (v.score 6))]; rfl)
  | (rw [jj0 (k := 6) (ms := c.miss) (go := c.good) (v := v) (u := u) hu (a := true) (m := upZ (v.miss 6)) (x := 0) (s := penZ (v.score 6))]; rfl)
  | (rw [jj0 (k := 6) (ms := c.miss) (go := c.good) (v := v) (u := u) hu (a := false) (m := 0) (x := upZ (v.good 6)) (s := rewZ (v.score 6))]; rfl)
  | (rw [jj0 (k := 6) (ms := c.miss) (go := c.good) (v := v) (u := u) hu (a := false) (m := upZ (v.miss 6)) (x := 0) (s := penZ (v.score 6))]; rfl)
  | (rw [jj0 (k := 6) (ms := c.miss) (go := c.good) (v := v) (u := u) hu (a := v.inn 6) (m := 0) (x := upZ (v.good 6)) (s := rewZ (v.score 6))]; rfl)
  | (rw [jj0 (k := 6) (ms := c.miss) (go := c.good) (v := v) (u := u) hu (a := v.inn 6) (m := upZ (v.miss 6)) (x := 0) (s := penZ (v.score 6))]; rfl)
  | (simp_all [allT, scPB]; done)
  | (simp_all [allT, scPB]; omega)
set_option maxRecDepth 100000 in
theorem jjkw (c : Cfg) (v : Vw) (hk : 7 < c.np) (hp : BndV v) : ∃ p r, rvR Tryz.prog c (rndV ⟨7, c.miss, c.good⟩ v) 7 p = some r ∧ RvNx c v 7 r := by
 obtain ⟨⟨p1, q1⟩, ⟨p2, q2⟩, ⟨p3, q3⟩⟩ := hp 7 (by omega); obtain ⟨u, hu⟩ : ∃ u, rndV ⟨7, c.miss, c.good⟩ v = u := ⟨_, rfl⟩
 have e1 : u.inn 7 = v.inn 7 := by rw [← hu]; rfl
 have e2 : u.got 7 = v.got 7 := by rw [← hu]; rfl
 have e3 : u.miss 7 = v.miss 7 := by rw [← hu]; rfl
 have e4 : u.good 7 = v.good 7 := by rw [← hu]; rfl
 have e5 : u.score 7 = v.score 7 := by rw [← hu]; rfl
 have w1 := jje p1; have w2 := jje p2; rw [hu]; refine (rvFz 7 8 ⟨by decide, rfl⟩) c u _ ?_; simp only [e1, e2, e3, e4, e5, w1, w2]
 (repeat' (first | refine ⟨fun h => ?_, fun h => ?_⟩ | fail))
 all_goals (first | (exfalso; simp_all; done) | skip)
 all_goals (refine ⟨?_, rfl, by dsimp only; omega, rfl, rfl, rfl, ?_⟩)
 all_goals first
  | (rw [jj0 (k := 7) (ms := c.miss) (go := c.good) (v := v) (u := u) hu (a := true) (m := 0) (x := upZ (v.good 7)) (s := rewZ (v.score 7))]; rfl)
  | (rw [jj0 (k := 7) (ms := c.miss) (go := c.good) (v := v) (u := u) hu (a := true) (m := upZ (v.miss 7)) (x := 0) (s := penZ (v.score 7))]; rfl)
  | (rw [jj0 (k := 7) (ms := c.miss) (go := c.good) (v := v) (u := u) hu (a := false) (m := 0) (x := upZ (v.good 7)) (s := rewZ (v.score 7))]; rfl)
  | (rw [jj0 (k := 7) (ms := c.miss) (go := c.good) (v := v) (u := u) hu (a := false) (m := upZ (v.miss 7)) (x := 0) (s := penZ (v.score 7))]; rfl)
  | (rw [jj0 (k := 7) (ms := c.miss) (go := c.good) (v := v) (u := u) hu (a := v.inn 7) (m := 0) (x := upZ (v.good 7)) (s := rewZ (v.score 7))]; rfl)
  | (rw [jj0 (k := 7) (ms := c.miss) (go := c.good) (v := v) (u := u) hu (a := v.inn 7) (m := upZ (v.miss 7)) (x := 0) (s := penZ (v.score 7))]; rfl)
  | (simp_all [allT, scPB]; done)
  | (simp_all [allT, scPB]; omega)
end Go.Proofs.YtfohlkhfnogmdaaGreatDoor
end
section
namespace Go.Proofs.YtfohlkhfnogmdaaGreatDoor
open Go.RowKit
theorem jjib {c : Cfg} {n : Nat} (hn : 1120 ≤ n) : lowB n (rdC c) := by
 have hc : ∀ i, i < 1120 → Nat.blt i n = true := fun i h => by rw [Nat.blt_eq]; omega
 exact jj1y (by simp [lowC, hc])
theorem jji9 (c : Cfg) (v w : Vw) (h8 : c.np ≤ 8) (hp : PosV v) (k : Nat) (hk : k < c.np) : ∃ p r, mrR Tryz.prog c (rndV ⟨k, c.miss, c.good⟩ v) w k p = some r ∧ RdNx c v w k r := by
 have : k < 8 := by omega
 match k, this with
 | 0, _ => exact jjle c v w hk hp
 | 1, _ => exact jjld c v w hk hp
 | 2, _ => exact jjlc c v w hk hp
 | 3, _ => exact jjlb c v w hk hp
 | 4, _ => exact jjla c v w hk hp
 | 5, _ => exact jjl9 c v w hk hp
 | 6, _ => exact jjl8 c v w hk hp
 | 7, _ => exact jjl7 c v w hk hp
theorem jjat (ms go : Int) (v : Vw) : rndV ⟨0, ms, go⟩ v = v := by
 cases v; simp [rndV, rIn, rMi, rGo, rSc, rGt]
theorem jjlu (c : Cfg) (v w : Vw) (h8 : c.np ≤ 8) (hp : PosV v) :
 LoopV Tryz.prog (loopAt Tryz.prog 74 0) rdH rdI ((mrV c 0).map some) [some (vwB v), some (vwB w), some (rdC c)] 99 1134 (mkFr 99 [(3, .c (.ptr 1000 0 0)), (4, .c (.ptr 1001 0 0))]) [(1000, vwB (rndV ⟨c.np, c.miss, c.good⟩ v)), (1001, vwB w)] 100000000000000000000000000000000000000000000000000 (.exit 0) none := by
 have hz := jjat c.miss c.good v; refine jj14 hENrd (fuel := 100) (str := 10000000000000000000000000000000000000000) (nh := 1000000000000000000000000000000000000000000) (S := Nat) (fun k => k ≤ c.np) (fun k => c.np - k) rdH [] rdI (mrV c) (fun k => [vwB (rndV ⟨k, c.miss, c.good⟩ v), vwB w, rdC c]) (by decide) (by decide) (by unfold lim; omega) (s0 := 0) (Nat.zero_le _) (fun _ => ⟨rfl, rfl⟩) (by kernel_rfl) (by rw [hz]; exact BL.refl [vwB v, vwB w, rdC c]) (fun k _ => ⟨rfl, ?_⟩) ?_
 · intro b hb
   simp only [List.mem_cons, List.not_mem_nil, or_false] at hb; rcases hb with rfl | rfl | rfl
   · exact jj1m
   · exact jj1m
   · exact jjib (by omega)
 intro k hk; rcases Nat.lt_or_ge k c.np with hlt | hge
 · obtain ⟨p, r, h1, a1, a2, a3, a4, a5, a6, a7⟩ := jji9 c v w h8 hp k hlt
   exact ⟨p, [], r, h1, a1, a2, a3, a4, .inl ⟨a5, k + 1, hlt, by show c.np - (k + 1) < c.np - k; omega, by rw [a6]; rfl, by rw [a7]; exact BL.refl [vwB (rndV ⟨k + 1, c.miss, c.good⟩ v), vwB w, rdC c]⟩⟩
 · obtain rfl : k = c.np := by omega
   refine (?_ : (∃ p r, mrR Tryz.prog c (rndV ⟨c.np, c.miss, c.good⟩ v) w c.np p = some r ∧ _) → _) (rdE c (rndV ⟨c.np, c.miss, c.good⟩ v) w c.np (StepV 1134 100000000000000000000000000000000000000000000000000 99 rdH [] rdI (fun k => k ≤ c.np) (fun k => c.np - k) (mrV c) (fun k => [vwB (rndV ⟨k, c.miss, c.good⟩ v), vwB w, rdC c]) (.exit 0) [(3, .c (.ptr 1000 0 0)), (4, .c (.ptr 1001 0 0))] [(1000, vwB (rndV ⟨c.np, c.miss, c.good⟩ v)), (1001, vwB w)] c.np) ?_)
   · rintro ⟨p, r, h1, h2⟩
     exact ⟨p, [], r, h1, h2⟩
   · refine ⟨by simp [allT], rfl, by dsimp only; omega, rfl, .inr ⟨by simp, rfl, fun q hq => ?_, fun p hpp => ?_⟩⟩
     · simp only [List.mem_cons, List.not_mem_nil, or_false] at hq
       rcases hq with rfl | rfl
       · exact ⟨rfl, by simp [lkA]⟩
       · exact ⟨rfl, by simp [lkA]⟩
     · simp only [List.mem_cons, List.not_mem_nil, or_false] at hpp
       rcases hpp with rfl | rfl
       · exact ⟨by kernel_rfl, jj1m, _, List.mem_cons_self .., BEq.refl _⟩
       · exact ⟨by kernel_rfl, jj1m, _, List.mem_cons_of_mem _ (List.mem_cons_self ..), BEq.refl _⟩
def mrndR (c : Cfg) (_ : Nat) (_ : Nat → Int) (l : List AC) : List AV → AV
 | [] => .agg (rndL ⟨c.np, c.miss, c.good⟩ l)
 | _ => i64 0
def rndP (c : Cfg) (nq : Nat) (l : List AC) : List AV → Bool
 | [] => decide (c.np ≤ 8) && (gvPre c nq && posL l)
 | _ => false
def pX (pre : Cfg → Nat → List AC → List AV → Bool) : NetS → Bool
 | ⟨c, nq, _, .agg l :: r⟩ => isVw l && pre c nq l r
 | _ => false
theorem jjh7 {G : AMem} (hG : (G.all fun p => Nat.ble lim p.1) = true) {E : Env} (hE : EnvOk E) {f : FuncId} {R : Cfg → Nat → (Nat → Int) → List AC → List AV → AV} {pre : Cfg → Nat → List AC → List AV → Bool} (hf : ∃ (fn : Func) (c : Code), E.P.funcs[f]? = some fn ∧ fn.body = some c) (hres : ∀ c nq fq v r, plainR (R c nq fq v r) = true)
 (run : ∀ c nq fq v r, pre c nq (vwL v) r = true → ∃ p lp q, viewF [] (fCallF E (fC E 300) f (.c (.ptr 5 0 0) :: .agg (vwL v) :: r) 1000 10000000000000000000000000000000000000000 (stA (G ++ netL c nq fq) p lp)) = some q ∧ GoodF (R c nq fq (vwL v) r) q) : CtOk E.P f (ctRd (netRdG G hG) (rV R) (pX pre)) := by
 refine jj1i hE (netRdG G hG) (fuel := 300) (str := 10000000000000000000000000000000000000000) hf (jj7z hres) fun s hs => ?_
 unfold pX at hs; split at hs
 · rename_i c nq fq l r
   rw [Bool.and_eq_true] at hs; have e := jjcv hs.1; rw [e]; rw [e] at hs; exact run c nq fq (vwOf l) r hs.2
 · cases hs
def ctRnd : CtF := ctRd netRd (rV mrndR) (pX rndP)
set_option maxRecDepth 100000 in
theorem jjjp : CtOk Tryz.prog 74 ctRnd := by
 refine jjh7 (G := mS) (by kernel_rfl) (E := ENrd Tryz.prog) hENrd ⟨_, _, Tryz.func74, rfl⟩ (fun c nq fq v r => by unfold mrndR; split <;> rfl) fun c nq fq v r hr => ?_
 unfold rndP at hr; split at hr
 · simp only [gvPre, Bool.and_eq_true, decide_eq_true_eq] at hr
   obtain ⟨h8, ⟨hq, g1, g2, g3, g4, g5⟩, hp⟩ := hr; have hp := (jjay v).1 hp; refine (?_ : (∃ p q, vwE (ENrd Tryz.prog) 74 c nq fq v [] p [none, some (rdS (rndV ⟨c.np, c.miss, c.good⟩ v))] = some q ∧ GoodF (.agg (rndL ⟨c.np, c.miss, c.good⟩ (vwL v))) q) → _) (mbRdD c nq fq v (rndV ⟨c.np, c.miss, c.good⟩ v) _ ?_)
   · rintro ⟨p, q, h1, h2⟩
     exact ⟨p, _, q, h1, h2⟩
   · have hs := jjlu c v vw0 h8 hp
     refine ⟨by rw [jjeg]; rfl, (by first | (unfold lim; omega) | (dsimp only; unfold lim; omega)), ?_, fun q hq => ?_⟩
     · simp [allT, jjn, jju, jj1, jj3, jj7, jjg, jjf, slC, slRow, jj5, jj9, Vw.len, hq]
       omega
     · rw [List.mem_singleton.1 hq]
       simp only [Nat.zero_add, Option.getD_some, Int.ofNat_eq_natCast, Int.sub_zero, Int.toNat_natCast] at hs ⊢; exact hs
 · cases hr
end Go.Proofs.YtfohlkhfnogmdaaGreatDoor
end
section
namespace Go.Proofs.YtfohlkhfnogmdaaGreatDoor
open Go.RowKit
abbrev rvO : List (Nat × AV) := [(3, .c (.ptr 1001 0 0)), (4, .c (.ptr 1002 0 0))]
abbrev rvM (u : Vw) : AMem := [(1001, vwB u), (1002, vwB vw0)]
abbrev rvS (u : Vw) : LSum := ⟨rvH, rvI, mkFr 93 rvO, rvM u, 100000000000000000000000000000000000000000000000000, .exit 0⟩
theorem rvD (c : Cfg) (v u : Vw) (Q : VF → Prop) (H : let zt : List Bool → List Bool := fun l => true :: true :: true :: true :: true :: true :: true :: true :: l; let zu : List Bool → List Bool := fun l => zt (zt (zt (zt l))); Q (AV.agg (vwL u), [], 100000000000000000000000000000000000000000000000002, (zu (zu (zt (zt (true :: true :: true :: true :: true :: true :: true :: []))))), [LoopV Tryz.prog (loopAt Tryz.prog 77 0) rvH rvI [some (.c (.ptr 1000 0 0)), some (.c (.ptr 1001 0 0)), some (.c (.ptr 1002 0 0)), some (.c (.v (.int .i64 (Int.ofNat 0))))] [some (ABlk.mk true false 25 0 (Cs.lit [.v (.int .i64 (c.nodes)), AC.sl 0 0 0 (c.np) none, AC.sl 1 0 0 (c.ns) none, .v (.int .i64 (c.long)), AC.sl 2 0 0 (c.nb) none, AC.sl 3 0 0 (c.nt) none, .v (.int .i64 (c.miss)), .v (.int .i64 (c.good)), .v (.int .i64 (c.fresh))])), some (ABlk.mk true false 59 0 (Cs.lit (vwL v))), some (ABlk.mk true false 59 0 (Cs.lit [.v (.bool false), .v (.bool false), .v (.bool false), .v (.bool false), .v (.bool false), .v (.bool false), .v (.bool false), .v (.bool false), .v (.int .u8 (Int.ofNat 0)), .v (.int .u8 (Int.ofNat 0)), .v (.int .u8 (Int.ofNat 0)), .v (.int .u8 (Int.ofNat 0)), .v (.int .u8 (Int.ofNat 0)), .v (.int .u8 (Int.ofNat 0)), .v (.int .u8 (Int.ofNat 0)), .v (.int .u8 (Int.ofNat 0)), .v (.int .u8 (Int.ofNat 0)), .v (.int .u8 (Int.ofNat 0)), .v (.int .u8 (Int.ofNat 0)), .v (.int .u8 (Int.ofNat 0)), .v (.int .u8 (Int.ofNat 0)), .v (.int .u8 (Int.ofNat 0)), .v (.int .u8 (Int.ofNat 0)), .v (.int .u8 (Int.ofNat 0)), .v (.int .u16 (Int.ofNat 0)), .v (.int .u16 (Int.ofNat 0)), .v (.int .u16 (Int.ofNat 0)), .v (.int .u16 (Int.ofNat 0)), .v (.int .u16 (Int.ofNat 0)), .v (.int .u16 (Int.ofNat 0)), .v (.int .u16 (Int.ofNat 0)), .v (.int .u16 (Int.ofNat 0)), .v (.bool false), .v (.bool false), .v (.bool false), .v (.bool false), .v (.bool false), .v (.bool false), .v (.bool false), .v (.bool false), .v (.int .i8 (Int.ofNat 0)), .v (.int .u8 (Int.ofNat 0))]))] 93 1004 (mkFr 93 rvO) (rvM u) 100000000000000000000000000000000000000000000000000 (Exit.exit 0) none])) :
 ∃ p r, cvE (ENrv Tryz.prog) 77 c [.agg (vwL v)] p [some (rvS u)] = some r ∧ Q r :=
 ⟨pD 0 0, _, by kernel_rfl, H⟩
end Go.Proofs.YtfohlkhfnogmdaaGreatDoor
end
section
namespace Go.Proofs.YtfohlkhfnogmdaaGreatDoor
open Go.RowKit
theorem jjhy (c : Cfg) (v : Vw) (h8 : c.np ≤ 8) (hp : BndV v) (k : Nat) (hk : k < c.np) : ∃ p r, rvR Tryz.prog c (rndV ⟨k, c.miss, c.good⟩ v) k p = some r ∧ RvNx c v k r := by
 have : k < 8 := by omega
 match k, this with
 | 0, _ => exact jjl3 c v hk hp
 | 1, _ => exact jjl2 c v hk hp
 | 2, _ => exact jjl1 c v hk hp
 | 3, _ => exact jjl0 c v hk hp
 | 4, _ => exact jjkz c v hk hp
 | 5, _ => exact jjky c v hk hp
 | 6, _ => exact jjkx c v hk hp
 | 7, _ => exact jjkw c v hk hp
theorem jjkv (c : Cfg) (v : Vw) (h8 : c.np ≤ 8) (hp : BndV v) :
 LoopV Tryz.prog (loopAt Tryz.prog 77 0) rvH rvI ((rvV 0).map some) [some (cfgB c), some (vwB v), some (vwB vw0)] 93 1004 (mkFr 93 rvO) (rvM (rndV ⟨c.np, c.miss, c.good⟩ v)) 100000000000000000000000000000000000000000000000000 (.exit 0) none := by
 have hz := jjat c.miss c.good v; refine jj14 hENrv (fuel := 100) (str := 10000000000000000000000000000000000000000) (nh := 1000000000000000000000000000000000000000000) (S := Nat) (fun k => k ≤ c.np) (fun k => c.np - k) rvH [] rvI rvV (fun k => [cfgB c, vwB (rndV ⟨k, c.miss, c.good⟩ v), vwB vw0]) (by decide) (by decide) (by unfold lim; omega) (s0 := 0) (Nat.zero_le _) (fun _ => ⟨rfl, rfl⟩) (by kernel_rfl) (by rw [hz]; exact BL.refl [cfgB c, vwB v, vwB vw0]) (fun k _ => ⟨rfl, ?_⟩) ?_
 · intro b hb
   simp only [List.mem_cons, List.not_mem_nil, or_false] at hb; rcases hb with rfl | rfl | rfl
   · exact jj1b (by omega)
   · exact jj1m
   · exact jj1m
 intro k hk; rcases Nat.lt_or_ge k c.np with hlt | hge
 · obtain ⟨p, r, h1, a1, a2, a3, a4, a5, a6, a7⟩ := jjhy c v h8 hp k hlt
   exact ⟨p, [], r, h1, a1, a2, a3, a4, .inl ⟨a5, k + 1, hlt, by show c.np - (k + 1) < c.np - k; omega, by rw [a6]; rfl, by rw [a7]; exact BL.refl [cfgB c, vwB (rndV ⟨k + 1, c.miss, c.good⟩ v), vwB vw0]⟩⟩
 · obtain rfl : k = c.np := by omega
   refine (?_ : (∃ p r, rvR Tryz.prog c (rndV ⟨c.np, c.miss, c.good⟩ v) c.np p = some r ∧ _) → _) (rvX c (rndV ⟨c.np, c.miss, c.good⟩ v) c.np (StepV 1004 100000000000000000000000000000000000000000000000000 93 rvH [] rvI (fun k => k ≤ c.np) (fun k => c.np - k) rvV (fun k => [cfgB c, vwB (rndV ⟨k, c.miss, c.good⟩ v), vwB vw0]) (.exit 0) rvO (rvM (rndV ⟨c.np, c.miss, c.good⟩ v)) c.np) ?_)
   · rintro ⟨p, r, h1, h2⟩
     exact ⟨p, [], r, h1, h2⟩
   · refine ⟨by simp [allT], rfl, by dsimp only; omega, rfl, .inr ⟨by simp, rfl, fun q hq => ?_, fun p hpp => ?_⟩⟩
     · simp only [List.mem_cons, List.not_mem_nil, or_false] at hq
       rcases hq with rfl | rfl
       · exact ⟨rfl, by simp [lkA]⟩
       · exact ⟨rfl, by simp [lkA]⟩
     · simp only [List.mem_cons, List.not_mem_nil, or_false] at hpp
       rcases hpp with rfl | rfl
       · exact ⟨by kernel_rfl, jj1m, _, .tail _ (.head _), BEq.refl _⟩
       · exact ⟨by kernel_rfl, jj1m, _, .tail _ (.tail _ (.head _)), BEq.refl _⟩
def bndL (l : List AC) : Bool := (List.range 8).all fun i => (decide (0 ≤ asI (l.getD (8 + i) nov)) && decide (asI (l.getD (8 + i) nov) ≤ 255)) && ((decide (0 ≤ asI (l.getD (16 + i) nov)) && decide (asI (l.getD (16 + i) nov) ≤ 255)) && (decide (0 ≤ asI (l.getD (24 + i) nov)) && decide (asI (l.getD (24 + i) nov) ≤ 65535)))
theorem jjcg (v : Vw) : bndL (vwL v) = true ↔ BndV v := by
 have e : ∀ i, i < 8 → asI ((vwL v).getD (8 + i) nov) = v.miss i ∧ asI ((vwL v).getD (16 + i) nov) = v.good i ∧ asI ((vwL v).getD (24 + i) nov) = v.score i := fun i hi => by
  have a2 := (jjeb v i hi).1; have a3 := (jjec v i hi).1; have a4 := (jj2f v i hi).1; simp only [Nat.mul_one, Int.ofNat_eq_natCast, Int.toNat_natCast] at a2 a3 a4; exact ⟨a2, a3, a4⟩
 unfold bndL; rw [List.all_eq_true]; constructor
 · intro h i hi
   have h := h i (List.mem_range.2 hi); obtain ⟨e1, e2, e3⟩ := e i hi; rw [e1, e2, e3] at h; simp only [Bool.and_eq_true, decide_eq_true_eq] at h; exact h
 · intro h i hi
   have hi := List.mem_range.1 hi; obtain ⟨e1, e2, e3⟩ := e i hi; rw [e1, e2, e3]; simp only [Bool.and_eq_true, decide_eq_true_eq]; exact h i hi
def ctRRnd : CtF := ctRd cfgRd (fun | ⟨c, [.agg l]⟩ => .agg (rndL ⟨c.np, c.miss, c.good⟩ l) | _ => i64 0) (fun | ⟨c, [.agg l]⟩ => isVw l && (bndL l && decide (c.np ≤ 8)) | _ => false)
set_option maxRecDepth 100000 in
theorem jjjm : CtOk Tryz.prog 77 ctRRnd := by
 refine jj1i (E := ENrv Tryz.prog) hENrv cfgRd (fuel := 300) (str := 10000000000000000000000000000000000000000) ⟨_, _, Tryz.func77, rfl⟩ (fun s => by split <;> rfl) fun s hs => ?_
 split at hs
 · rename_i c l
   simp only [Bool.and_eq_true, decide_eq_true_eq] at hs; obtain ⟨hl, hp, h8⟩ := hs; have e := jjcv hl; generalize vwOf l = v at e; subst e; have hp := (jjcg v).1 hp; refine (?_ : (∃ p q, cvE (ENrv Tryz.prog) 77 c [.agg (vwL v)] p [some (rvS (rndV ⟨c.np, c.miss, c.good⟩ v))] = some q ∧ GoodF (.agg (rndL ⟨c.np, c.miss, c.good⟩ (vwL v))) q) → _) (rvD c v (rndV ⟨c.np, c.miss, c.good⟩ v) _ ?_)
   · rintro ⟨p, q, h1, h2⟩
     exact ⟨p, _, q, h1, h2⟩
   · have hs := jjkv c v h8 hp
     refine ⟨by rw [jjeg], (by first | (unfold lim; omega) | (dsimp only; unfold lim; omega)), by simp [allT, jjn, jju, jj1, jj3, jj7, jjg, jj9, Vw.len], fun q hq => ?_⟩; rw [List.mem_singleton.1 hq]; exact hs
 · cases hs
end Go.Proofs.YtfohlkhfnogmdaaGreatDoor
end
section
namespace Go.Proofs.YtfohlkhfnogmdaaGreatDoor
open Go.RowKit
def rxR : CfgS → AV
 | ⟨c, [.agg l]⟩ => .agg (rndL ⟨c.np, c.miss, c.good⟩ l)
 | _ => i64 0
def rxP : CfgS → Bool
 | ⟨c, [.agg l]⟩ => isVw l && (bndL l && decide (c.np ≤ 8))
 | _ => false
theorem jjku (c : Cfg) (l : List AC) : rxP ⟨c, [.agg l]⟩ = (isVw l && (bndL l && decide (c.np ≤ 8))) := rfl
theorem jjh1 {P : Program} {f : FuncId} {R R' : CfgS → AV} {p p' : CfgS → Bool} (h : CtOk P f (ctRd cfgRd R p)) (hR : ∀ s, R' s = R s) (hp : ∀ s, p' s = p s) : CtOk P f (ctRd cfgRd R' p') := by
 obtain rfl : R' = R := funext hR; obtain rfl : p' = p := funext hp; exact h
theorem ct_rx : CtOk Tryz.prog 77 (ctRd cfgRd rxR rxP) := jjh1 jjjm (fun s => by unfold rxR; rfl) (fun s => by unfold rxP; rfl)
end Go.Proofs.YtfohlkhfnogmdaaGreatDoor
end
section
namespace Go.Proofs.YtfohlkhfnogmdaaGreatDoor
open Go.RowKit
abbrev mdV (c : Cfg) (nq : Nat) (fq : Nat → Int) (v : Vw) (k : Nat) : List AV := [.c (.ptr 5 0 0), .c (.ptr 1000 0 0), i64 (Int.ofNat (cntF (inB c nq fq v) k)), i64 (Int.ofNat (cntF (hasB c nq fq) k)), i64 (Int.ofNat k)]
def mdR (P : Program) (c : Cfg) (nq : Nat) (fq : Nat → Int) (v : Vw) (k : Nat) (path : List Dec) : Option VC :=
 view ([0, 3, 4, 5, 7] ++ []) (netIds ++ [1000]) (fC (ENf P) 100 (loopAt P 161 0) 1000000000000000000000000000000000000000000 10000000000000000000000000000000000000000 (stH 25 [0, 3, 4, 5, 7] (netIds ++ [1000]) (mdV c nq fq v k) (netBk c nq fq ++ [vwB v]) path []))
theorem md (c : Cfg) (nq : Nat) (fq : Nat → Int) (v : Vw) (k : Nat) (Q : VC → Prop) (H : let zq0 : List Bool := [netK c nq fq, true, decide (Int.ofNat k < Int.ofNat 8) == true]; let zq1 : List Bool := (ABlk.inb (ABlk.mk true false 59 0 (Cs.lit (vwL v))) 0 (0 + Int.toNat (Int.ofNat k) * 1 + 1)) :: (okl Kd.b (List.getD (vwL v) (0 + Int.toNat (Int.ofNat k) * 1) nov)) :: (decide (Int.ofNat 0 ≤ Int.ofNat k ∧ Int.ofNat k < Int.ofNat 8)) :: (decide (headN c nq fq (List.headD [Int.ofNat k] (Int.ofNat 0)) < Int.ofNat 0) == false) :: zq0; (((decide (Int.ofNat k < Int.ofNat 8)) = true → (((decide (headN c nq fq (List.headD [Int.ofNat k] (Int.ofNat 0)) < Int.ofNat 0)) = true → Q (Exit.normal, [some (lkA (List.zip [0, 3, 4, 5, 7] (mdV c nq fq v k)) 0), some (lkA (List.zip [0, 3, 4, 5, 7] (mdV c nq fq v k)) (0 + 1 + 1 + 1)), some (lkA (List.zip [0, 3, 4, 5, 7] (mdV c nq fq v k)) (0 + 1 + 1 + 1 + 1)), some (lkA (List.zip [0, 3, 4, 5, 7] (mdV c nq fq v k)) (0 + 1 + 1 + 1 + 1 + 1)), some (.c (.v (.int .i64 (IntKind.wrap .i64 (Int.ofNat k + Int.ofNat 1)))))], [some (ABlk.mk false false 26 0 (Cs.lit [.v (.int .i64 (Int.ofNat 1)), .v (.int .i64 (Int.negSucc 0))])), some (ABlk.mk false false 3 1 (Cs.arr (c.np) fun k => List.map AC.v ((fun i => [Value.int .i64 (c.fp i)]) k))), some (ABlk.mk false false 3 1 (Cs.arr (c.ns) fun k => List.map AC.v ((fun i => [Value.int .i64 (c.fs i)]) k))), some (ABlk.mk false false 3 1 (Cs.arr (c.nb) fun k => List.map AC.v ((fun i => [Value.int .i64 (c.fb i)]) k))), some (ABlk.mk false false 51 3 (Cs.arr (c.nt) fun k => List.map AC.v ((fun i => [Value.int .i64 (Station.node (c.ft i)), Value.int .u32 (Station.safe (c.ft i)), Value.int .i64 (Station.hold (c.ft i))]) k))), some (ABlk.mk false false 3 1 (Cs.arr nq fun k => List.map AC.v ((fun i => [Value.int .i64 (fq i)]) k))), some (ABlk.mk false false 105 0 (Cs.lit [.v (.int .i64 (c.nodes)), AC.sl 0 0 0 (c.np) none, AC.sl 1 0 0 (c.ns) none, .v (.int .i64 (c.long)), AC.sl 2 0 0 (c.nb) none, AC.sl 3 0 0 (c.nt) none, .v (.int .i64 (c.miss)), .v (.int .i64 (c.good)), .v (.int .i64 (c.fresh)), AC.sl 4 0 0 nq none])), some (ABlk.mk true false 59 0 (Cs.lit (vwL v)))], 25, 1000000000000000000000000000000000000000008, ((decide (headN c nq fq (List.headD [Int.ofNat k] (Int.ofNat 0)) < Int.ofNat 0) == true) :: zq0), [])) ∧ ((decide (headN c nq fq (List.headD [Int.ofNat k] (Int.ofNat 0)) < Int.ofNat 0)) = false → (((asB (List.getD (vwL v) (0 + Int.toNat (Int.ofNat k) * 1) nov)) = true → Q (Exit.normal, [some (lkA (List.zip [0, 3, 4, 5, 7] (mdV c nq fq v k)) 0), some (lkA (List.zip [0, 3, 4, 5, 7] (mdV c nq fq v k)) (0 + 1 + 1 + 1)), some (.c (.v (.int .i64 (IntKind.wrap .i64 (Int.ofNat (cntF (inB c nq fq v) k) + Int.ofNat 1))))), some (.c (.v (.int .i64 (IntKind.wrap .i64 (Int.ofNat (cntF (hasB c nq fq) k) + Int.ofNat 1))))), some (.c (.v (.int .i64 (IntKind.wrap .i64 (Int.ofNat k + Int.ofNat 1)))))], [some (ABlk.mk false false 26 0 (Cs.lit [.v (.int .i64 (Int.ofNat 1)), .v (.int .i64 (Int.negSucc 0))])), some (ABlk.mk false false 3 1 (Cs.arr (c.np) fun k => List.map AC.v ((fun i => [Value.int .i64 (c.fp i)]) k))), some (ABlk.mk false false 3 1 (Cs.arr (c.ns) fun k => List.map AC.v ((fun i => [Value.int .i64 (c.fs i)]) k))), some (ABlk.mk false false 3 1 (Cs.arr (c.nb) fun k => List.map AC.v ((fun i => [Value.int .i64 (c.fb i)]) k))), some (ABlk.mk false false 51 3 (Cs.arr (c.nt) fun k => List.map AC.v ((fun i => [Value.int .i64 (Station.node (c.ft i)), Value.int .u32 (Station.safe (c.ft i)), Value.int .i64 (Station.hold (c.ft i))]) k))), some (ABlk.mk false false 3 1 (Cs.arr nq fun k => List.map AC.v ((fun i => [Value.int .i64 (fq i)]) k))), some (ABlk.mk false false 105 0 (Cs.lit [.v (.int .i64 (c.nodes)), AC.sl 0 0 0 (c.np) none, AC.sl 1 0 0 (c.ns) none, .v (.int .i64 (c.long)), AC.sl 2 0 0 (c.nb) none, AC.sl 3 0 0 (c.nt) none, .v (.int .i64 (c.miss)), .v (.int .i64 (c.good)), .v (.int .i64 (c.fresh)), AC.sl 4 0 0 nq none])), some (ABlk.mk true false 59 0 (Cs.lit (vwL v)))], 25, 1000000000000000000000000000000000000000018, ((asB (List.getD (vwL v) (0 + Int.toNat (Int.ofNat k) * 1) nov) == true) :: zq1), [])) ∧ ((asB (List.getD (vwL v) (0 + Int.toNat (Int.ofNat k) * 1) nov)) = false → Q (Exit.normal, [some (lkA (List.zip [0, 3, 4, 5, 7] (mdV c nq fq v k)) 0), some (lkA (List.zip [0, 3, 4, 5, 7] (mdV c nq fq v k)) (0 + 1 + 1 + 1)), some (lkA (List.zip [0, 3, 4, 5, 7] (mdV c nq fq v k)) (0 + 1 + 1 + 1 + 1)), some (.c (.v (.int .i64 (IntKind.wrap .i64 (Int.ofNat (cntF (hasB c nq fq) k) + Int.ofNat 1))))), some (.c (.v (.int .i64 (IntKind.wrap .i64 (Int.ofNat k + Int.ofNat 1)))))], [some (ABlk.mk false false 26 0 (Cs.lit [.v (.int .i64 (Int.ofNat 1)), .v (.int .i64 (Int.negSucc 0))])), some (ABlk.mk false false 3 1 (Cs.arr (c.np) fun k => List.map AC.v ((fun i => [Value.int .i64 (c.fp i)]) k))), some (ABlk.mk false false 3 1 (Cs.arr (c.ns) fun k => List.map AC.v ((fun i => [Value.int .i64 (c.fs i)]) k))), some (ABlk.mk false false 3 1 (Cs.arr (c.nb) fun k => List.map AC.v ((fun i => [Value.int .i64 (c.fb i)]) k))), some (ABlk.mk false false 51 3 (Cs.arr (c.nt) fun k => List.map AC.v ((fun i => [Value.int .i64 (Station.node (c.ft i)), Value.int .u32 (Station.safe (c.ft i)), Value.int .i64 (Station.hold (c.ft i))]) k))), some (ABlk.mk false false 3 1 (Cs.arr nq fun k => List.map AC.v ((fun i => [Value.int .i64 (fq i)]) k))), some (ABlk.mk false false 105 0 (Cs.lit [.v (.int .i64 (c.nodes)), AC.sl 0 0 0 (c.np) none, AC.sl 1 0 0 (c.ns) none, .v (.int .i64 (c.long)), AC.sl 2 0 0 (c.nb) none, AC.sl 3 0 0 (c.nt) none, .v (.int .i64 (c.miss)), .v (.int .i64 (c.good)), .v (.int .i64 (c.fresh)), AC.sl 4 0 0 nq none])), some (ABlk.mk true false 59 0 (Cs.lit (vwL v)))], 25, 1000000000000000000000000000000000000000015, ((asB (List.getD (vwL v) (0 + Int.toNat (Int.ofNat k) * 1) nov) == false) :: zq1), [])))))) ∧ ((decide (Int.ofNat k < Int.ofNat 8)) = false → Q (Exit.exit 0, [some (lkA (List.zip [0, 3, 4, 5, 7] (mdV c nq fq v k)) 0), some (lkA (List.zip [0, 3, 4, 5, 7] (mdV c nq fq v k)) (0 + 1 + 1 + 1)), some (lkA (List.zip [0, 3, 4, 5, 7] (mdV c nq fq v k)) (0 + 1 + 1 + 1 + 1)), some (lkA (List.zip [0, 3, 4, 5, 7] (mdV c nq fq v k)) (0 + 1 + 1 + 1 + 1 + 1)), some (lkA (List.zip [0, 3, 4, 5, 7] (mdV c nq fq v k)) (0 + 1 + 1 + 1 + 1 + 1 + 1 + 1))], [some (ABlk.mk false false 26 0 (Cs.lit [.v (.int .i64 (Int.ofNat 1)), .v (.int .i64 (Int.negSucc 0))])), some (ABlk.mk false false 3 1 (Cs.arr (c.np) fun k => List.map AC.v ((fun i => [Value.int .i64 (c.fp i)]) k))), some (ABlk.mk false false 3 1 (Cs.arr (c.ns) fun k => List.map AC.v ((fun i => [Value.int .i64 (c.fs i)]) k))), some (ABlk.mk false false 3 1 (Cs.arr (c.nb) fun k => List.map AC.v ((fun i => [Value.int .i64 (c.fb i)]) k))), some (ABlk.mk false false 51 3 (Cs.arr (c.nt) fun k => List.map AC.v ((fun i => [Value.int .i64 (Station.node (c.ft i)), Value.int .u32 (Station.safe (c.ft i)), Value.int .i64 (Station.hold (c.ft i))]) k))), some (ABlk.mk false false 3 1 (Cs.arr nq fun k => List.map AC.v ((fun i => [Value.int .i64 (fq i)]) k))), some (ABlk.mk false false 105 0 (Cs.lit [.v (.int .i64 (c.nodes)), AC.sl 0 0 0 (c.np) none, AC.sl 1 0 0 (c.ns) none, .v (.int .i64 (c.long)), AC.sl 2 0 0 (c.nb) none, AC.sl 3 0 0 (c.nt) none, .v (.int .i64 (c.miss)), .v (.int .i64 (c.good)), .v (.int .i64 (c.fresh)), AC.sl 4 0 0 nq none])), some (ABlk.mk true false 59 0 (Cs.lit (vwL v)))], 25, 1000000000000000000000000000000000000000001, [decide (Int.ofNat k < Int.ofNat 8) == false], [])))) :
 ∃ p r, mdR Tryz.prog c nq fq v k p = some r ∧ Q r :=
 two H
 (fun g1 => two g1
  (fun g2 => ⟨pD 2 4, _, by kernel_rfl, g2⟩)
  (fun g2 => two g2
   (fun g3 => ⟨pD 3 16, _, by kernel_rfl, g3⟩)
   (fun g3 => ⟨pD 3 25, _, by kernel_rfl, g3⟩)))
 (fun g1 => ⟨pD 1 2, _, by kernel_rfl, g1⟩)
end Go.Proofs.YtfohlkhfnogmdaaGreatDoor
end
section
namespace Go.Proofs.YtfohlkhfnogmdaaGreatDoor
open Go.RowKit
theorem jjlw (c : Cfg) (nq : Nat) (fq : Nat → Int) (v : Vw) {eblks : List (Option ABlk)} (heb : BL (netBk c nq fq ++ [vwB v]) eblks) :
 LoopV Tryz.prog (loopAt Tryz.prog 161 0) [0, 3, 4, 5, 7] (netIds ++ [1000]) ((mdV c nq fq v 0).map some) eblks 25 1004 (mkFr 25 [(4, i64 (Int.ofNat (cntF (inB c nq fq v) 8))), (5, i64 (Int.ofNat (cntF (hasB c nq fq) 8)))]) [] 100000000000000000000000000000000000000000000000000 (.exit 0) none := by
 refine jj14 hENf (fuel := 100) (str := 10000000000000000000000000000000000000000) (nh := 1000000000000000000000000000000000000000000) (S := Nat) (fun k => k ≤ 8) (fun k => 8 - k) [0, 3, 4, 5, 7] [] (netIds ++ [1000]) (mdV c nq fq v) (fun _ => netBk c nq fq ++ [vwB v]) (by decide) (by decide) (by unfold lim; omega) (s0 := 0) (by omega) (fun _ => ⟨rfl, rfl⟩) (by kernel_rfl) heb (fun k _ => ⟨rfl, ?_⟩) ?_
 · intro b hb
   rcases List.mem_append.1 hb with h | h
   · exact jjd8 (by omega) b h
   · rw [List.mem_singleton.1 h]; exact jj1m
 intro k hk; refine (?_ : (∃ p r, mdR Tryz.prog c nq fq v k p = some r ∧ _) → _) (md c nq fq v k (StepV 1004 100000000000000000000000000000000000000000000000000 25 [0, 3, 4, 5, 7] [] (netIds ++ [1000]) (fun k => k ≤ 8) (fun k => 8 - k) (mdV c nq fq v) (fun _ => netBk c nq fq ++ [vwB v]) (.exit 0) [(4, i64 (Int.ofNat (cntF (inB c nq fq v) 8))), (5, i64 (Int.ofNat (cntF (hasB c nq fq) 8)))] [] k) ?_)
 · rintro ⟨p, r, h1, h2⟩
   exact ⟨p, [], r, h1, h2⟩
 · have hb := jj4p (hasB c nq fq) k
   have hi := jj4p (inB c nq fq v) k
   have nx : ∀ {a b : Int} {i j : Nat}, i = cntF (inB c nq fq v) (k + 1) → j = cntF (hasB c nq fq) (k + 1) → k < 8 → a = Int.ofNat i → b = Int.ofNat j → [some (.c (.ptr 5 0 0)), some (.c (.ptr 1000 0 0)), some (i64 a), some (i64 b), some (i64 (Int.ofNat (k + 1)))] = (mdV c nq fq v (k + 1)).map some := by
    rintro a b i j rfl rfl _ rfl rfl; rfl
   refine ⟨fun c1 => ⟨fun c2 => ?_, fun c2 => ⟨fun c3 => ?_, fun c3 => ?_⟩⟩, fun c1 => ?_⟩
   · have hlt : k < 8 := by simp at c1; omega
     have h0 : hasB c nq fq k = false := by simpa [hasB] using c2
     refine ⟨?_, rfl, by dsimp only; omega, rfl, .inl ⟨rfl, k + 1, by omega, by show 8 - (k + 1) < 8 - k; omega, ?_, by exact BL.refl (netBk c nq fq ++ [vwB v])⟩⟩
     · simp [allT, hlt, c2, jjn, jju, jj1, jj3, jj7, jjg]
       simp at c2; omega
     · rw [jj1n k (by omega)]
       exact nx (i := cntF (inB c nq fq v) k) (j := cntF (hasB c nq fq) k) (by rw [jj1p]; simp [inB, h0]) (by rw [jj1p]; simp [h0]) hlt rfl rfl
   · have hlt : k < 8 := by simp at c1; omega
     have h0 : hasB c nq fq k = true := by simpa [hasB] using c2
     rw [jj46 v k hlt] at c3; refine ⟨?_, rfl, by dsimp only; omega, rfl, .inl ⟨rfl, k + 1, by omega, by show 8 - (k + 1) < 8 - k; omega, ?_, by exact BL.refl (netBk c nq fq ++ [vwB v])⟩⟩
     · simp only [allT, List.forall_mem_cons, jj46 v k hlt, jj4g v k hlt]
       simp [allT, hlt, c3, jjn, jju, jj1, jj3, jj7, jjg, Vw.len, jj9, jj5]; simp at c2; omega
     · rw [jj1n k (by omega), jj1n _ (by omega), jj1n _ (by omega)]
       exact nx (i := cntF (inB c nq fq v) k + 1) (j := cntF (hasB c nq fq) k + 1) (by rw [jj1p]; simp [inB, h0, c3]) (by rw [jj1p]; simp [h0]) hlt rfl rfl
   · have hlt : k < 8 := by simp at c1; omega
     have h0 : hasB c nq fq k = true := by simpa [hasB] using c2
     rw [jj46 v k hlt] at c3; refine ⟨?_, rfl, by dsimp only; omega, rfl, .inl ⟨rfl, k + 1, by omega, by show 8 - (k + 1) < 8 - k; omega, ?_, by exact BL.refl (netBk c nq fq ++ [vwB v])⟩⟩
     · simp only [allT, List.forall_mem_cons, jj46 v k hlt, jj4g v k hlt]
       simp [allT, hlt, c3, jjn, jju, jj1, jj3, jj7, jjg, Vw.len, jj9, jj5]; simp at c2; omega
     · rw [jj1n k (by omega), jj1n _ (by omega)]
       exact nx (i := cntF (inB c nq fq v) k) (j := cntF (hasB c nq fq) k + 1) (by rw [jj1p]; simp [inB, h0, c3]) (by rw [jj1p]; simp [h0]) hlt rfl rfl
   · have hge : k = 8 := by simp at c1; omega
     subst hge; refine ⟨by simp [allT], rfl, by dsimp only; omega, rfl, .inr ⟨by simp, rfl, fun q hq => ?_, fun p hpp => (by cases hpp)⟩⟩; simp only [List.mem_cons, List.not_mem_nil, or_false] at hq; rcases hq with rfl | rfl
     · exact ⟨rfl, by simp [lkA]⟩
     · exact ⟨rfl, by simp [lkA]⟩
def insN (c : Cfg) (nq : Nat) (fq : Nat → Int) (l : List AC) : Nat := cntF (fun p => hasB c nq fq p && asB (l.getD p nov)) 8
def allN (c : Cfg) (nq : Nat) (fq : Nat → Int) : Nat := cntF (hasB c nq fq) 8
abbrev inL (v : Vw) : List AC := [.v (.bool (v.inn 0)), .v (.bool (v.inn 1)), .v (.bool (v.inn 2)), .v (.bool (v.inn 3)), .v (.bool (v.inn 4)), .v (.bool (v.inn 5)), .v (.bool (v.inn 6)), .v (.bool (v.inn 7))]
theorem jjiv (c : Cfg) (nq : Nat) (fq : Nat → Int) (v : Vw) : insN c nq fq (inL v) = cntF (inB c nq fq v) 8 :=
 jj1a fun i hi => by
  have : asB ((inL v).getD i nov) = v.inn i := by
   match i, hi with
   | 0, _ => rfl
   | 1, _ => rfl
   | 2, _ => rfl
   | 3, _ => rfl
   | 4, _ => rfl
   | 5, _ => rfl
   | 6, _ => rfl
   | 7, _ => rfl
  simp only [inB, this]
def modsR (c : Cfg) (nq : Nat) (fq : Nat → Int) (l : List AC) (_ : List AV) : AV := .tup [i64 (Int.ofNat (insN c nq fq (l.take 8))), i64 (Int.ofNat (allN c nq fq))]
theorem mdIn (c : Cfg) (nq : Nat) (fq : Nat → Int) (v : Vw) (Q : VF → Prop) (H : Q (.tup [.c (.v (.int .i64 (Int.ofNat (cntF (inB c nq fq v) 8)))), .c (.v (.int .i64 (Int.ofNat (cntF (hasB c nq fq) 8))))], [], 100000000000000000000000000000000000000000000000004, [], [LoopV Tryz.prog (loopAt Tryz.prog 161 0) [0, 3, 4, 5, 7] (netIds ++ [1000]) [some (.c (.ptr 5 0 0)), some (.c (.ptr 1000 0 0)), some (.c (.v (.int .i64 (Int.ofNat 0)))), some (.c (.v (.int .i64 (Int.ofNat 0)))), some (.c (.v (.int .i64 (Int.ofNat 0))))] [some (ABlk.mk false false 26 0 (Cs.lit [.v (.int .i64 (Int.ofNat 1)), .v (.int .i64 (Int.negSucc 0))])), some (ABlk.mk false false 3 1 (Cs.arr (c.np) fun k => List.map AC.v ((fun i => [Value.int .i64 (c.fp i)]) k))), some (ABlk.mk false false 3 1 (Cs.arr (c.ns) fun k => List.map AC.v ((fun i => [Value.int .i64 (c.fs i)]) k))), some (ABlk.mk false false 3 1 (Cs.arr (c.nb) fun k => List.map AC.v ((fun i => [Value.int .i64 (c.fb i)]) k))), some (ABlk.mk false false 51 3 (Cs.arr (c.nt) fun k => List.map AC.v ((fun i => [Value.int .i64 (Station.node (c.ft i)), Value.int .u32 (Station.safe (c.ft i)), Value.int .i64 (Station.hold (c.ft i))]) k))), some (ABlk.mk false false 3 1 (Cs.arr nq fun k => List.map AC.v ((fun i => [Value.int .i64 (fq i)]) k))), some (ABlk.mk false false 105 0 (Cs.lit [.v (.int .i64 (c.nodes)), AC.sl 0 0 0 (c.np) none, AC.sl 1 0 0 (c.ns) none, .v (.int .i64 (c.long)), AC.sl 2 0 0 (c.nb) none, AC.sl 3 0 0 (c.nt) none, .v (.int .i64 (c.miss)), .v (.int .i64 (c.good)), .v (.int .i64 (c.fresh)), AC.sl 4 0 0 nq none])), some (ABlk.mk true false 59 0 (Cs.lit (vwL v)))] 25 1004 (mkFr 25 [(4, i64 (Int.ofNat (cntF (inB c nq fq v) 8))), (5, i64 (Int.ofNat (cntF (hasB c nq fq) 8)))]) [] 100000000000000000000000000000000000000000000000000 (Exit.exit 0) none])) :
 ∃ p r, vwE (ENf Tryz.prog) 161 c nq fq v [] p [some ⟨[0, 3, 4, 5, 7], netIds ++ [1000], mkFr 25 [(4, i64 (Int.ofNat (cntF (inB c nq fq v) 8))), (5, i64 (Int.ofNat (cntF (hasB c nq fq) 8)))], [], 100000000000000000000000000000000000000000000000000, .exit 0⟩] = some r ∧ Q r :=
 ⟨pD 0 0, _, by kernel_rfl, H⟩
end Go.Proofs.YtfohlkhfnogmdaaGreatDoor
end
section
namespace Go.Proofs.YtfohlkhfnogmdaaGreatDoor
open Go.RowKit
theorem jjjs : CtOk Tryz.prog 161 (ctRd netRd (rV modsR) (pV fun _ r => r.isEmpty)) := by
 refine jjfd (E := ENf Tryz.prog) hENf ⟨_, _, Tryz.func161, rfl⟩ (fun _ _ _ _ _ => rfl) fun c nq fq v r hr => ?_
 obtain rfl := List.isEmpty_iff.1 hr; refine (?_ : (∃ p q, vwE (ENf Tryz.prog) 161 c nq fq v [] p [some ⟨[0, 3, 4, 5, 7], netIds ++ [1000], mkFr 25 [(4, i64 (Int.ofNat (cntF (inB c nq fq v) 8))), (5, i64 (Int.ofNat (cntF (hasB c nq fq) 8)))], [], 100000000000000000000000000000000000000000000000000, .exit 0⟩] = some q ∧ GoodF (modsR c nq fq (vwL v) []) q) → _) (mdIn c nq fq v _ ?_)
 · rintro ⟨p, q, h1, h2⟩
   exact ⟨p, _, q, h1, h2⟩
 · refine ⟨by simp only [modsR, i64, allN]; rw [← jjiv]; rfl, (by first | (unfold lim; omega) | (dsimp only; unfold lim; omega)), by simp [allT], fun q hq => ?_⟩
   rw [List.mem_singleton.1 hq]; exact jjlw c nq fq v (BL.refl _)
def ctMdIn : CtF := ctRd netRd (rV modsR) (pV fun _ r => r.isEmpty)
def ENas (P : Program) : Env := ⟨P, [(161, ctMdIn)]⟩
theorem hENas : EnvOk (ENas Tryz.prog) := by
 refine jj6q (fun f g h => ?_) (by kernel_rfl) (by kernel_rfl); simp only [ENas, List.mem_cons, Prod.mk.injEq, List.not_mem_nil, or_false] at h; obtain ⟨rfl, rfl⟩ := h; exact jjjs
def asksZ (is all : Nat) (cmd : Int) : Int := if cmd < 0 ∨ is = 0 then 4 else if is = all then 1 else if is = 1 then 3 else 2
def asksC (c : Cfg) (nq : Nat) (fq : Nat → Int) (l : List AC) (cmd : Int) : Int := asksZ (insN c nq fq l) (allN c nq fq) cmd
def asksR (c : Cfg) (nq : Nat) (fq : Nat → Int) (l : List AC) (_ : List AV) : AV := .c (.v (.int .u8 (asksC c nq fq (l.take 8) (asI (l.getD 40 nov)))))
theorem mdAs (c : Cfg) (nq : Nat) (fq : Nat → Int) (v : Vw) (Q : VF → Prop) (H : let zt : List Bool → List Bool := fun l => true :: true :: true :: true :: true :: true :: true :: true :: l; let zu : List Bool → List Bool := fun l => zt (zt (zt (zt l))); let zq0 : List Bool := true :: true :: (netK c nq fq) :: (zu (zt (true :: true :: true :: true :: []))); let zq1 : List Bool := (decide (Vw.command v < Int.ofNat 0) == false) :: zq0; let zq2 : List Bool := ((Int.ofNat (insN c nq fq (inL v)) == Int.ofNat 0) == false) :: zq1; let zq3 : List Bool := ((Int.ofNat (insN c nq fq (inL v)) == Int.ofNat (allN c nq fq)) == false) :: zq2; (((decide (Vw.command v < Int.ofNat 0)) = true → Q (.c (.v (.int .u8 (Int.ofNat 4))), [], 1016, ((decide (Vw.command v < Int.ofNat 0) == true) :: zq0), [])) ∧ ((decide (Vw.command v < Int.ofNat 0)) = false → (((Int.ofNat (insN c nq fq (inL v)) == Int.ofNat 0) = true → Q (.c (.v (.int .u8 (Int.ofNat 4))), [], 1018, (((Int.ofNat (insN c nq fq (inL v)) == Int.ofNat 0) == true) :: zq1), [])) ∧ ((Int.ofNat (insN c nq fq (inL v)) == Int.ofNat 0) = false → (((Int.ofNat (insN c nq fq (inL v)) == Int.ofNat (allN c nq fq)) = true → Q (.c (.v (.int .u8 (Int.ofNat 1))), [], 1022, (((Int.ofNat (insN c nq fq (inL v)) == Int.ofNat (allN c nq fq)) == true) :: zq2), [])) ∧ ((Int.ofNat (insN c nq fq (inL v)) == Int.ofNat (allN c nq fq)) = false → (((Int.ofNat (insN c nq fq (inL v)) == Int.ofNat 1) = true → Q (.c (.v (.int .u8 (Int.ofNat 3))), [], 1025, (((Int.ofNat (insN c nq fq (inL v)) == Int.ofNat 1) == true) :: zq3), [])) ∧ ((Int.ofNat (insN c nq fq (inL v)) == Int.ofNat 1) = false → Q (.c (.v (.int .u8 (Int.ofNat 2))), [], 1025, (((Int.ofNat (insN c nq fq (inL v)) == Int.ofNat 1) == false) :: zq3), [])))))))))) :
 ∃ p r, vwE (ENas Tryz.prog) 134 c nq fq v [] p [] = some r ∧ Q r :=
 two H
 (fun g1 => ⟨pD 3 1, _, by kernel_rfl, g1⟩)
 (fun g1 => two g1
  (fun g2 => ⟨pD 3 11, _, by kernel_rfl, g2⟩)
  (fun g2 => two g2
   (fun g3 => ⟨pD 4 47, _, by kernel_rfl, g3⟩)
   (fun g3 => two g3
    (fun g4 => ⟨pD 5 155, _, by kernel_rfl, g4⟩)
    (fun g4 => ⟨pD 5 236, _, by kernel_rfl, g4⟩))))
end Go.Proofs.YtfohlkhfnogmdaaGreatDoor
end
section
namespace Go.Proofs.YtfohlkhfnogmdaaGreatDoor
open Go.RowKit
def ctAsks : CtF := ctRd netRd (rV asksR) (pV fun _ r => r.isEmpty)
theorem jjjx : CtOk Tryz.prog 134 ctAsks := by
 refine jjfd (E := ENas Tryz.prog) hENas ⟨_, _, Tryz.func134, rfl⟩ (fun _ _ _ _ _ => rfl) fun c nq fq v r hr => ?_
 obtain rfl := List.isEmpty_iff.1 hr; refine (?_ : (∃ p q, vwE (ENas Tryz.prog) 134 c nq fq v [] p [] = some q ∧ GoodF (asksR c nq fq (vwL v) []) q) → _) (mdAs c nq fq v _ ?_)
 · rintro ⟨p, q, h1, h2⟩
   exact ⟨p, _, q, h1, h2⟩
 · have hr : asksR c nq fq (vwL v) [] = .c (.v (.int .u8 (asksZ (insN c nq fq (inL v)) (allN c nq fq) v.command))) := rfl
   rw [hr]; generalize insN c nq fq (inL v) = i; generalize allN c nq fq = a
   (repeat' (first | refine ⟨fun h => ?_, fun h => ?_⟩ | fail))
   all_goals (refine ⟨?_, (by first | (unfold lim; omega) | (dsimp only; unfold lim; omega)), ?_, by simp⟩)
   all_goals (first | (simp_all [asksZ]; done) | (simp_all [asksZ]; omega) | (simp_all [allT, jjn, jju, jj1, jj3, jj7, jjg, jjf, jj9, jj5, Vw.len]; done) | (simp_all [allT, jjn, jju, jj1, jj3, jj7, jjg, jjf, jj9, jj5, Vw.len]; omega))
abbrev edgeL : List Bool := [true, true, true, true, true, false, true, true, true, true, false, true, true, true, true, false, false, true, true, true, false, false, false, true, true]
def edgeB : ABlk := ⟨false, false, 237, 0, .lit (edgeL.map fun b => .v (.bool b))⟩
def mE : AMem := [(gid 1, edgeB)]
def edgeF (a b : Int) : Bool := decide (b < 5) && edgeL.getD ((if 5 ≤ a then 0 else a.toNat) * 5 + b.toNat) false
def edR (P : Program) (a b : Int) (path : List Dec) : Option VF := viewF [] (fCallF (E1 P) (fC (E1 P) 300) 135 [.c (.v (.int .u8 a)), .c (.v (.int .u8 b))] 1000 10000000000000000000000000000000000000000 (stA mE path []))
theorem ed (a b : Int) (Q : VF → Prop) (H : (((decide (a ≥ Int.ofNat 5)) = true → (((decide (b < Int.ofNat 5)) = true → Q (.c (.v (.bool (asB (List.getD [.v (.bool true), .v (.bool true), .v (.bool true), .v (.bool true), .v (.bool true), .v (.bool false), .v (.bool true), .v (.bool true), .v (.bool true), .v (.bool true), .v (.bool false), .v (.bool true), .v (.bool true), .v (.bool true), .v (.bool true), .v (.bool false), .v (.bool false), .v (.bool true), .v (.bool true), .v (.bool true), .v (.bool false), .v (.bool false), .v (.bool false), .v (.bool true), .v (.bool true)] (0 + Int.toNat b * 1) nov)))), [], 1014, [ABlk.inb (ABlk.mk false false 237 0 (Cs.lit [.v (.bool true), .v (.bool true), .v (.bool true), .v (.bool true), .v (.bool true), .v (.bool false), .v (.bool true), .v (.bool true), .v (.bool true), .v (.bool true), .v (.bool false), .v (.bool true), .v (.bool true), .v (.bool true), .v (.bool true), .v (.bool false), .v (.bool false), .v (.bool true), .v (.bool true), .v (.bool true), .v (.bool false), .v (.bool false), .v (.bool false), .v (.bool true), .v (.bool true)])) 0 (0 + Int.toNat b * 1 + 1), okl Kd.b (List.getD [.v (.bool true), .v (.bool true), .v (.bool true), .v (.bool true), .v (.bool true), .v (.bool false), .v (.bool true), .v (.bool true), .v (.bool true), .v (.bool true), .v (.bool false), .v (.bool true), .v (.bool true), .v (.bool true), .v (.bool true), .v (.bool false), .v (.bool false), .v (.bool true), .v (.bool true), .v (.bool true), .v (.bool false), .v (.bool false), .v (.bool false), .v (.bool true), .v (.bool true)] (0 + Int.toNat b * 1) nov), decide (Int.ofNat 0 ≤ b ∧ b < Int.ofNat 5), true, decide (b < Int.ofNat 5) == true, decide (a ≥ Int.ofNat 5) == true], [])) ∧ ((decide (b < Int.ofNat 5)) = false → Q (.c (.v (.bool false)), [], 1009, [decide (b < Int.ofNat 5) == false, decide (a ≥ Int.ofNat 5) == true], [])))) ∧ ((decide (a ≥ Int.ofNat 5)) = false → (((decide (b < Int.ofNat 5)) = true → Q (.c (.v (.bool (asB (List.getD [.v (.bool true), .v (.bool true), .v (.bool true), .v (.bool true), .v (.bool true), .v (.bool false), .v (.bool true), .v (.bool true), .v (.bool true), .v (.bool true), .v (.bool false), .v (.bool true), .v (.bool true), .v (.bool true), .v (.bool true), .v (.bool false), .v (.bool false), .v (.bool true), .v (.bool true), .v (.bool true), .v (.bool false), .v (.bool false), .v (.bool false), .v (.bool true), .v (.bool true)] (0 + Int.toNat a * 5 + Int.toNat b * 1) nov)))), [], 1013, [ABlk.inb (ABlk.mk false false 237 0 (Cs.lit [.v (.bool true), .v (.bool true), .v (.bool true), .v (.bool true), .v (.bool true), .v (.bool false), .v (.bool true), .v (.bool true), .v (.bool true), .v (.bool true), .v (.bool false), .v (.bool true), .v (.bool true), .v (.bool true), .v (.bool true), .v (.bool false), .v (.bool false), .v (.bool true), .v (.bool true), .v (.bool true), .v (.bool false), .v (.bool false), .v (.bool false), .v (.bool true), .v (.bool true)])) 0 (0 + Int.toNat a * 5 + Int.toNat b * 1 + 1), okl Kd.b (List.getD [.v (.bool true), .v (.bool true), .v (.bool true), .v (.bool true), .v (.bool true), .v (.bool false), .v (.bool true), .v (.bool true), .v (.bool true), .v (.bool true), .v (.bool false), .v (.bool true), .v (.bool true), .v (.bool true), .v (.bool true), .v (.bool false), .v (.bool false), .v (.bool true), .v (.bool true), .v (.bool true), .v (.bool false), .v (.bool false), .v (.bool false), .v (.bool true), .v (.bool true)] (0 + Int.toNat a * 5 + Int.toNat b * 1) nov), decide (Int.ofNat 0 ≤ b ∧ b < Int.ofNat 5), decide (Int.ofNat 0 ≤ a ∧ a < Int.ofNat 5), decide (b < Int.ofNat 5) == true, decide (a ≥ Int.ofNat 5) == false], [])) ∧ ((decide (b < Int.ofNat 5)) = false → Q (.c (.v (.bool false)), [], 1008, [decide (b < Int.ofNat 5) == false, decide (a ≥ Int.ofNat 5) == false], [])))))) :
 ∃ p r, edR Tryz.prog a b p = some r ∧ Q r :=
 two H
 (fun g1 => two g1
  (fun g2 => ⟨pD 6 4, _, by kernel_rfl, g2⟩)
  (fun g2 => ⟨pD 6 7, _, by kernel_rfl, g2⟩))
 (fun g1 => two g1
  (fun g2 => ⟨pD 6 5, _, by kernel_rfl, g2⟩)
  (fun g2 => ⟨pD 6 8, _, by kernel_rfl, g2⟩))
end Go.Proofs.YtfohlkhfnogmdaaGreatDoor
end
section
namespace Go.Proofs.YtfohlkhfnogmdaaGreatDoor
open Go.RowKit
theorem jjc2 (a b : Nat) (ha : a < 5) (hb : b < 5) : asB (List.getD (edgeL.map fun b => AC.v (.bool b)) (a * 5 + b) nov) = edgeL.getD (a * 5 + b) false ∧ okl .b (List.getD (edgeL.map fun b => AC.v (.bool b)) (a * 5 + b) nov) = true := by
 have h : a * 5 + b < 25 := by omega
 generalize a * 5 + b = k at h
 match k, h with
 | 0, _ => exact ⟨rfl, rfl⟩
 | 1, _ => exact ⟨rfl, rfl⟩
 | 2, _ => exact ⟨rfl, rfl⟩
 | 3, _ => exact ⟨rfl, rfl⟩
 | 4, _ => exact ⟨rfl, rfl⟩
 | 5, _ => exact ⟨rfl, rfl⟩
 | 6, _ => exact ⟨rfl, rfl⟩
 | 7, _ => exact ⟨rfl, rfl⟩
 | 8, _ => exact ⟨rfl, rfl⟩
 | 9, _ => exact ⟨rfl, rfl⟩
 | 10, _ => exact ⟨rfl, rfl⟩
 | 11, _ => exact ⟨rfl, rfl⟩
 | 12, _ => exact ⟨rfl, rfl⟩
 | 13, _ => exact ⟨rfl, rfl⟩
 | 14, _ => exact ⟨rfl, rfl⟩
 | 15, _ => exact ⟨rfl, rfl⟩
 | 16, _ => exact ⟨rfl, rfl⟩
 | 17, _ => exact ⟨rfl, rfl⟩
 | 18, _ => exact ⟨rfl, rfl⟩
 | 19, _ => exact ⟨rfl, rfl⟩
 | 20, _ => exact ⟨rfl, rfl⟩
 | 21, _ => exact ⟨rfl, rfl⟩
 | 22, _ => exact ⟨rfl, rfl⟩
 | 23, _ => exact ⟨rfl, rfl⟩
 | 24, _ => exact ⟨rfl, rfl⟩
 | n + 25, h => exact absurd h (by omega)
def ctEdge : CtF := ctRd (pureRd mE (by kernel_rfl)) (fun | [.c (.v (.int .u8 a)), .c (.v (.int .u8 b))] => bo (edgeF a b) | _ => bo false) (fun | [.c (.v (.int .u8 a)), .c (.v (.int .u8 b))] => decide (0 ≤ a) && decide (0 ≤ b) | _ => false)
theorem jjm4 : edgeL.map (fun b => AC.v (.bool b)) = [.v (.bool true), .v (.bool true), .v (.bool true), .v (.bool true), .v (.bool true), .v (.bool false), .v (.bool true), .v (.bool true), .v (.bool true), .v (.bool true), .v (.bool false), .v (.bool true), .v (.bool true), .v (.bool true), .v (.bool true), .v (.bool false), .v (.bool false), .v (.bool true), .v (.bool true), .v (.bool true), .v (.bool false), .v (.bool false), .v (.bool false), .v (.bool true), .v (.bool true)] := rfl
theorem jjjv : CtOk Tryz.prog 135 ctEdge := by
 refine jj1i (E := E1 Tryz.prog) hE1 (pureRd mE (by kernel_rfl)) (fuel := 300) (str := 10000000000000000000000000000000000000000) ⟨_, _, Tryz.func135, rfl⟩ (fun s => by split <;> rfl) fun s hs => ?_
 split at hs
 · rename_i a b
   simp only [Bool.and_eq_true, decide_eq_true_eq] at hs; obtain ⟨a0, b0⟩ := hs; refine (?_ : (∃ p q, edR Tryz.prog a b p = some q ∧ GoodF (bo (edgeF a b)) q) → _) (ed a b _ ?_)
   · rintro ⟨p, q, h1, h2⟩
     exact ⟨p, _, q, h1, h2⟩
   · obtain ⟨x, rfl⟩ := Int.eq_ofNat_of_zero_le a0
     obtain ⟨y, rfl⟩ := Int.eq_ofNat_of_zero_le b0; simp only [← jjm4]; refine ⟨fun h1 => ⟨fun h2 => ?_, fun h2 => ?_⟩, fun h1 => ⟨fun h2 => ?_, fun h2 => ?_⟩⟩
     · have h1' : (5 : Int) ≤ (x : Int) := by simpa using h1
       have h2' : (y : Int) < 5 := by simpa using h2
       have e := jjc2 0 y (by omega) (by omega); simp only [Nat.zero_mul] at e; refine ⟨?_, (by first | (unfold lim; omega) | (dsimp only; unfold lim; omega)), ?_, by simp⟩
       · simp only [edgeF, Int.toNat_natCast, Nat.mul_one, e.1]
         simp [bo, h1', h2']
       · simp only [allT, List.forall_mem_cons, Int.toNat_natCast, Nat.mul_one, e.2]
         simp [jj9, h1', h2']; omega
     · have h2' : ¬ (y : Int) < 5 := by simpa using h2
       refine ⟨by simp [bo, edgeF, h2'], (by first | (unfold lim; omega) | (dsimp only; unfold lim; omega)), by simp [allT, h1, h2]; simp at h1 h2; omega, by simp⟩
     · have h1' : ¬ (5 : Int) ≤ (x : Int) := by simpa using h1
       have h2' : (y : Int) < 5 := by simpa using h2
       have e := jjc2 x y (by omega) (by omega); refine ⟨?_, (by first | (unfold lim; omega) | (dsimp only; unfold lim; omega)), ?_, by simp⟩
       · simp only [edgeF, Int.toNat_natCast, Nat.mul_one, Nat.zero_add, e.1]
         simp [bo, h1', h2']
       · simp only [allT, List.forall_mem_cons, Int.toNat_natCast, Nat.mul_one, Nat.zero_add, e.2]
         simp [jj9, h1', h2']; omega
     · have h2' : ¬ (y : Int) < 5 := by simpa using h2
       refine ⟨by simp [bo, edgeF, h2'], (by first | (unfold lim; omega) | (dsimp only; unfold lim; omega)), by simp [allT, h1, h2]; simp at h1 h2; omega, by simp⟩
 · cases hs
def mSE : AMem := mS ++ mE
def ENnx (P : Program) : Env := ⟨P, [(134, ctAsks), (135, ctEdge)]⟩
theorem hENnx : EnvOk (ENnx Tryz.prog) := by
 refine jj6q (fun f g h => ?_) (by kernel_rfl) (by kernel_rfl); simp only [ENnx, List.mem_cons, Prod.mk.injEq, List.not_mem_nil, or_false] at h; rcases h with ⟨rfl, rfl⟩ | ⟨rfl, rfl⟩
 · exact jjjx
 · exact jjjv
def nextZ (to mode : Int) : Int := if edgeF mode to = true then to else IntKind.wrap .u8 (mode - 1)
def nextR (c : Cfg) (nq : Nat) (fq : Nat → Int) (l : List AC) (_ : List AV) : AV := .c (.v (.int .u8 (nextZ (asksC c nq fq (l.take 8) (asI (l.getD 40 nov))) (asI (l.getD 41 nov)))))
def vwGE (G : AMem) (E : Env) (f : FuncId) (c : Cfg) (nq : Nat) (fq : Nat → Int) (v : Vw) (r : List AV) (path : List Dec) (lp : List (Option LSum)) : Option VF := viewF [] (fCallF E (fC E 300) f (.c (.ptr 5 0 0) :: .agg (vwL v) :: r) 1000 10000000000000000000000000000000000000000 (stA (G ++ netL c nq fq) path lp))
theorem mdNx (c : Cfg) (nq : Nat) (fq : Nat → Int) (v : Vw) (Q : VF → Prop) (H : (((edgeF (Vw.mode v) (asksC c nq fq (inL v) (Vw.command v))) = true → Q   (AV.c (AC.v (Value.int IntKind.u8 (asksC c nq fq (inL v) (Vw.command v)))), [], 1010,     [edgeF (Vw.mode v) (asksC c nq fq (inL v) (Vw.command v)) == true, true,       match [AV.c (AC.v (Value.int IntKind.u8 (Vw.mode v))), AV.c (AC.v (Value.int IntKind.u8 (asksC c nq fq (inL v) (Vw.command v))))] with       | [AV.c (AC.v (Value.int IntKind.u8 a)), AV.c (AC.v (Value.int IntKind.u8 b))] => decide (0 ≤ a) && decide (0 ≤ b)       | x => false,       true, true, netK c nq fq, true, true, true, true, true, true, true, true, true, true, true, true, true, true, true, true, true, true, true, true, true, true, true, true, true, true, true, true, true, true, true, true, true, true, true, true, true, true, true, true, true, true, true, true],     [])) ∧ ((edgeF (Vw.mode v) (asksC c nq fq (inL v) (Vw.command v))) = false → Q   (AV.c (AC.v (Value.int IntKind.u8 (IntKind.wrap IntKind.u8 (Vw.mode v - Int.ofNat 1)))), [], 1012,     [true, true, edgeF (Vw.mode v) (asksC c nq fq (inL v) (Vw.command v)) == false, true,       match [AV.c (AC.v (Value.int IntKind.u8 (Vw.mode v))), AV.c (AC.v (Value.int IntKind.u8 (asksC c nq fq (inL v) (Vw.command v))))] with       | [AV.c (AC.v (Value.int IntKind.u8 a)), AV.c (AC.v (Value.int IntKind.u8 b))] => decide (0 ≤ a) && decide (0 ≤ b)       | x => false,       true, true, netK c nq fq, true, true, true, true, true, true, true, true, true, true, true, true, true, true, true, true, true, true, true, true, true, true, true, true, true, true, true, true, true, true, true, true, true, true, true, true, true, true, true, true, true, true, true, true],     [])))) :
 ∃ p r, vwGE mSE (ENnx Tryz.prog) 76 c nq fq v [] p [] = some r ∧ Q r :=
 two H
 (fun g1 => ⟨pD 1 1, _, by kernel_rfl, g1⟩)
 (fun g1 => ⟨pD 1 2, _, by kernel_rfl, g1⟩)
end Go.Proofs.YtfohlkhfnogmdaaGreatDoor
end
section
namespace Go.Proofs.YtfohlkhfnogmdaaGreatDoor
open Go.RowKit
def ctNext : CtF := ctRd (netRdG mSE (by kernel_rfl)) (rV nextR) (pV fun l r => r.isEmpty && decide (0 ≤ asI (l.getD 41 nov)))
theorem jj9n (i a : Nat) (c : Int) : 1 ≤ asksZ i a c ∧ asksZ i a c ≤ 4 := by
 unfold asksZ
 repeat' split
 all_goals omega
theorem jjdw (c : Cfg) (nq : Nat) (fq : Nat → Int) (l : List AC) (cmd : Int) : 1 ≤ asksC c nq fq l cmd ∧ asksC c nq fq l cmd ≤ 4 := jj9n _ _ _
theorem jjc7 : CtOk Tryz.prog 76 ctNext := by
 refine jjc8 (G := mSE) (by kernel_rfl) (E := ENnx Tryz.prog) hENnx ⟨_, _, Tryz.func76, rfl⟩ (fun _ _ _ _ _ => rfl) fun c nq fq v r hr => ?_
 simp only [Bool.and_eq_true, decide_eq_true_eq] at hr; obtain ⟨hr, h0⟩ := hr; have h0 : 0 ≤ v.mode := h0; obtain rfl := List.isEmpty_iff.1 hr; refine (?_ : (∃ p q, vwGE mSE (ENnx Tryz.prog) 76 c nq fq v [] p [] = some q ∧ GoodF (nextR c nq fq (vwL v) []) q) → _) (mdNx c nq fq v _ ?_)
 · rintro ⟨p, q, h1, h2⟩
   exact ⟨p, _, q, h1, h2⟩
 · have hr : nextR c nq fq (vwL v) [] = .c (.v (.int .u8 (nextZ (asksC c nq fq (inL v) v.command) v.mode))) := rfl
   have ha := jjdw c nq fq (inL v) v.command; rw [hr]; generalize asksC c nq fq (inL v) v.command = a at *
   (repeat' (first | refine ⟨fun h => ?_, fun h => ?_⟩ | fail))
   all_goals (refine ⟨?_, (by first | (unfold lim; omega) | (dsimp only; unfold lim; omega)), ?_, by simp⟩)
   · simp [nextZ, h]
   · simp [allT, jjn, jju, jj1, jj3, jj7, jjg, h, h0]; omega
   · simp [nextZ, h]
   · simp [allT, jjn, jju, jj1, jj3, jj7, jjg, h, h0]; omega
end Go.Proofs.YtfohlkhfnogmdaaGreatDoor
end
section
namespace Go.Proofs.YtfohlkhfnogmdaaGreatDoor
open Go.RowKit
theorem jjc3 {a b : Int} (h0 : 0 ≤ a) (h1 : 0 ≤ b) : edgeF a b = (decide (b ≤ 4) && (decide (a = 0) || (decide (4 < a) || (decide (a ≤ b) || (decide (b = a - 1) && decide (b ≠ 0)))))) := by
 obtain ⟨x, rfl⟩ := Int.eq_ofNat_of_zero_le h0; obtain ⟨y, rfl⟩ := Int.eq_ofNat_of_zero_le h1; by_cases hy : y ≤ 4
 · have hb : y = 0 ∨ y = 1 ∨ y = 2 ∨ y = 3 ∨ y = 4 := by omega
   by_cases hx : x ≤ 4
   · have ha : x = 0 ∨ x = 1 ∨ x = 2 ∨ x = 3 ∨ x = 4 := by omega
     rcases ha with rfl | rfl | rfl | rfl | rfl <;> rcases hb with rfl | rfl | rfl | rfl | rfl <;> decide
   · have h5 : (5 : Int) ≤ (x : Int) := by omega
     have h4 : (4 : Int) < (x : Int) := by omega
     unfold edgeF; rw [if_pos h5]; rcases hb with rfl | rfl | rfl | rfl | rfl <;> simp [h4]
 · have : ¬ (y : Int) < 5 := by omega
   have h' : ¬ (y : Int) ≤ 4 := by omega
   simp [edgeF, this, h']
def refE (P : Program) (a b : Int) (path : List Dec) : Option VF := viewF [] (fCallF (E1 P) (fC (E1 P) 300) 142 [.c (.v (.int .u8 a)), .c (.v (.int .u8 b))] 1000 10000000000000000000000000000000000000000 (stA [] path []))
theorem rfed (a b : Int) (Q : VF → Prop) (H : let zq0 : List Bool := [decide (b > Int.ofNat 4) == false]; let zq1 : List Bool := ((a == Int.ofNat 0) == false) :: zq0; let zq2 : List Bool := (decide (a > Int.ofNat 4) == false) :: zq1; let zq3 : List Bool := (decide (b ≥ a) == false) :: zq2; (((decide (b > Int.ofNat 4)) = true → Q (.c (.v (.bool false)), [], 1004, [decide (b > Int.ofNat 4) == true], [])) ∧ ((decide (b > Int.ofNat 4)) = false → (((a == Int.ofNat 0) = true → Q (.c (.v (.bool true)), [], 1008, (((a == Int.ofNat 0) == true) :: zq0), [])) ∧ ((a == Int.ofNat 0) = false → (((decide (a > Int.ofNat 4)) = true → Q (.c (.v (.bool true)), [], 1010, ((decide (a > Int.ofNat 4) == true) :: zq1), [])) ∧ ((decide (a > Int.ofNat 4)) = false → (((decide (b ≥ a)) = true → Q (.c (.v (.bool true)), [], 1015, ((decide (b ≥ a) == true) :: zq2), [])) ∧ ((decide (b ≥ a)) = false → (((b == IntKind.wrap .u8 (a - Int.ofNat 1)) = true → Q (.c (.v (.bool (b != Int.ofNat 0))), [], 1023, (((b == IntKind.wrap .u8 (a - Int.ofNat 1)) == true) :: zq3), [])) ∧ ((b == IntKind.wrap .u8 (a - Int.ofNat 1)) = false → Q (.c (.v (.bool false)), [], 1021, (((b == IntKind.wrap .u8 (a - Int.ofNat 1)) == false) :: zq3), [])))))))))))) :
 ∃ p r, refE Tryz.prog a b p = some r ∧ Q r :=
 two H
 (fun g1 => ⟨pD 1 1, _, by kernel_rfl, g1⟩)
 (fun g1 => two g1
  (fun g2 => ⟨pD 4 5, _, by kernel_rfl, g2⟩)
  (fun g2 => two g2
   (fun g3 => ⟨pD 4 35, _, by kernel_rfl, g3⟩)
   (fun g3 => two g3
    (fun g4 => ⟨pD 10 143, _, by kernel_rfl, g4⟩)
    (fun g4 => two g4
     (fun g5 => ⟨pD 12 19907, _, by kernel_rfl, g5⟩)
     (fun g5 => ⟨pD 12 39590, _, by kernel_rfl, g5⟩)))))
abbrev raV (v : Vw) (k : Nat) : List AV := [.c (.ptr 1000 0 0), .c (.ptr 1001 0 0), i64 (Int.ofNat (cntF v.inn k)), i64 (Int.ofNat k)]
def raR (P : Program) (c : Cfg) (v : Vw) (k : Nat) (path : List Dec) : Option VC :=
 view ([2, 3, 5, 6] ++ []) [1000, 1001] (fC (E1 P) 100 (loopAt P 141 0) 1000000000000000000000000000000000000000000 10000000000000000000000000000000000000000 (stH 34 [2, 3, 5, 6] [1000, 1001] (raV v k) [cfgB c, vwB v] path []))
theorem ra (c : Cfg) (v : Vw) (k : Nat) (Q : VC → Prop) (H : let zq0 : List Bool := [true]; let zq1 : List Bool := (ABlk.inb (ABlk.mk true false 59 0 (Cs.lit (vwL v))) 0 (0 + Int.toNat (Int.ofNat k) * 1 + 1)) :: (okl Kd.b (List.getD (vwL v) (0 + Int.toNat (Int.ofNat k) * 1) nov)) :: (decide (Int.ofNat 0 ≤ Int.ofNat k ∧ Int.ofNat k < Int.ofNat 8)) :: (decide (Int.ofNat k < ↑(c.np)) == true) :: zq0; (((decide (Int.ofNat k < ↑(c.np))) = true → (((asB (List.getD (vwL v) (0 + Int.toNat (Int.ofNat k) * 1) nov)) = true → Q (Exit.normal, [some (lkA (List.zip [2, 3, 5, 6] (raV v k)) (0 + 1 + 1)), some (lkA (List.zip [2, 3, 5, 6] (raV v k)) (0 + 1 + 1 + 1)), some (.c (.v (.int .i64 (IntKind.wrap .i64 (Int.ofNat (cntF (Vw.inn v) k) + Int.ofNat 1))))), some (.c (.v (.int .i64 (IntKind.wrap .i64 (Int.ofNat k + Int.ofNat 1)))))], [some (ABlk.mk true false 25 0 (Cs.lit [.v (.int .i64 (c.nodes)), AC.sl 0 0 0 (c.np) none, AC.sl 1 0 0 (c.ns) none, .v (.int .i64 (c.long)), AC.sl 2 0 0 (c.nb) none, AC.sl 3 0 0 (c.nt) none, .v (.int .i64 (c.miss)), .v (.int .i64 (c.good)), .v (.int .i64 (c.fresh))])), some (ABlk.mk true false 59 0 (Cs.lit (vwL v)))], 34, 1000000000000000000000000000000000000000015, ((asB (List.getD (vwL v) (0 + Int.toNat (Int.ofNat k) * 1) nov) == true) :: zq1), [])) ∧ ((asB (List.getD (vwL v) (0 + Int.toNat (Int.ofNat k) * 1) nov)) = false → Q (Exit.normal, [some (lkA (List.zip [2, 3, 5, 6] (raV v k)) (0 + 1 + 1)), some (lkA (List.zip [2, 3, 5, 6] (raV v k)) (0 + 1 + 1 + 1)), some (lkA (List.zip [2, 3, 5, 6] (raV v k)) (0 + 1 + 1 + 1 + 1 + 1)), some (.c (.v (.int .i64 (IntKind.wrap .i64 (Int.ofNat k + Int.ofNat 1)))))], [some (ABlk.mk true false 25 0 (Cs.lit [.v (.int .i64 (c.nodes)), AC.sl 0 0 0 (c.np) none, AC.sl 1 0 0 (c.ns) none, .v (.int .i64 (c.long)), AC.sl 2 0 0 (c.nb) none, AC.sl 3 0 0 (c.nt) none, .v (.int .i64 (c.miss)), .v (.int .i64 (c.good)), .v (.int .i64 (c.fresh))])), some (ABlk.mk true false 59 0 (Cs.lit (vwL v)))], 34, 1000000000000000000000000000000000000000012, ((asB (List.getD (vwL v) (0 + Int.toNat (Int.ofNat k) * 1) nov) == false) :: zq1), [])))) ∧ ((decide (Int.ofNat k < ↑(c.np))) = false → Q (Exit.exit 0, [some (lkA (List.zip [2, 3, 5, 6] (raV v k)) (0 + 1 + 1)), some (lkA (List.zip [2, 3, 5, 6] (raV v k)) (0 + 1 + 1 + 1)), some (lkA (List.zip [2, 3, 5, 6] (raV v k)) (0 + 1 + 1 + 1 + 1 + 1)), some (lkA (List.zip [2, 3, 5, 6] (raV v k)) (0 + 1 + 1 + 1 + 1 + 1 + 1))], [some (ABlk.mk true false 25 0 (Cs.lit [.v (.int .i64 (c.nodes)), AC.sl 0 0 0 (c.np) none, AC.sl 1 0 0 (c.ns) none, .v (.int .i64 (c.long)), AC.sl 2 0 0 (c.nb) none, AC.sl 3 0 0 (c.nt) none, .v (.int .i64 (c.miss)), .v (.int .i64 (c.good)), .v (.int .i64 (c.fresh))])), some (ABlk.mk true false 59 0 (Cs.lit (vwL v)))], 34, 1000000000000000000000000000000000000000005, ((decide (Int.ofNat k < ↑(c.np)) == false) :: zq0), [])))) :
 ∃ p r, raR Tryz.prog c v k p = some r ∧ Q r :=
 two H
 (fun g1 => two g1
  (fun g2 => ⟨pD 2 4, _, by kernel_rfl, g2⟩)
  (fun g2 => ⟨pD 2 7, _, by kernel_rfl, g2⟩))
 (fun g1 => ⟨pD 1 2, _, by kernel_rfl, g1⟩)
theorem raF (c : Cfg) (v : Vw) (Q : VF → Prop) (H : let zq0 : List Bool := [true, true]; let zq1 : List Bool := (decide (Vw.command v < Int.ofNat 0) == false) :: zq0; let zq2 : List Bool := true :: ((Int.ofNat (cntF (Vw.inn v) (c.np)) == Int.ofNat 0) == false) :: zq1; let zq3 : List Bool := ((Int.ofNat (cntF (Vw.inn v) (c.np)) == ↑(c.np)) == false) :: zq2; (((decide (Vw.command v < Int.ofNat 0)) = true → Q (.c (.v (.int .i64 (Int.ofNat 4))), [], 100000000000000000000000000000000000000000000000006, ((decide (Vw.command v < Int.ofNat 0) == true) :: zq0), [LoopV Tryz.prog (loopAt Tryz.prog 141 0) [2, 3, 5, 6] [1000, 1001] [some (.c (.ptr 1000 0 0)), some (.c (.ptr 1001 0 0)), some (.c (.v (.int .i64 (Int.ofNat 0)))), some (.c (.v (.int .i64 (Int.ofNat 0))))] [some (ABlk.mk true false 25 0 (Cs.lit [.v (.int .i64 (c.nodes)), AC.sl 0 0 0 (c.np) none, AC.sl 1 0 0 (c.ns) none, .v (.int .i64 (c.long)), AC.sl 2 0 0 (c.nb) none, AC.sl 3 0 0 (c.nt) none, .v (.int .i64 (c.miss)), .v (.int .i64 (c.good)), .v (.int .i64 (c.fresh))])), some (ABlk.mk true false 59 0 (Cs.lit (vwL v)))] 34 1005 (mkFr 34 [(2, .c (.ptr 1000 0 0)), (3, .c (.ptr 1001 0 0)), (5, i64 (Int.ofNat (cntF (Vw.inn v) (c.np))))]) [(1000, cfgB c), (1001, vwB v)] 100000000000000000000000000000000000000000000000000 (Exit.exit 0) none])) ∧ ((decide (Vw.command v < Int.ofNat 0)) = false → (((Int.ofNat (cntF (Vw.inn v) (c.np)) == Int.ofNat 0) = true → Q (.c (.v (.int .i64 (Int.ofNat 4))), [], 100000000000000000000000000000000000000000000000008, (((Int.ofNat (cntF (Vw.inn v) (c.np)) == Int.ofNat 0) == true) :: zq1), [LoopV Tryz.prog (loopAt Tryz.prog 141 0) [2, 3, 5, 6] [1000, 1001] [some (.c (.ptr 1000 0 0)), some (.c (.ptr 1001 0 0)), some (.c (.v (.int .i64 (Int.ofNat 0)))), some (.c (.v (.int .i64 (Int.ofNat 0))))] [some (ABlk.mk true false 25 0 (Cs.lit [.v (.int .i64 (c.nodes)), AC.sl 0 0 0 (c.np) none, AC.sl 1 0 0 (c.ns) none, .v (.int .i64 (c.long)), AC.sl 2 0 0 (c.nb) none, AC.sl 3 0 0 (c.nt) none, .v (.int .i64 (c.miss)), .v (.int .i64 (c.good)), .v (.int .i64 (c.fresh))])), some (ABlk.mk true false 59 0 (Cs.lit (vwL v)))] 34 1005 (mkFr 34 [(2, .c (.ptr 1000 0 0)), (3, .c (.ptr 1001 0 0)), (5, i64 (Int.ofNat (cntF (Vw.inn v) (c.np))))]) [(1000, cfgB c), (1001, vwB v)] 100000000000000000000000000000000000000000000000000 (Exit.exit 0) none])) ∧ ((Int.ofNat (cntF (Vw.inn v) (c.np)) == Int.ofNat 0) = false → (((Int.ofNat (cntF (Vw.inn v) (c.np)) == ↑(c.np)) = true → Q (.c (.v (.int .i64 (Int.ofNat 1))), [], 100000000000000000000000000000000000000000000000013, (((Int.ofNat (cntF (Vw.inn v) (c.np)) == ↑(c.np)) == true) :: zq2), [LoopV Tryz.prog (loopAt Tryz.prog 141 0) [2, 3, 5, 6] [1000, 1001] [some (.c (.ptr 1000 0 0)), some (.c (.ptr 1001 0 0)), some (.c (.v (.int .i64 (Int.ofNat 0)))), some (.c (.v (.int .i64 (Int.ofNat 0))))] [some (ABlk.mk true false 25 0 (Cs.lit [.v (.int .i64 (c.nodes)), AC.sl 0 0 0 (c.np) none, AC.sl 1 0 0 (c.ns) none, .v (.int .i64 (c.long)), AC.sl 2 0 0 (c.nb) none, AC.sl 3 0 0 (c.nt) none, .v (.int .i64 (c.miss)), .v (.int .i64 (c.good)), .v (.int .i64 (c.fresh))])), some (ABlk.mk true false 59 0 (Cs.lit (vwL v)))] 34 1005 (mkFr 34 [(2, .c (.ptr 1000 0 0)), (3, .c (.ptr 1001 0 0)), (5, i64 (Int.ofNat (cntF (Vw.inn v) (c.np))))]) [(1000, cfgB c), (1001, vwB v)] 100000000000000000000000000000000000000000000000000 (Exit.exit 0) none])) ∧ ((Int.ofNat (cntF (Vw.inn v) (c.np)) == ↑(c.np)) = false → (((Int.ofNat (cntF (Vw.inn v) (c.np)) == Int.ofNat 1) = true → Q (.c (.v (.int .i64 (Int.ofNat 3))), [], 100000000000000000000000000000000000000000000000015, (((Int.ofNat (cntF (Vw.inn v) (c.np)) == Int.ofNat 1) == true) :: zq3), [LoopV Tryz.prog (loopAt Tryz.prog 141 0) [2, 3, 5, 6] [1000, 1001] [some (.c (.ptr 1000 0 0)), some (.c (.ptr 1001 0 0)), some (.c (.v (.int .i64 (Int.ofNat 0)))), some (.c (.v (.int .i64 (Int.ofNat 0))))] [some (ABlk.mk true false 25 0 (Cs.lit [.v (.int .i64 (c.nodes)), AC.sl 0 0 0 (c.np) none, AC.sl 1 0 0 (c.ns) none, .v (.int .i64 (c.long)), AC.sl 2 0 0 (c.nb) none, AC.sl 3 0 0 (c.nt) none, .v (.int .i64 (c.miss)), .v (.int .i64 (c.good)), .v (.int .i64 (c.fresh))])), some (ABlk.mk true false 59 0 (Cs.lit (vwL v)))] 34 1005 (mkFr 34 [(2, .c (.ptr 1000 0 0)), (3, .c (.ptr 1001 0 0)), (5, i64 (Int.ofNat (cntF (Vw.inn v) (c.np))))]) [(1000, cfgB c), (1001, vwB v)] 100000000000000000000000000000000000000000000000000 (Exit.exit 0) none])) ∧ ((Int.ofNat (cntF (Vw.inn v) (c.np)) == Int.ofNat 1) = false → Q (.c (.v (.int .i64 (Int.ofNat 2))), [], 100000000000000000000000000000000000000000000000015, (((Int.ofNat (cntF (Vw.inn v) (c.np)) == Int.ofNat 1) == false) :: zq3), [LoopV Tryz.prog (loopAt Tryz.prog 141 0) [2, 3, 5, 6] [1000, 1001] [some (.c (.ptr 1000 0 0)), some (.c (.ptr 1001 0 0)), some (.c (.v (.int .i64 (Int.ofNat 0)))), some (.c (.v (.int .i64 (Int.ofNat 0))))] [some (ABlk.mk true false 25 0 (Cs.lit [.v (.int .i64 (c.nodes)), AC.sl 0 0 0 (c.np) none, AC.sl 1 0 0 (c.ns) none, .v (.int .i64 (c.long)), AC.sl 2 0 0 (c.nb) none, AC.sl 3 0 0 (c.nt) none, .v (.int .i64 (c.miss)), .v (.int .i64 (c.good)), .v (.int .i64 (c.fresh))])), some (ABlk.mk true false 59 0 (Cs.lit (vwL v)))] 34 1005 (mkFr 34 [(2, .c (.ptr 1000 0 0)), (3, .c (.ptr 1001 0 0)), (5, i64 (Int.ofNat (cntF (Vw.inn v) (c.np))))]) [(1000, cfgB c), (1001, vwB v)] 100000000000000000000000000000000000000000000000000 (Exit.exit 0) none])))))))))) :
 ∃ p r, viewF [] (fCallF (E1 Tryz.prog) (fC (E1 Tryz.prog) 300) 141 [.agg (cfgC c), .agg (vwL v)] 1000 10000000000000000000000000000000000000000 (stA (cfgM c) p [some ⟨[2, 3, 5, 6], [1000, 1001], mkFr 34 [(2, .c (.ptr 1000 0 0)), (3, .c (.ptr 1001 0 0)), (5, i64 (Int.ofNat (cntF v.inn c.np)))], [(1000, cfgB c), (1001, vwB v)], 100000000000000000000000000000000000000000000000000, .exit 0⟩])) = some r ∧ Q r :=
 two H
 (fun g1 => ⟨pD 3 1, _, by kernel_rfl, g1⟩)
 (fun g1 => two g1
  (fun g2 => ⟨pD 3 11, _, by kernel_rfl, g2⟩)
  (fun g2 => two g2
   (fun g3 => ⟨pD 4 47, _, by kernel_rfl, g3⟩)
   (fun g3 => two g3
    (fun g4 => ⟨pD 5 155, _, by kernel_rfl, g4⟩)
    (fun g4 => ⟨pD 5 236, _, by kernel_rfl, g4⟩))))
end Go.Proofs.YtfohlkhfnogmdaaGreatDoor
end
section
namespace Go.Proofs.YtfohlkhfnogmdaaGreatDoor
open Go.RowKit
def refN (n : Nat) (l : List AC) : Nat := cntF (fun p => asB (l.getD p nov)) n
theorem jji7 (v : Vw) {n : Nat} (h : n ≤ 8) : refN n (inL v) = cntF v.inn n :=
 jj1a fun i hi => by
  match i, show i < 8 by omega with
  | 0, _ => rfl
  | 1, _ => rfl
  | 2, _ => rfl
  | 3, _ => rfl
  | 4, _ => rfl
  | 5, _ => rfl
  | 6, _ => rfl
  | 7, _ => rfl
def refAs (n : Nat) (l : List AC) (cmd : Int) : Int := asksZ (refN n l) n cmd
end Go.Proofs.YtfohlkhfnogmdaaGreatDoor
end
section
namespace Go.Proofs.YtfohlkhfnogmdaaGreatDoor
open Go.RowKit
theorem jjhq {z : Int} (h0 : 0 ≤ z) (h1 : z ≤ 255) : IntKind.wrap .u8 z = z := by
 simp only [IntKind.wrap, IntKind.bits, IntKind.signed]
 first | omega | (simp; omega)
def ctREdge : CtF := ctRd (pureRd [] rfl) (fun | [.c (.v (.int .u8 a)), .c (.v (.int .u8 b))] => bo (edgeF a b) | _ => bo false) (fun | [.c (.v (.int .u8 a)), .c (.v (.int .u8 b))] => decide (0 ≤ a) && (decide (a ≤ 255) && decide (0 ≤ b)) | _ => false)
theorem jjh2 : CtOk Tryz.prog 142 ctREdge := by
 refine jj1i (E := E1 Tryz.prog) hE1 (pureRd [] rfl) (fuel := 300) (str := 10000000000000000000000000000000000000000) ⟨_, _, Tryz.func142, rfl⟩ (fun s => by split <;> rfl) fun s hs => ?_
 split at hs
 · rename_i a b
   simp only [Bool.and_eq_true, decide_eq_true_eq] at hs; obtain ⟨a0, a1, b0⟩ := hs; refine (?_ : (∃ p q, refE Tryz.prog a b p = some q ∧ GoodF (bo (edgeF a b)) q) → _) (rfed a b _ ?_)
   · rintro ⟨p, q, h1, h2⟩
     exact ⟨p, _, q, h1, h2⟩
   · rw [jjc3 a0 b0]
     have hw : a ≠ 0 → IntKind.wrap IntKind.u8 (a - Int.ofNat 1) = a - 1 := fun h => by rw [show a - Int.ofNat 1 = a - 1 by simp]; exact jjhq (by omega) (by omega)
     (repeat' (first | refine ⟨fun h => ?_, fun h => ?_⟩ | fail))
     all_goals (refine ⟨?_, (by first | (unfold lim; omega) | (dsimp only; unfold lim; omega)), ?_, by simp⟩)
     all_goals (first | (simp_all [bo]; done) | (simp_all [bo]; omega) | (simp_all [allT]; done) | (simp_all [allT]; omega) | skip)
     all_goals (simp_all [bo])
     all_goals (by_cases h1 : a - 1 = 0 <;> simp [h1, show ¬ 4 < a by omega, show ¬ a ≤ a - 1 by omega])
     all_goals omega
 · cases hs
theorem jjlf (c : Cfg) (v : Vw) (hp : c.np ≤ 8) :
 LoopV Tryz.prog (loopAt Tryz.prog 141 0) [2, 3, 5, 6] [1000, 1001] ((raV v 0).map some) [some (cfgB c), some (vwB v)] 34 1005 (mkFr 34 [(2, .c (.ptr 1000 0 0)), (3, .c (.ptr 1001 0 0)), (5, i64 (Int.ofNat (cntF v.inn c.np)))]) [(1000, cfgB c), (1001, vwB v)] 100000000000000000000000000000000000000000000000000 (.exit 0) none := by
 refine jj97 hE1 (fuel := 100) (str := 10000000000000000000000000000000000000000) (nh := 1000000000000000000000000000000000000000000) (S := Nat) (fun k => k ≤ c.np) (fun k => c.np - k) [2, 3, 5, 6] [] [1000, 1001] (raV v) (fun _ => [cfgB c, vwB v]) (by decide) (by decide) (by unfold lim; omega) (s0 := 0) (by omega) (fun _ => ⟨rfl, rfl⟩) (by kernel_rfl) (fun k _ => ⟨rfl, ?_⟩) ?_
 · intro b hb
   simp only [List.mem_cons, List.not_mem_nil, or_false] at hb; rcases hb with rfl | rfl
   · exact jj1b (by omega)
   · exact jj1m
 intro k hk; refine (?_ : (∃ p r, raR Tryz.prog c v k p = some r ∧ _) → _) (ra c v k (StepV 1005 100000000000000000000000000000000000000000000000000 34 [2, 3, 5, 6] [] [1000, 1001] (fun k => k ≤ c.np) (fun k => c.np - k) (raV v) (fun _ => [cfgB c, vwB v]) (.exit 0) [(2, .c (.ptr 1000 0 0)), (3, .c (.ptr 1001 0 0)), (5, i64 (Int.ofNat (cntF v.inn c.np)))] [(1000, cfgB c), (1001, vwB v)] k) ?_)
 · rintro ⟨p, r, h1, h2⟩
   exact ⟨p, [], r, h1, h2⟩
 · have hi := jj4p v.inn k
   have nx : ∀ {i : Nat}, i = cntF v.inn (k + 1) → [some (.c (.ptr 1000 0 0)), some (.c (.ptr 1001 0 0)), some (i64 (Int.ofNat i)), some (i64 (Int.ofNat (k + 1)))] = (raV v (k + 1)).map some := by
    rintro _ rfl; rfl
   refine ⟨fun c1 => ⟨fun c3 => ?_, fun c3 => ?_⟩, fun c1 => ?_⟩
   · have hlt : k < c.np := by simp at c1; omega
     rw [jj46 v k (by omega)] at c3; refine ⟨?_, rfl, by dsimp only; omega, rfl, .inl ⟨rfl, k + 1, by omega, by show c.np - (k + 1) < c.np - k; omega, ?_, by exact BL.refl [cfgB c, vwB v]⟩⟩
     · simp only [allT, List.forall_mem_cons, jj46 v k (show k < 8 by omega), jj4g v k (show k < 8 by omega)]
       simp [hlt, c3, jj9, jj5, Vw.len]; omega
     · rw [jj1n k (by omega), jj1n _ (by omega)]
       exact nx (i := cntF v.inn k + 1) (by rw [jj1p, c3]; rfl)
   · have hlt : k < c.np := by simp at c1; omega
     rw [jj46 v k (by omega)] at c3; refine ⟨?_, rfl, by dsimp only; omega, rfl, .inl ⟨rfl, k + 1, by omega, by show c.np - (k + 1) < c.np - k; omega, ?_, by exact BL.refl [cfgB c, vwB v]⟩⟩
     · simp only [allT, List.forall_mem_cons, jj46 v k (show k < 8 by omega), jj4g v k (show k < 8 by omega)]
       simp [hlt, c3, jj9, jj5, Vw.len]; omega
     · rw [jj1n k (by omega)]
       exact nx (i := cntF v.inn k) (by rw [jj1p, c3]; rfl)
   · have hge : k = c.np := by simp at c1; omega
     subst hge; refine ⟨by simp [allT], rfl, by dsimp only; omega, rfl, .inr ⟨by simp, rfl, fun q hq => ?_, fun p hpp => ?_⟩⟩
     · simp only [List.mem_cons, List.not_mem_nil, or_false] at hq
       rcases hq with rfl | rfl | rfl
       · exact ⟨rfl, by simp [lkA]⟩
       · exact ⟨rfl, by simp [lkA]⟩
       · exact ⟨rfl, by simp [lkA]⟩
     · simp only [List.mem_cons, List.not_mem_nil, or_false] at hpp
       rcases hpp with rfl | rfl
       · exact ⟨by kernel_rfl, jj1b (by omega), cfgB c, List.mem_cons_self .., BEq.refl _⟩
       · exact ⟨by kernel_rfl, jj1m, vwB v, List.mem_cons_of_mem _ (List.mem_cons_self ..), BEq.refl _⟩
def ctRAsks : CtF := ctRd cfgRd (fun | ⟨c, [.agg l]⟩ => i64 (refAs c.np (l.take 8) (asI (l.getD 40 nov))) | _ => i64 0) (fun | ⟨c, [.agg l]⟩ => isVw l && decide (c.np ≤ 8) | _ => false)
theorem jjh3 : CtOk Tryz.prog 141 ctRAsks := by
 refine jj1i (E := E1 Tryz.prog) hE1 cfgRd (fuel := 300) (str := 10000000000000000000000000000000000000000) ⟨_, _, Tryz.func141, rfl⟩ (fun s => by split <;> rfl) fun s hs => ?_
 split at hs
 · rename_i c l
   simp only [Bool.and_eq_true, decide_eq_true_eq] at hs; obtain ⟨hl, hp⟩ := hs; have e := jjcv hl; generalize vwOf l = v at e; subst e; refine (?_ : (∃ p q, viewF [] (fCallF (E1 Tryz.prog) (fC (E1 Tryz.prog) 300) 141 [.agg (cfgC c), .agg (vwL v)] 1000 10000000000000000000000000000000000000000 (stA (cfgM c) p [some ⟨[2, 3, 5, 6], [1000, 1001], mkFr 34 [(2, .c (.ptr 1000 0 0)), (3, .c (.ptr 1001 0 0)), (5, i64 (Int.ofNat (cntF v.inn c.np)))], [(1000, cfgB c), (1001, vwB v)], 100000000000000000000000000000000000000000000000000, .exit 0⟩])) = some q ∧ GoodF (i64 (asksZ (refN c.np (inL v)) c.np v.command)) q) → _) (raF c v _ ?_)
   · rintro ⟨p, q, h1, h2⟩
     exact ⟨p, _, q, h1, h2⟩
   · rw [jji7 v hp]
     have hi := jj4p v.inn c.np; generalize hi' : cntF v.inn c.np = i at hi ⊢
     (repeat' (first | refine ⟨fun h => ?_, fun h => ?_⟩ | fail))
     all_goals (refine ⟨?_, (by first | (unfold lim; omega) | (dsimp only; unfold lim; omega)), ?_, fun q hq => ?_⟩)
     all_goals (first
      | (rw [List.mem_singleton.1 hq, ← hi']; exact jjlf c v hp)
      | (simp_all [asksZ, i64]; done) | (simp_all [asksZ, i64]; omega) | (simp_all [allT, jjn, jju, jj1, jj3, jj7, jjg, jj9, jj5, Vw.len]; done) | (simp_all [allT, jjn, jju, jj1, jj3, jj7, jjg, jj9, jj5, Vw.len]; omega))
 · cases hs
end Go.Proofs.YtfohlkhfnogmdaaGreatDoor
end
section
namespace Go.Proofs.YtfohlkhfnogmdaaGreatDoor
open Go.RowKit
theorem jjlr (c : Cfg) (nq : Nat) (fq : Nat → Int) (Q : VF → Prop) (H : (((!decide (↑nq > Int.ofNat 0)) = true → Q (.c (.v (.int .i64 (Int.ofNat 0))), [], 1016, [(!decide (↑nq > Int.ofNat 0)) == true, true], [])) ∧ ((!decide (↑nq > Int.ofNat 0)) = false → Q (.c (.v (.int .i64 (IntKind.wrap .i64 (↑(c.ns) * c.long)))), [], 130000000000000000000000000000000000001015, [true, true, true, (!decide (↑nq > Int.ofNat 0)) == false, true], [])))) :
 ∃ p r, netR Tryz.prog 12 c nq fq [] p = some r ∧ Q r :=
 two H
 (fun g1 => ⟨pD 7 729, _, by kernel_rfl, g1⟩)
 (fun g1 => ⟨pD 7 1458, _, by kernel_rfl, g1⟩)
end Go.Proofs.YtfohlkhfnogmdaaGreatDoor
end
section
namespace Go.Proofs.YtfohlkhfnogmdaaGreatDoor
open Go.RowKit
theorem jjc6 : CtOk Tryz.prog 12 (ctNet (fun c nq _ _ => i64 (roundN c nq)) fun c nq fq zs => true && decide (zs.length = 0)) := by
 refine jjc9 ⟨_, _, Tryz.func12, rfl⟩ (fun c nq fq zs => jj11 _) 0 fun c nq fq zs _ hz => ?_
 obtain rfl := List.length_eq_zero_iff.1 hz; refine (?_ : (∃ p r, netR Tryz.prog 12 c nq fq [] p = some r ∧ (r.1 = i64 (roundN c nq) ∧ r.2.2.1 ≤ lim ∧ allT r.2.2.2.1 ∧ ∀ q ∈ r.2.2.2.2, q)) → _) (jjlr c nq fq _ ?_)
 · rintro ⟨p, r, h1, h2⟩
   exact ⟨E1 Tryz.prog, 300, 10000000000000000000000000000000000000000, rfl, hE1, p, [], r, h1, h2⟩
 · refine ⟨fun h => ?_, fun h => ?_⟩
   · refine ⟨?_, (by first | (unfold lim; omega) | (dsimp only; unfold lim; omega)), ?_, by simp⟩
     · show i64 _ = i64 _
       simp at h; simp [roundN, h]
     · simp at h
       simp [allT, h]
   · refine ⟨?_, (by first | (unfold lim; omega) | (dsimp only; unfold lim; omega)), ?_, by simp⟩
     · show i64 _ = i64 _
       simp at h; unfold roundN; rw [if_neg (by omega)]
     · simp at h
       simp [allT]; omega
end Go.Proofs.YtfohlkhfnogmdaaGreatDoor
end
