/- Parts, one behind the other. sennitref22.Base as the evaluator runs it. -/
import Derived.Test.YtgdoojlfbebaaaaDoorJMembersBase14
import Derived.Test.YtgdoojlfbebaaaaDoorJMembersBase24
import Derived.Test.YtgdoojlfbebaaaaDoorJMembersBase15
import Derived.Test.YtgdoojlfbebaaaaDoorJMembersBase19
import Derived.Test.YtgdoojlfbebaaaaDoorJMembersBase9
set_option linter.unusedSimpArgs false
set_option linter.unusedVariables false
/- sennitref22.Base as the evaluator runs it. -/
section
namespace Go.Proofs.YtgdoojlfbebaaaaDoor
open Go.RowKit
def EBq (P : Program) : Env := ⟨P, [(49, ctRd cfgRd qfR qfP), (48, ctRd cfgRd qmR qmP), (50, ctLess)]⟩
theorem hEBq : EnvOk (EBq Tryd.prog) := by
 refine envOk (fun f g h => ?_) (by kernel_rfl) (by kernel_rfl)
 simp only [EBq, List.mem_cons, Prod.mk.injEq, List.not_mem_nil, or_false] at h
 rcases h with ⟨rfl, rfl⟩ | ⟨rfl, rfl⟩ | ⟨rfl, rfl⟩
 · exact ct_qf
 · exact ct_qm
 · exact ct_rless
abbrev bqH : List Nat := [1, 2, 4, 6]
abbrev bqI : List Nat := [gid 0, 0, 1, 2, 3, 4, 1000, 1001]
abbrev bqB (c : Cfg) (n : Nat) (f : Nat → Hq) : List ABlk := [signB, ints 3 c.np c.fp, ints 3 c.ns c.fs, ints 3 c.nb c.fb, sts c.nt c.ft, rBlk 66 56 n fun k => hqC (f k), cfgB c, vwB vz0]
abbrev bqV (n k : Nat) : List AV := [.c (.sl 4 0 0 n none), .c (.ptr 1000 0 0), .c (.ptr 1001 0 0), i64 (Int.ofNat k)]
abbrev bqO (n : Nat) : List (Nat × AV) := [(1, .c (.sl 4 0 0 n none)), (2, .c (.ptr 1000 0 0)), (4, .c (.ptr 1001 0 0))]
abbrev bqM (m : Nat) (g : Nat → Vw) : ABlk := wBlk 61 42 m fun j => (g j).cells
abbrev bqS (c : Cfg) (n : Nat) (f : Nat → Hq) (m : Nat) (g : Nat → Vw) : LSum := ⟨5 :: bqH, bqI, mkFr 94 ((5, .c (.sl 1004 0 0 m none)) :: bqO n), (1004, bqM m g) :: bqI.zip (bqB c n f), 100000000000000000000000000000000000000000000000000, .exit 0⟩
def bq0R (P : Program) (c : Cfg) (n : Nat) (f : Nat → Hq) (m : Nat) (g : Nat → Vw) (k : Nat) (path : List Dec) : Option VC :=
 view ([5] ++ [1, 2, 4, 6]) ([1004, 1000000000000000000000000000000000000000030, 1000000000000000000000000000000000000000032] ++ bqI) (fC (EBq P) 100 (loopAt P 21 0) 1000000000000000000000000000000000000000000 10000000000000000000000000000000000000000 ⟨mkFr 94 ((5, .c (.sl 1004 0 0 m none)) :: [1, 2, 4, 6].zip (bqV n k)), (1004, bqM m g) :: bqI.zip (bqB c n f), 0, 0, false, path, [], [], [], none, []⟩)
theorem bq0 (c : Cfg) (n : Nat) (f : Nat → Hq) (m : Nat) (g : Nat → Vw) (k : Nat) (Q : VC → Prop) (H : let zz0 := (ABlk.mk true false 61 0 (Cs.lit [AC.v (Value.bool false), AC.v (Value.bool false), AC.v (Value.bool false), AC.v (Value.bool false), AC.v (Value.bool false), AC.v (Value.bool false), AC.v (Value.bool false), AC.v (Value.bool false), AC.v (Value.int IntKind.u8 (Int.ofNat 0)), AC.v (Value.int IntKind.u8 (Int.ofNat 0)), AC.v (Value.int IntKind.u8 (Int.ofNat 0)), AC.v (Value.int IntKind.u8 (Int.ofNat 0)), AC.v (Value.int IntKind.u8 (Int.ofNat 0)), AC.v (Value.int IntKind.u8 (Int.ofNat 0)), AC.v (Value.int IntKind.u8 (Int.ofNat 0)), AC.v (Value.int IntKind.u8 (Int.ofNat 0)), AC.v (Value.int IntKind.u8 (Int.ofNat 0)), AC.v (Value.int IntKind.u8 (Int.ofNat 0)), AC.v (Value.int IntKind.u8 (Int.ofNat 0)), AC.v (Value.int IntKind.u8 (Int.ofNat 0)), AC.v (Value.int IntKind.u8 (Int.ofNat 0)), AC.v (Value.int IntKind.u8 (Int.ofNat 0)), AC.v (Value.int IntKind.u8 (Int.ofNat 0)), AC.v (Value.int IntKind.u8 (Int.ofNat 0)), AC.v (Value.int IntKind.u16 (Int.ofNat 0)), AC.v (Value.int IntKind.u16 (Int.ofNat 0)), AC.v (Value.int IntKind.u16 (Int.ofNat 0)), AC.v (Value.int IntKind.u16 (Int.ofNat 0)), AC.v (Value.int IntKind.u16 (Int.ofNat 0)), AC.v (Value.int IntKind.u16 (Int.ofNat 0)), AC.v (Value.int IntKind.u16 (Int.ofNat 0)), AC.v (Value.int IntKind.u16 (Int.ofNat 0)), AC.v (Value.bool false), AC.v (Value.bool false), AC.v (Value.bool false), AC.v (Value.bool false), AC.v (Value.bool false), AC.v (Value.bool false), AC.v (Value.bool false), AC.v (Value.bool false), AC.v (Value.int IntKind.i8 (Int.ofNat 0)), AC.v (Value.int IntKind.u8 (Int.ofNat 0))])); let zz6 := (ABlk.mk false false 139 0 (Cs.lit [AC.v (Value.int IntKind.i64 (Int.ofNat 1)), AC.v (Value.int IntKind.i64 (Int.negSucc 0))])); let zz8 := (ABlk.mk false false 3 1 (Cs.arr (Cfg.np c) fun k => List.map AC.v ((fun i => [Value.int IntKind.i64 (Cfg.fp c i)]) k))); let zz9 := (ABlk.mk false false 3 1 (Cs.arr (Cfg.ns c) fun k => List.map AC.v ((fun i => [Value.int IntKind.i64 (Cfg.fs c i)]) k))); let zz10 := (ABlk.mk false false 3 1 (Cs.arr (Cfg.nb c) fun k => List.map AC.v ((fun i => [Value.int IntKind.i64 (Cfg.fb c i)]) k))); let zz5 := (ABlk.mk false false 91 3 (Cs.arr (Cfg.nt c) fun k => List.map AC.v ((fun i => [Value.int IntKind.i64 (Station.node (Cfg.ft c i)), Value.int IntKind.u32 (Station.safe (Cfg.ft c i)), Value.int IntKind.i64 (Station.hold (Cfg.ft c i))]) k))); let zz4 := (ABlk.mk false false 66 56 (Cs.arr n fun k => List.map AC.v ((fun k => hqC (f k)) k))); let zz3 := (ABlk.mk true false 25 0 (Cs.lit [AC.v (Value.int IntKind.i64 (Cfg.nodes c)), AC.sl 0 0 0 (Cfg.np c) none, AC.sl 1 0 0 (Cfg.ns c) none, AC.v (Value.int IntKind.i64 (Cfg.long c)), AC.sl 2 0 0 (Cfg.nb c) none, AC.sl 3 0 0 (Cfg.nt c) none, AC.v (Value.int IntKind.i64 (Cfg.miss c)), AC.v (Value.int IntKind.i64 (Cfg.good c)), AC.v (Value.int IntKind.i64 (Cfg.fresh c))])); let zz1 := [some (ABlk.mk true true 61 42 (Cs.arr m fun k => List.map AC.v ((fun j => Vw.cells (g j)) k))), none, none, some zz6, some zz8, some zz9, some zz10, some zz5, some zz4, some zz3, some zz0]; let zz2 := ((5, AV.c (AC.sl 1004 0 0 m none)) :: List.zip [1, 2, 4, 6] (bqV n k)); let zz7 := (vwL (Hq.u (f (0 + Int.toNat (Int.ofNat k))))); let zz11 := (AV.c (AC.v (Value.int IntKind.i64 (IntKind.wrap IntKind.i64 (Int.ofNat k + Int.ofNat 1))))); let zt : List Bool → List Bool := fun l => true :: true :: true :: true :: true :: true :: true :: true :: l; let zu : List Bool → List Bool := fun l => zt (zt (zt (zt l))); let zq0 : List Bool := [true, true]; let zq1 : List Bool := (decide (Int.ofNat k < c.nodes) == true) :: zq0; let zq2 : List Bool := (ABlk.inb zz4 (0 + Int.toNat (Int.ofNat k)) 1) :: true :: (decide (Int.ofNat 0 ≤ Int.ofNat k ∧ Int.ofNat k < ↑n)) :: (decide (Int.ofNat k < ↑n) == true) :: zq1; let zq3 : List Bool := (cfgK c) :: (qmP (CfgS.mk c [AV.agg zz7])) :: (zu (zt (zt (true :: true :: ((ABlk.inb zz4 (0 + Int.toNat (Int.ofNat k)) 56) :: (zu (zt (true :: true :: ((decide (Int.ofNat 0 ≤ Int.ofNat k ∧ Int.ofNat k < ↑n)) :: ((!Hq.is (f (0 + Int.toNat (Int.ofNat k)))) == false) :: zq2))))))))); (((decide (Int.ofNat k < c.nodes)) = true → (((decide (Int.ofNat k < ↑n)) = true → (((!Hq.is (f (0 + Int.toNat (Int.ofNat k)))) = true → Q (Exit.normal, [some (lkA zz2 5), some (lkA zz2 1), some (lkA zz2 2), some (lkA zz2 4), some zz11], zz1, 94, 1000000000000000000000000000000000000000019, (((!Hq.is (f (0 + Int.toNat (Int.ofNat k)))) == true) :: zq2), [])) ∧ ((!Hq.is (f (0 + Int.toNat (Int.ofNat k)))) = false → (((!rmayB (c.np) zz7) = true → Q (Exit.normal, [some (.c (.sl 1000000000000000000000000000000000000000032 0 0 (m + 1) none)), some (lkA zz2 1), some (lkA zz2 2), some (lkA zz2 4), some zz11], [none, none, some (ABlk.mk true true 61 42 (Cs.arr (m + 1) fun i => if i < m then List.map AC.v ((fun j => Vw.cells (g j)) i) else elt (ABlk.mk true false 61 0 (Cs.lit [.v (.bool (Vw.inn (rfV (c.np)) 0)), .v (.bool (Vw.inn (rfV (c.np)) 1)), .v (.bool (Vw.inn (rfV (c.np)) 2)), .v (.bool (Vw.inn (rfV (c.np)) 3)), .v (.bool (Vw.inn (rfV (c.np)) 4)), .v (.bool (Vw.inn (rfV (c.np)) 5)), .v (.bool (Vw.inn (rfV (c.np)) 6)), .v (.bool (Vw.inn (rfV (c.np)) 7)), .v (.int .u8 (Vw.miss (rfV (c.np)) 0)), .v (.int .u8 (Vw.miss (rfV (c.np)) 1)), .v (.int .u8 (Vw.miss (rfV (c.np)) 2)), .v (.int .u8 (Vw.miss (rfV (c.np)) 3)), .v (.int .u8 (Vw.miss (rfV (c.np)) 4)), .v (.int .u8 (Vw.miss (rfV (c.np)) 5)), .v (.int .u8 (Vw.miss (rfV (c.np)) 6)), .v (.int .u8 (Vw.miss (rfV (c.np)) 7)), .v (.int .u8 (Vw.good (rfV (c.np)) 0)), .v (.int .u8 (Vw.good (rfV (c.np)) 1)), .v (.int .u8 (Vw.good (rfV (c.np)) 2)), .v (.int .u8 (Vw.good (rfV (c.np)) 3)), .v (.int .u8 (Vw.good (rfV (c.np)) 4)), .v (.int .u8 (Vw.good (rfV (c.np)) 5)), .v (.int .u8 (Vw.good (rfV (c.np)) 6)), .v (.int .u8 (Vw.good (rfV (c.np)) 7)), .v (.int .u16 (Vw.score (rfV (c.np)) 0)), .v (.int .u16 (Vw.score (rfV (c.np)) 1)), .v (.int .u16 (Vw.score (rfV (c.np)) 2)), .v (.int .u16 (Vw.score (rfV (c.np)) 3)), .v (.int .u16 (Vw.score (rfV (c.np)) 4)), .v (.int .u16 (Vw.score (rfV (c.np)) 5)), .v (.int .u16 (Vw.score (rfV (c.np)) 6)), .v (.int .u16 (Vw.score (rfV (c.np)) 7)), .v (.bool false), .v (.bool false), .v (.bool false), .v (.bool false), .v (.bool false), .v (.bool false), .v (.bool false), .v (.bool false), .v (.int .i8 (Vw.command (rfV (c.np)))), .v (.int .u8 (Vw.mode (rfV (c.np))))])) 0 0 42 (i - m))), some zz6, some zz8, some zz9, some zz10, some zz5, some zz4, some zz3, some zz0], 94, 1000000000000000000000000000000000000000037, (true :: true :: (decide (m ≤ m)) :: (decide ((m + 1) * 50 ≤ 140737488355328)) :: (zu (zt (true :: true :: true :: true :: ((cfgK c) :: (qfP (CfgS.mk c [])) :: true :: true :: true :: true :: true :: true :: ((!rmayB (c.np) zz7) == true) :: zq3))))), [])) ∧ ((!rmayB (c.np) zz7) = false → Q (Exit.normal, [some (.c (.sl 1000000000000000000000000000000000000000030 0 0 (m + 1) none)), some (lkA zz2 1), some (lkA zz2 2), some (lkA zz2 4), some zz11], [none, some (ABlk.mk true true 61 42 (Cs.arr (m + 1) fun i => if i < m then List.map AC.v ((fun j => Vw.cells (g j)) i) else elt (ABlk.mk true false 61 0 (Cs.lit zz7)) 0 0 42 (i - m))), none, some zz6, some zz8, some zz9, some zz10, some zz5, some zz4, some zz3, some zz0], 94, 1000000000000000000000000000000000000000035, (true :: true :: (decide (m ≤ m)) :: (decide ((m + 1) * 50 ≤ 140737488355328)) :: (zu (zt (true :: true :: true :: (((!rmayB (c.np) zz7) == false) :: zq3))))), [])))))) ∧ ((decide (Int.ofNat k < ↑n)) = false → Q (Exit.exit 0, [some (lkA zz2 5), some (lkA zz2 1), some (lkA zz2 2), some (lkA zz2 4), some (lkA zz2 6)], zz1, 94, 1000000000000000000000000000000000000000010, ((decide (Int.ofNat k < ↑n) == false) :: zq1), [])))) ∧ ((decide (Int.ofNat k < c.nodes)) = false → Q (Exit.exit 0, [some (lkA zz2 5), some (lkA zz2 1), some (lkA zz2 2), some (lkA zz2 4), some (lkA zz2 6)], zz1, 94, 1000000000000000000000000000000000000000006, ((decide (Int.ofNat k < c.nodes) == false) :: zq0), [])))) :
 ∃ p r, bq0R Tryd.prog c n f m g k p = some r ∧ Q r :=
 two H
 (fun g1 => two g1
  (fun g2 => two g2
   (fun g3 => ⟨pD 6 325, _, by kernel_rfl, g3⟩)
   (fun g3 => two g3
    (fun g4 => ⟨pD 7 1297, _, by kernel_rfl, g4⟩)
    (fun g4 => ⟨pD 7 2026, _, by kernel_rfl, g4⟩)))
  (fun g2 => ⟨pD 5 163, _, by kernel_rfl, g2⟩))
 (fun g1 => ⟨pD 5 2, _, by kernel_rfl, g1⟩)
end Go.Proofs.YtgdoojlfbebaaaaDoor
end
/- sennitref22.Base: how the best one is looked for, as the evaluator runs it; the whole. -/
section
namespace Go.Proofs.YtgdoojlfbebaaaaDoor
open Go.RowKit
abbrev bwI : List Nat := [1004, 1001, 100000000000000000000000000000000000000000000000001]
abbrev bwB (m : Nat) (g : Nat → Vw) (b : Vw) : List ABlk := [bqM m g, vwB vz0, vwB b]
abbrev biH : List Nat := [4, 5, 8, 9, 10, 11, 12]
abbrev biV (m s i q k : Nat) : List AV := [.c (.ptr 1001 0 0), .c (.sl 1004 0 0 m none), .c (.ptr 100000000000000000000000000000000000000000000000001 0 0), i64 (Int.ofNat s), i64 (Int.ofNat i), i64 (Int.ofNat q), i64 (Int.ofNat k)]
def bq2R (P : Program) (m : Nat) (g : Nat → Vw) (b : Vw) (s i q k : Nat) (path : List Dec) : Option VC :=
 view (biH ++ []) bwI (fC (EBq P) 100 (loopAt P 21 2) 10000000000000000000000000000000000000000000000000000 10000000000000000000000000000000000000000 (stH 94 biH bwI (biV m s i q k) (bwB m g b) path []))
abbrev biO (m s i q : Nat) : List (Nat × AV) := [(4, .c (.ptr 1001 0 0)), (5, .c (.sl 1004 0 0 m none)), (8, .c (.ptr 100000000000000000000000000000000000000000000000001 0 0)), (9, i64 (Int.ofNat s)), (10, i64 (Int.ofNat i)), (11, i64 (Int.ofNat q))]
abbrev bq2S (m : Nat) (g : Nat → Vw) (b : Vw) (s i q : Nat) : LSum := ⟨biH, bwI, mkFr 94 (biO m s i q), bwI.zip (bwB m g b), 100000000000000000000000000000000000000000000000000000, .exit 4⟩
abbrev bwH : List Nat := [4, 5, 8, 9, 10]
abbrev bwV (m s i : Nat) : List AV := [.c (.ptr 1001 0 0), .c (.sl 1004 0 0 m none), .c (.ptr 100000000000000000000000000000000000000000000000001 0 0), i64 (Int.ofNat s), i64 (Int.ofNat i)]
def bq1R (P : Program) (m : Nat) (g : Nat → Vw) (b : Vw) (s i : Nat) (path : List Dec) (lp : List (Option LSum)) : Option VC :=
 view (bwH ++ []) bwI (fC (EBq P) 100 (loopAt P 21 1) 1000000000000000000000000000000000000000000000000000 10000000000000000000000000000000000000000 (stH 94 bwH bwI (bwV m s i) (bwB m g b) path lp))
abbrev bq1S (m : Nat) (g : Nat → Vw) (b : Vw) : LSum := ⟨bwH, bwI, mkFr 94 [(4, .c (.ptr 1001 0 0)), (8, .c (.ptr 100000000000000000000000000000000000000000000000001 0 0))], bwI.zip (bwB m g b), 1000000000000000000000000000000000000000000000000000000, .exit 2⟩
def bqF (P : Program) (c : Cfg) (n : Nat) (f : Nat → Hq) (path : List Dec) (lp : List (Option LSum)) : Option VF := viewF [] (fCallF (EBq P) (fC (EBq P) 300) 21 [.agg (cfgC c), .c (.sl 4 0 0 n none)] 1000 10000000000000000000000000000000000000000 (stA (cfgM c ++ [(4, rBlk 66 56 n fun k => hqC (f k))]) path lp))
theorem bq2 (m : Nat) (g : Nat → Vw) (b : Vw) (s i q k : Nat) (Q : VC → Prop) (H : let zz1 := (ABlk.mk true true 61 42 (Cs.arr m fun k => List.map AC.v ((fun j => Vw.cells (g j)) k))); let zz0 := [some zz1, some (ABlk.mk true false 61 0 (Cs.lit [AC.v (Value.bool false), AC.v (Value.bool false), AC.v (Value.bool false), AC.v (Value.bool false), AC.v (Value.bool false), AC.v (Value.bool false), AC.v (Value.bool false), AC.v (Value.bool false), AC.v (Value.int IntKind.u8 (Int.ofNat 0)), AC.v (Value.int IntKind.u8 (Int.ofNat 0)), AC.v (Value.int IntKind.u8 (Int.ofNat 0)), AC.v (Value.int IntKind.u8 (Int.ofNat 0)), AC.v (Value.int IntKind.u8 (Int.ofNat 0)), AC.v (Value.int IntKind.u8 (Int.ofNat 0)), AC.v (Value.int IntKind.u8 (Int.ofNat 0)), AC.v (Value.int IntKind.u8 (Int.ofNat 0)), AC.v (Value.int IntKind.u8 (Int.ofNat 0)), AC.v (Value.int IntKind.u8 (Int.ofNat 0)), AC.v (Value.int IntKind.u8 (Int.ofNat 0)), AC.v (Value.int IntKind.u8 (Int.ofNat 0)), AC.v (Value.int IntKind.u8 (Int.ofNat 0)), AC.v (Value.int IntKind.u8 (Int.ofNat 0)), AC.v (Value.int IntKind.u8 (Int.ofNat 0)), AC.v (Value.int IntKind.u8 (Int.ofNat 0)), AC.v (Value.int IntKind.u16 (Int.ofNat 0)), AC.v (Value.int IntKind.u16 (Int.ofNat 0)), AC.v (Value.int IntKind.u16 (Int.ofNat 0)), AC.v (Value.int IntKind.u16 (Int.ofNat 0)), AC.v (Value.int IntKind.u16 (Int.ofNat 0)), AC.v (Value.int IntKind.u16 (Int.ofNat 0)), AC.v (Value.int IntKind.u16 (Int.ofNat 0)), AC.v (Value.int IntKind.u16 (Int.ofNat 0)), AC.v (Value.bool false), AC.v (Value.bool false), AC.v (Value.bool false), AC.v (Value.bool false), AC.v (Value.bool false), AC.v (Value.bool false), AC.v (Value.bool false), AC.v (Value.bool false), AC.v (Value.int IntKind.i8 (Int.ofNat 0)), AC.v (Value.int IntKind.u8 (Int.ofNat 0))])), some (ABlk.mk true false 61 0 (Cs.lit (vwL b)))]; let zt : List Bool → List Bool := fun l => true :: true :: true :: true :: true :: true :: true :: true :: l; let zu : List Bool → List Bool := fun l => zt (zt (zt (zt l))); let zq0 : List Bool := zu (zu (zt (zt (true :: true :: true :: true :: ((ABlk.inb zz1 (0 + Int.toNat (Int.ofNat i)) 42) :: (zu (zt (true :: true :: ((decide (Int.ofNat 0 ≤ Int.ofNat i ∧ Int.ofNat i < ↑m)) :: (ABlk.inb zz1 (0 + Int.toNat (Int.ofNat k)) 42) :: (zu (zt (true :: true :: ((decide (Int.ofNat 0 ≤ Int.ofNat k ∧ Int.ofNat k < ↑m)) :: (decide (Int.ofNat k < ↑m) == true) :: []))))))))))))); (((decide (Int.ofNat k < ↑m)) = true → (((eqF vwKs (vwL (g (0 + Int.toNat (Int.ofNat k)))) (vwL (g (0 + Int.toNat (Int.ofNat i))))) = true → Q (Exit.normal, [some (lkA (List.zip biH (biV m s i q k)) 4), some (lkA (List.zip biH (biV m s i q k)) 5), some (lkA (List.zip biH (biV m s i q k)) 8), some (lkA (List.zip biH (biV m s i q k)) 9), some (lkA (List.zip biH (biV m s i q k)) 10), some (.c (.v (.int .i64 (IntKind.wrap .i64 (Int.ofNat q + Int.ofNat 1))))), some (.c (.v (.int .i64 (IntKind.wrap .i64 (Int.ofNat k + Int.ofNat 1)))))], zz0, 94, 10000000000090000000000000000000000000000000000000010, ((eqF vwKs (vwL (g (0 + Int.toNat (Int.ofNat k)))) (vwL (g (0 + Int.toNat (Int.ofNat i)))) == true) :: zq0), [])) ∧ ((eqF vwKs (vwL (g (0 + Int.toNat (Int.ofNat k)))) (vwL (g (0 + Int.toNat (Int.ofNat i))))) = false → Q (Exit.normal, [some (lkA (List.zip biH (biV m s i q k)) 4), some (lkA (List.zip biH (biV m s i q k)) 5), some (lkA (List.zip biH (biV m s i q k)) 8), some (lkA (List.zip biH (biV m s i q k)) 9), some (lkA (List.zip biH (biV m s i q k)) 10), some (lkA (List.zip biH (biV m s i q k)) 11), some (.c (.v (.int .i64 (IntKind.wrap .i64 (Int.ofNat k + Int.ofNat 1)))))], zz0, 94, 10000000000090000000000000000000000000000000000000007, ((eqF vwKs (vwL (g (0 + Int.toNat (Int.ofNat k)))) (vwL (g (0 + Int.toNat (Int.ofNat i)))) == false) :: zq0), [])))) ∧ ((decide (Int.ofNat k < ↑m)) = false → Q (Exit.exit 4, [some (lkA (List.zip biH (biV m s i q k)) 4), some (lkA (List.zip biH (biV m s i q k)) 5), some (lkA (List.zip biH (biV m s i q k)) 8), some (lkA (List.zip biH (biV m s i q k)) 9), some (lkA (List.zip biH (biV m s i q k)) 10), some (lkA (List.zip biH (biV m s i q k)) 11), some (lkA (List.zip biH (biV m s i q k)) 12)], zz0, 94, 10000000000000000000000000000000000000000000000000004, [decide (Int.ofNat k < ↑m) == false], [])))) :
 ∃ p r, bq2R Tryd.prog m g b s i q k p = some r ∧ Q r :=
 two H
 (fun g1 => two g1
  (fun g2 => ⟨pD 2 4, _, by kernel_rfl, g2⟩)
  (fun g2 => ⟨pD 2 7, _, by kernel_rfl, g2⟩))
 (fun g1 => ⟨pD 1 2, _, by kernel_rfl, g1⟩)
theorem bq1 (m : Nat) (g : Nat → Vw) (b : Vw) (s i q : Nat) (Q : VC → Prop) (H : let zz0 := (ABlk.mk true false 61 0 (Cs.lit [AC.v (Value.bool false), AC.v (Value.bool false), AC.v (Value.bool false), AC.v (Value.bool false), AC.v (Value.bool false), AC.v (Value.bool false), AC.v (Value.bool false), AC.v (Value.bool false), AC.v (Value.int IntKind.u8 (Int.ofNat 0)), AC.v (Value.int IntKind.u8 (Int.ofNat 0)), AC.v (Value.int IntKind.u8 (Int.ofNat 0)), AC.v (Value.int IntKind.u8 (Int.ofNat 0)), AC.v (Value.int IntKind.u8 (Int.ofNat 0)), AC.v (Value.int IntKind.u8 (Int.ofNat 0)), AC.v (Value.int IntKind.u8 (Int.ofNat 0)), AC.v (Value.int IntKind.u8 (Int.ofNat 0)), AC.v (Value.int IntKind.u8 (Int.ofNat 0)), AC.v (Value.int IntKind.u8 (Int.ofNat 0)), AC.v (Value.int IntKind.u8 (Int.ofNat 0)), AC.v (Value.int IntKind.u8 (Int.ofNat 0)), AC.v (Value.int IntKind.u8 (Int.ofNat 0)), AC.v (Value.int IntKind.u8 (Int.ofNat 0)), AC.v (Value.int IntKind.u8 (Int.ofNat 0)), AC.v (Value.int IntKind.u8 (Int.ofNat 0)), AC.v (Value.int IntKind.u16 (Int.ofNat 0)), AC.v (Value.int IntKind.u16 (Int.ofNat 0)), AC.v (Value.int IntKind.u16 (Int.ofNat 0)), AC.v (Value.int IntKind.u16 (Int.ofNat 0)), AC.v (Value.int IntKind.u16 (Int.ofNat 0)), AC.v (Value.int IntKind.u16 (Int.ofNat 0)), AC.v (Value.int IntKind.u16 (Int.ofNat 0)), AC.v (Value.int IntKind.u16 (Int.ofNat 0)), AC.v (Value.bool false), AC.v (Value.bool false), AC.v (Value.bool false), AC.v (Value.bool false), AC.v (Value.bool false), AC.v (Value.bool false), AC.v (Value.bool false), AC.v (Value.bool false), AC.v (Value.int IntKind.i8 (Int.ofNat 0)), AC.v (Value.int IntKind.u8 (Int.ofNat 0))])); let zz2 := (ABlk.mk true true 61 42 (Cs.arr m fun k => List.map AC.v ((fun j => Vw.cells (g j)) k))); let zz4 := [some zz2, some zz0, some (ABlk.mk true false 61 0 (Cs.lit (vwL b)))]; let zz1 := [LoopV Tryd.prog (loopAt Tryd.prog 21 2) biH bwI [some (AV.c (AC.ptr 1001 0 0)), some (AV.c (AC.sl 1004 0 0 m none)), some (AV.c (AC.ptr 100000000000000000000000000000000000000000000000001 0 0)), some (AV.c (AC.v (Value.int IntKind.i64 (Int.ofNat s)))), some (AV.c (AC.v (Value.int IntKind.i64 (Int.ofNat i)))), some (AV.c (AC.v (Value.int IntKind.i64 (Int.ofNat 0)))), some (AV.c (AC.v (Value.int IntKind.i64 (Int.ofNat 0))))] zz4 94 1000000000000000000000000000000000000000000000000006 (mkFr 94 (biO m s i q)) (List.zip bwI (bwB m g b)) 100000000000000000000000000000000000000000000000000000 (Exit.exit 4) none]; let zz3 := (AV.c (AC.v (Value.int IntKind.i64 (IntKind.wrap IntKind.i64 (Int.ofNat i + Int.ofNat 1))))); let zt : List Bool → List Bool := fun l => true :: true :: true :: true :: true :: true :: true :: true :: l; let zu : List Bool → List Bool := fun l => zt (zt (zt (zt l))); let zq0 : List Bool := [decide (Int.ofNat i < ↑m) == true]; let zq1 : List Bool := (decide (Int.ofNat q > Int.ofNat s) == false) :: zq0; let zq2 : List Bool := zu (zt (true :: true :: true :: true :: true :: ((ABlk.inb zz2 (0 + Int.toNat (Int.ofNat i)) 42) :: (zu (zt (true :: true :: ((decide (Int.ofNat 0 ≤ Int.ofNat i ∧ Int.ofNat i < ↑m)) :: ((Int.ofNat q == Int.ofNat s) == true) :: zq1))))))); (((decide (Int.ofNat i < ↑m)) = true → (((decide (Int.ofNat q > Int.ofNat s)) = true → Q (Exit.normal, [some (lkA (biO m s i q) 4), some (lkA (biO m s i q) 5), some (lkA (biO m s i q) 8), some (.c (.v (.int .i64 (Int.ofNat q)))), some zz3], [some zz2, some zz0, some (ABlk.mk true false 61 0 (Cs.lit (vwL (g (0 + Int.toNat (Int.ofNat i))))))], 94, 100000000000160000000000000000000000000000000000000010, (true :: (ABlk.inb zz2 (0 + Int.toNat (Int.ofNat i)) 42) :: (zu (zt (true :: true :: ((decide (Int.ofNat 0 ≤ Int.ofNat i ∧ Int.ofNat i < ↑m)) :: (decide (Int.ofNat q > Int.ofNat s) == true) :: zq0))))), zz1)) ∧ ((decide (Int.ofNat q > Int.ofNat s)) = false → (((Int.ofNat q == Int.ofNat s) = true → (((lessL (vwL (g (0 + Int.toNat (Int.ofNat i)))) (vwL b)) = true → Q (Exit.normal, [some (lkA (biO m s i q) 4), some (lkA (biO m s i q) 5), some (lkA (biO m s i q) 8), some (.c (.v (.int .i64 (Int.ofNat q)))), some zz3], [some zz2, some zz0, some (ABlk.mk true false 61 0 (Cs.lit (vwL (g (0 + Int.toNat (Int.ofNat i))))))], 94, 100000000000160000000000000000000000000000000000000010, (true :: (ABlk.inb zz2 (0 + Int.toNat (Int.ofNat i)) 42) :: (zu (zt (true :: true :: ((decide (Int.ofNat 0 ≤ Int.ofNat i ∧ Int.ofNat i < ↑m)) :: (lessL (vwL (g (0 + Int.toNat (Int.ofNat i)))) (vwL b) == true) :: zq2))))), zz1)) ∧ ((lessL (vwL (g (0 + Int.toNat (Int.ofNat i)))) (vwL b)) = false → Q (Exit.normal, [some (lkA (biO m s i q) 4), some (lkA (biO m s i q) 5), some (lkA (biO m s i q) 8), some (lkA (biO m s i q) 9), some zz3], zz4, 94, 100000000000160000000000000000000000000000000000000003, ((lessL (vwL (g (0 + Int.toNat (Int.ofNat i)))) (vwL b) == false) :: zq2), zz1)))) ∧ ((Int.ofNat q == Int.ofNat s) = false → Q (Exit.normal, [some (lkA (biO m s i q) 4), some (lkA (biO m s i q) 5), some (lkA (biO m s i q) 8), some (lkA (biO m s i q) 9), some zz3], zz4, 94, 100000000000160000000000000000000000000000000000000003, (((Int.ofNat q == Int.ofNat s) == false) :: zq1), zz1)))))) ∧ ((decide (Int.ofNat i < ↑m)) = false → Q (Exit.exit 2, [some (lkA (List.zip bwH (bwV m s i)) 4), some (lkA (List.zip bwH (bwV m s i)) 5), some (lkA (List.zip bwH (bwV m s i)) 8), some (lkA (List.zip bwH (bwV m s i)) 9), some (lkA (List.zip bwH (bwV m s i)) 10)], zz4, 94, 1000000000000000000000000000000000000000000000000004, [decide (Int.ofNat i < ↑m) == false], [])))) :
 ∃ p r, bq1R Tryd.prog m g b s i p [some (bq2S m g b s i q)] = some r ∧ Q r :=
 two H
 (fun g1 => two g1
  (fun g2 => ⟨pD 7 4, _, by kernel_rfl, g2⟩)
  (fun g2 => two g2
   (fun g3 => two g3
    (fun g4 => ⟨pD 13 531691, _, by kernel_rfl, g4⟩)
    (fun g4 => ⟨pD 13 1063132, _, by kernel_rfl, g4⟩))
   (fun g3 => ⟨pD 13 493, _, by kernel_rfl, g3⟩)))
 (fun g1 => ⟨pD 1 2, _, by kernel_rfl, g1⟩)
theorem bqT (c : Cfg) (n : Nat) (f : Nat → Hq) (m : Nat) (g : Nat → Vw) (b : Vw) (Q : VF → Prop) (H : let zz0 := (ABlk.mk true false 61 0 (Cs.lit [AC.v (Value.bool false), AC.v (Value.bool false), AC.v (Value.bool false), AC.v (Value.bool false), AC.v (Value.bool false), AC.v (Value.bool false), AC.v (Value.bool false), AC.v (Value.bool false), AC.v (Value.int IntKind.u8 (Int.ofNat 0)), AC.v (Value.int IntKind.u8 (Int.ofNat 0)), AC.v (Value.int IntKind.u8 (Int.ofNat 0)), AC.v (Value.int IntKind.u8 (Int.ofNat 0)), AC.v (Value.int IntKind.u8 (Int.ofNat 0)), AC.v (Value.int IntKind.u8 (Int.ofNat 0)), AC.v (Value.int IntKind.u8 (Int.ofNat 0)), AC.v (Value.int IntKind.u8 (Int.ofNat 0)), AC.v (Value.int IntKind.u8 (Int.ofNat 0)), AC.v (Value.int IntKind.u8 (Int.ofNat 0)), AC.v (Value.int IntKind.u8 (Int.ofNat 0)), AC.v (Value.int IntKind.u8 (Int.ofNat 0)), AC.v (Value.int IntKind.u8 (Int.ofNat 0)), AC.v (Value.int IntKind.u8 (Int.ofNat 0)), AC.v (Value.int IntKind.u8 (Int.ofNat 0)), AC.v (Value.int IntKind.u8 (Int.ofNat 0)), AC.v (Value.int IntKind.u16 (Int.ofNat 0)), AC.v (Value.int IntKind.u16 (Int.ofNat 0)), AC.v (Value.int IntKind.u16 (Int.ofNat 0)), AC.v (Value.int IntKind.u16 (Int.ofNat 0)), AC.v (Value.int IntKind.u16 (Int.ofNat 0)), AC.v (Value.int IntKind.u16 (Int.ofNat 0)), AC.v (Value.int IntKind.u16 (Int.ofNat 0)), AC.v (Value.int IntKind.u16 (Int.ofNat 0)), AC.v (Value.bool false), AC.v (Value.bool false), AC.v (Value.bool false), AC.v (Value.bool false), AC.v (Value.bool false), AC.v (Value.bool false), AC.v (Value.bool false), AC.v (Value.bool false), AC.v (Value.int IntKind.i8 (Int.ofNat 0)), AC.v (Value.int IntKind.u8 (Int.ofNat 0))])); let zt : List Bool → List Bool := fun l => true :: true :: true :: true :: true :: true :: true :: true :: l; let zu : List Bool → List Bool := fun l => zt (zt (zt (zt l))); Q (AV.agg (vwL b), [], 1000000000000000000000000000000000000000000000000000002, (zu (zu (zt (zt (zt ((cfgK c) :: (qfP (CfgS.mk c [])) :: true :: true :: true :: true :: true :: true :: [])))))), [LoopV Tryd.prog (loopAt Tryd.prog 21 1) bwH bwI [some (.c (.ptr 1001 0 0)), some (.c (.sl 1004 0 0 m none)), some (.c (.ptr 100000000000000000000000000000000000000000000000001 0 0)), some (.c (.v (.int .i64 (Int.ofNat 0)))), some (.c (.v (.int .i64 (Int.ofNat 0))))] [some (ABlk.mk true true 61 42 (Cs.arr m fun k => List.map AC.v ((fun j => Vw.cells (g j)) k))), some zz0, some (ABlk.mk true false 61 0 (Cs.lit [.v (.bool (Vw.inn (rfV (c.np)) 0)), .v (.bool (Vw.inn (rfV (c.np)) 1)), .v (.bool (Vw.inn (rfV (c.np)) 2)), .v (.bool (Vw.inn (rfV (c.np)) 3)), .v (.bool (Vw.inn (rfV (c.np)) 4)), .v (.bool (Vw.inn (rfV (c.np)) 5)), .v (.bool (Vw.inn (rfV (c.np)) 6)), .v (.bool (Vw.inn (rfV (c.np)) 7)), .v (.int .u8 (Vw.miss (rfV (c.np)) 0)), .v (.int .u8 (Vw.miss (rfV (c.np)) 1)), .v (.int .u8 (Vw.miss (rfV (c.np)) 2)), .v (.int .u8 (Vw.miss (rfV (c.np)) 3)), .v (.int .u8 (Vw.miss (rfV (c.np)) 4)), .v (.int .u8 (Vw.miss (rfV (c.np)) 5)), .v (.int .u8 (Vw.miss (rfV (c.np)) 6)), .v (.int .u8 (Vw.miss (rfV (c.np)) 7)), .v (.int .u8 (Vw.good (rfV (c.np)) 0)), .v (.int .u8 (Vw.good (rfV (c.np)) 1)), .v (.int .u8 (Vw.good (rfV (c.np)) 2)), .v (.int .u8 (Vw.good (rfV (c.np)) 3)), .v (.int .u8 (Vw.good (rfV (c.np)) 4)), .v (.int .u8 (Vw.good (rfV (c.np)) 5)), .v (.int .u8 (Vw.good (rfV (c.np)) 6)), .v (.int .u8 (Vw.good (rfV (c.np)) 7)), .v (.int .u16 (Vw.score (rfV (c.np)) 0)), .v (.int .u16 (Vw.score (rfV (c.np)) 1)), .v (.int .u16 (Vw.score (rfV (c.np)) 2)), .v (.int .u16 (Vw.score (rfV (c.np)) 3)), .v (.int .u16 (Vw.score (rfV (c.np)) 4)), .v (.int .u16 (Vw.score (rfV (c.np)) 5)), .v (.int .u16 (Vw.score (rfV (c.np)) 6)), .v (.int .u16 (Vw.score (rfV (c.np)) 7)), .v (.bool false), .v (.bool false), .v (.bool false), .v (.bool false), .v (.bool false), .v (.bool false), .v (.bool false), .v (.bool false), .v (.int .i8 (Vw.command (rfV (c.np)))), .v (.int .u8 (Vw.mode (rfV (c.np))))]))] 94 100000000000000000000000000000000000000000000000005 (mkFr 94 [(4, .c (.ptr 1001 0 0)), (8, .c (.ptr 100000000000000000000000000000000000000000000000001 0 0))]) (List.zip bwI (bwB m g b)) 1000000000000000000000000000000000000000000000000000000 (Exit.exit 2) none, LoopV Tryd.prog (loopAt Tryd.prog 21 0) (5 :: bqH) bqI [some (.c (AC.v (Value.slice none 0 0))), some (.c (.sl 4 0 0 n none)), some (.c (.ptr 1000 0 0)), some (.c (.ptr 1001 0 0)), some (.c (.v (.int .i64 (Int.ofNat 0))))] [some (ABlk.mk false false 139 0 (Cs.lit [.v (.int .i64 (Int.ofNat 1)), .v (.int .i64 (Int.negSucc 0))])), some (ABlk.mk false false 3 1 (Cs.arr (c.np) fun k => List.map AC.v ((fun i => [Value.int .i64 (c.fp i)]) k))), some (ABlk.mk false false 3 1 (Cs.arr (c.ns) fun k => List.map AC.v ((fun i => [Value.int .i64 (c.fs i)]) k))), some (ABlk.mk false false 3 1 (Cs.arr (c.nb) fun k => List.map AC.v ((fun i => [Value.int .i64 (c.fb i)]) k))), some (ABlk.mk false false 91 3 (Cs.arr (c.nt) fun k => List.map AC.v ((fun i => [Value.int .i64 (Station.node (c.ft i)), Value.int .u32 (Station.safe (c.ft i)), Value.int .i64 (Station.hold (c.ft i))]) k))), some (ABlk.mk false false 66 56 (Cs.arr n fun k => List.map AC.v ((fun k => hqC (f k)) k))), some (ABlk.mk true false 25 0 (Cs.lit [.v (.int .i64 (c.nodes)), AC.sl 0 0 0 (c.np) none, AC.sl 1 0 0 (c.ns) none, .v (.int .i64 (c.long)), AC.sl 2 0 0 (c.nb) none, AC.sl 3 0 0 (c.nt) none, .v (.int .i64 (c.miss)), .v (.int .i64 (c.good)), .v (.int .i64 (c.fresh))])), some zz0] 94 1004 (mkFr 94 ((5, .c (.sl 1004 0 0 m none)) :: bqO n)) ((1004, bqM m g) :: List.zip bqI (bqB c n f)) 100000000000000000000000000000000000000000000000000 (Exit.exit 0) none])) :
 ∃ p r, bqF Tryd.prog c n f p [some (bqS c n f m g), some (bq1S m g b)] = some r ∧ Q r :=
 ⟨pD 0 0, _, by kernel_rfl, H⟩
end Go.Proofs.YtgdoojlfbebaaaaDoor
end
/- sennitref22.Base: the sums of its loops. -/
section
namespace Go.Proofs.YtgdoojlfbebaaaaDoor
open Go.RowKit
abbrev bq2N : Nat := 1000000000000000000000000000000000000000000000000006
abbrev bq1N : Nat := 100000000000000000000000000000000000000000000000005
theorem bwB_low {N m : Nat} {g : Nat → Vw} {b : Vw} : ∀ x ∈ bwB m g b, lowB N x := by
 intro x hx
 simp only [List.mem_cons, List.not_mem_nil, or_false] at hx
 rcases hx with rfl | rfl | rfl
 · exact wBlk_low
 · exact vwB_low
 · exact vwB_low
theorem bq_w {k : Nat} (h : k ≤ 1000000) : IntKind.wrap IntKind.i64 (Int.ofNat k + Int.ofNat 1) = Int.ofNat (k + 1) := by rw [wrap_nat _ (by simp; omega) (by simp; omega)]; rfl
theorem bq_e (k : Nat) : 0 + Int.toNat (Int.ofNat k) = k := by simp
set_option maxRecDepth 100000 in
theorem bq2_sum (m : Nat) (g : Nat → Vw) (b : Vw) (s i : Nat) (him : i < m) (hm : m ≤ 100000) :
 LoopV Tryd.prog (loopAt Tryd.prog 21 2) biH bwI ((biV m s i 0 0).map some) ((bwB m g b).map some) 94 bq2N (mkFr 94 (biO m s i (cnG g (vwL (g i)) m))) (bwI.zip (bwB m g b)) 100000000000000000000000000000000000000000000000000000 (.exit 4) none := by
 refine loop_viewN hEBq (fuel := 100) (str := 10000000000000000000000000000000000000000) (nh := 10000000000000000000000000000000000000000000000000000) (S := Nat) (fun k => k ≤ m) (fun k => m - k) biH [] bwI (fun k => biV m s i (cnG g (vwL (g i)) k) k) (fun _ => bwB m g b) (by decide) (by decide) (by unfold lim; omega) (s0 := 0) (Nat.zero_le _) (fun _ => ⟨rfl, rfl⟩) (by kernel_rfl) (BL.refl (bwB m g b)) (fun _ _ => ⟨rfl, bwB_low⟩) ?_
 intro k hk
 refine (?_ : (∃ p r, bq2R Tryd.prog m g b s i (cnG g (vwL (g i)) k) k p = some r ∧ _) → _) (bq2 m g b s i (cnG g (vwL (g i)) k) k (StepN bq2N 100000000000000000000000000000000000000000000000000000 94 biH [] bwI (fun k => k ≤ m) (fun k => m - k) (fun k => biV m s i (cnG g (vwL (g i)) k) k) (fun _ => bwB m g b) (.exit 4) (biO m s i (cnG g (vwL (g i)) m)) (bwI.zip (bwB m g b)) k) ?_)
 · rintro ⟨p, r, h1, h2⟩
   exact ⟨p, [], r, h1, h2⟩
 · have hc := cnG_le g (vwL (g i)) k
   refine ⟨fun c1 => ?_, fun c1 => ?_⟩
   · have hlt : k < m := by simpa using c1
     refine ⟨fun c2 => ?_, fun c2 => ?_⟩
     · rw [bq_e, bq_e] at c2
       have e : cnG g (vwL (g i)) (k + 1) = cnG g (vwL (g i)) k + 1 := cnG_t c2
       refine ⟨?_, (fun q hq => by cases hq), by dsimp only; omega, rfl, .inl ⟨rfl, k + 1, hlt, by show m - (k + 1) < m - k; omega, ?_, BL.refl (bwB m g b)⟩⟩
       · simp only [allT, List.forall_mem_cons, bq_e, c2]
         simp [inb_arr, hlt, him]
       · dsimp only; rw [bq_w (by omega), bq_w (by omega), e]; rfl
     · rw [bq_e, bq_e] at c2
       have e : cnG g (vwL (g i)) (k + 1) = cnG g (vwL (g i)) k := cnG_f c2
       refine ⟨?_, (fun q hq => by cases hq), by dsimp only; omega, rfl, .inl ⟨rfl, k + 1, hlt, by show m - (k + 1) < m - k; omega, ?_, BL.refl (bwB m g b)⟩⟩
       · simp only [allT, List.forall_mem_cons, bq_e, c2]
         simp [inb_arr, hlt, him]
       · dsimp only; rw [bq_w (by omega), e]; rfl
   · obtain rfl : k = m := by have : ¬ k < m := by simpa using c1
                              omega
     refine ⟨by simp only [allT, List.forall_mem_cons, c1]; simp, (fun q hq => by cases hq), by dsimp only; omega, rfl, .inr ⟨by simp, rfl, fun q hq => ?_, mf_all (by kernel_rfl) bwB_low rfl⟩⟩
     simp only [biO, List.mem_cons, List.not_mem_nil, or_false] at hq
     rcases hq with rfl | rfl | rfl | rfl | rfl | rfl <;> exact ⟨rfl, by simp [lkA]⟩
set_option maxRecDepth 100000 in
theorem bq1_sum (m : Nat) (g : Nat → Vw) (first : Vw) (hm : m ≤ 100000) {eblks : List (Option ABlk)} (heb : BL (bwB m g first) eblks) :
 LoopV Tryd.prog (loopAt Tryd.prog 21 1) bwH bwI ((bwV m 0 0).map some) eblks 94 bq1N (mkFr 94 [(4, .c (.ptr 1001 0 0)), (8, .c (.ptr 100000000000000000000000000000000000000000000000001 0 0))]) (bwI.zip (bwB m g (bvS g first m m).1)) 1000000000000000000000000000000000000000000000000000000 (.exit 2) none := by
 refine loop_viewN hEBq (fuel := 100) (str := 10000000000000000000000000000000000000000) (nh := 1000000000000000000000000000000000000000000000000000) (S := Nat) (fun i => i ≤ m) (fun i => m - i) bwH [] bwI (fun i => bwV m (bvS g first m i).2 i) (fun i => bwB m g (bvS g first m i).1) (by decide) (by decide) (by unfold lim; omega) (s0 := 0) (Nat.zero_le _) (fun _ => ⟨rfl, rfl⟩) (by kernel_rfl) heb (fun _ _ => ⟨rfl, bwB_low⟩) ?_
 intro i hi
 refine (?_ : (∃ p r, bq1R Tryd.prog m g (bvS g first m i).1 (bvS g first m i).2 i p [some (bq2S m g (bvS g first m i).1 (bvS g first m i).2 i (cnG g (vwL (g i)) m))] = some r ∧ _) → _) (bq1 m g (bvS g first m i).1 (bvS g first m i).2 i (cnG g (vwL (g i)) m) (StepN bq1N 1000000000000000000000000000000000000000000000000000000 94 bwH [] bwI (fun i => i ≤ m) (fun i => m - i) (fun i => bwV m (bvS g first m i).2 i) (fun i => bwB m g (bvS g first m i).1) (.exit 2) [(4, .c (.ptr 1001 0 0)), (8, .c (.ptr 100000000000000000000000000000000000000000000000001 0 0))] (bwI.zip (bwB m g (bvS g first m m).1)) i) ?_)
 · rintro ⟨p, r, h1, h2⟩
   exact ⟨p, _, r, h1, h2⟩
 · have hc := cnG_le g (vwL (g i)) m
   have hb := bvS_le g first m i
   refine ⟨fun c1 => ?_, fun c1 => ?_⟩
   · have hlt : i < m := by simpa using c1
     have S0 := bq2_sum m g (bvS g first m i).1 (bvS g first m i).2 i hlt hm
     have po : ∀ q ∈ [LoopV Tryd.prog (loopAt Tryd.prog 21 2) biH bwI ((biV m (bvS g first m i).2 i 0 0).map some) ((bwB m g (bvS g first m i).1).map some) 94 bq2N (mkFr 94 (biO m (bvS g first m i).2 i (cnG g (vwL (g i)) m))) (bwI.zip (bwB m g (bvS g first m i).1)) 100000000000000000000000000000000000000000000000000000 (.exit 4) none], q := fun q hq => by rw [List.mem_singleton.1 hq]; exact S0
     clear S0
     refine ⟨fun c2 => ?_, fun c2 => ⟨fun c3 => ⟨fun c4 => ?_, fun c4 => ?_⟩, fun c3 => ?_⟩⟩
     · have e := bvS_t (g := g) (first := first) (m := m) (i := i) (.inl (by simpa using c2))
       refine ⟨?_, po, by dsimp only; omega, rfl, .inl ⟨rfl, i + 1, hlt, by show m - (i + 1) < m - i; omega, ?_, ?_⟩⟩
       · simp only [allT, List.forall_mem_cons, c1, c2, bq_e]
         simp [inb_arr, hlt]
       · dsimp only; rw [bq_w (by omega), e]; rfl
       · dsimp only; rw [e, bq_e]; exact BL.refl (bwB m g (g i))
     · have hq : cnG g (vwL (g i)) m = (bvS g first m i).2 := by
        have : ((cnG g (vwL (g i)) m : Nat) : Int) = ((bvS g first m i).2 : Nat) := by simpa using c3
        omega
       rw [bq_e] at c4
       have e := bvS_t (g := g) (first := first) (m := m) (i := i) (.inr ⟨hq, c4⟩)
       refine ⟨?_, po, by dsimp only; omega, rfl, .inl ⟨rfl, i + 1, hlt, by show m - (i + 1) < m - i; omega, ?_, ?_⟩⟩
       · simp only [allT, List.forall_mem_cons, bq_e, c1, c2, c3, c4]
         simp [inb_arr, hlt]
       · dsimp only; rw [bq_w (by omega), e]; rfl
       · dsimp only; rw [e, bq_e]; exact BL.refl (bwB m g (g i))
     · rw [bq_e] at c4
       have e := bvS_f (g := g) (first := first) (m := m) (i := i) (fun h => by
        rcases h with h | ⟨_, h⟩
        · have : ¬ (bvS g first m i).2 < cnG g (vwL (g i)) m := by simpa using c2
          exact this h
        · rw [c4] at h; cases h)
       refine ⟨?_, po, by dsimp only; omega, rfl, .inl ⟨rfl, i + 1, hlt, by show m - (i + 1) < m - i; omega, ?_, ?_⟩⟩
       · simp only [allT, List.forall_mem_cons, bq_e, c1, c2, c3, c4]
         simp [inb_arr, hlt]
       · dsimp only; rw [bq_w (by omega), e]; rfl
       · dsimp only; rw [e]; exact BL.refl (bwB m g (bvS g first m i).1)
     · have e := bvS_f (g := g) (first := first) (m := m) (i := i) (fun h => by
        rcases h with h | ⟨h, _⟩
        · have : ¬ (bvS g first m i).2 < cnG g (vwL (g i)) m := by simpa using c2
          exact this h
        · rw [h] at c3; simp at c3)
       refine ⟨?_, po, by dsimp only; omega, rfl, .inl ⟨rfl, i + 1, hlt, by show m - (i + 1) < m - i; omega, ?_, ?_⟩⟩
       · simp only [allT, List.forall_mem_cons, c1, c2, c3]
         simp
       · dsimp only; rw [bq_w (by omega), e]; rfl
       · dsimp only; rw [e]; exact BL.refl (bwB m g (bvS g first m i).1)
   · obtain rfl : i = m := by have : ¬ i < m := by simpa using c1
                              omega
     refine ⟨by simp only [allT, List.forall_mem_cons, c1]; simp, (fun q hq => by cases hq), by dsimp only; omega, rfl, .inr ⟨by simp, rfl, fun q hq => ?_, mf_all (by kernel_rfl) bwB_low rfl⟩⟩
     simp only [List.mem_cons, List.not_mem_nil, or_false] at hq
     rcases hq with rfl | rfl <;> exact ⟨rfl, by simp [lkA]⟩
end Go.Proofs.YtgdoojlfbebaaaaDoor
end
/- sennitref22.Base: the sum of the loop over the entries. -/
section
namespace Go.Proofs.YtgdoojlfbebaaaaDoor
open Go.RowKit
theorem bqM_low {N m : Nat} {g : Nat → Vw} : lowB N (bqM m g) := wBlk_low
theorem bqB_low {N n : Nat} {c : Cfg} {f : Nat → Hq} (h : 4 < N) : ∀ b ∈ bqB c n f, lowB N b := by
 intro b hb
 simp only [List.mem_cons, List.not_mem_nil, or_false] at hb
 rcases hb with rfl | rfl | rfl | rfl | rfl | rfl | rfl | rfl
 · exact low_lit rfl
 · exact ints_low
 · exact ints_low
 · exact ints_low
 · exact rBlk_low
 · exact rBlk_low
 · exact cfgB_low (by omega)
 · exact vwB_low
abbrev bqQ (c : Cfg) (f : Nat → Hq) (k : Nat) : List Vw := vqL (rmayB c.np) (rfV c.np) (fun k => (f k).is) (fun k => (f k).u) k
abbrev bqG (c : Cfg) (f : Nat → Hq) (k : Nat) : Nat → Vw := fun j => (bqQ c f k).getD j vz0
theorem getD_snoc_lo (l : List Vw) (x : Vw) {i : Nat} (h : i < l.length) : (l ++ [x]).getD i vz0 = l.getD i vz0 := by simp [List.getD, List.getElem?_append_left h]
theorem getD_snoc_hi (l : List Vw) (x : Vw) : (l ++ [x]).getD l.length vz0 = x := by simp [List.getD]
set_option maxRecDepth 100000 in
theorem bq0_sum (c : Cfg) (n N : Nat) (f : Nat → Hq) (hN : c.nodes = Int.ofNat N) (hn : n ≤ 1000) (h8 : c.np ≤ 8) (hp : ∀ k, k < n → posL (vwL (f k).u) = true) {eblks : List (Option ABlk)} (heb : BL (bqB c n f) eblks) :
 LoopV Tryd.prog (loopAt Tryd.prog 21 0) (5 :: bqH) bqI (some (.c (.v (.slice none 0 0))) :: (bqV n 0).map some) eblks 94 1004 (mkFr 94 ((5, .c (.sl 1004 0 0 (bqQ c f (min n N)).length none)) :: bqO n)) ((1004, bqM (bqQ c f (min n N)).length (bqG c f (min n N))) :: bqI.zip (bqB c n f)) 100000000000000000000000000000000000000000000000000 (.exit 0) none := by
 refine loop_growE hEBq (fuel := 100) (str := 10000000000000000000000000000000000000000) (nh := 1000000000000000000000000000000000000000000) (n := 1004) (n' := 100000000000000000000000000000000000000000000000000) (S := Nat) (fun k => k ≤ min n N) (fun k => min n N - k) 5 1004 bqH [1004, 1000000000000000000000000000000000000000030, 1000000000000000000000000000000000000000032] bqI (fun k => (bqQ c f k).length) (fun k => bqM (bqQ c f k).length (bqG c f k)) (fun k => bqV n k) (fun _ => bqB c n f) (by decide) (by decide) (by decide) (by unfold lim; omega) (s0 := 0) (Nat.zero_le _) rfl ⟨_, rfl⟩ (Nat.succ_pos 41) (fun _ => ⟨rfl, rfl⟩) (by kernel_rfl) heb (fun k _ => ⟨rfl, bqB_low (by omega), bqM_low⟩) bqM_low fun k hk => ?_
 refine (?_ : (∃ p r, bq0R Tryd.prog c n f (bqQ c f k).length (bqG c f k) k p = some r ∧ _) → _) (bq0 c n f (bqQ c f k).length (bqG c f k) k (StepG 1004 1000000000000000000000000000000000000000000 100000000000000000000000000000000000000000000000000 94 1004 bqH [1004, 1000000000000000000000000000000000000000030, 1000000000000000000000000000000000000000032] bqI (fun k => k ≤ min n N) (fun k => min n N - k) (fun k => (bqQ c f k).length) (fun k => bqM (bqQ c f k).length (bqG c f k)) (fun k => bqV n k) (fun _ => bqB c n f) (.exit 0) (bqQ c f (min n N)).length (bqM (bqQ c f (min n N)).length (bqG c f (min n N))) (bqO n) (bqI.zip (bqB c n f)) k) ?_)
 · rintro ⟨p, r, h1, h2⟩
   exact ⟨p, [], r, h1, h2⟩
 · have hle := vqL_le (rmayB c.np) (rfV c.np) (fun k => (f k).is) (fun k => (f k).u) k
   have hend : ¬ k < n ∨ ¬ k < N → k = min n N := by omega
   have hout : ∀ l1 : List (Option AV), l1 = (bqV n k).map some → ∀ q ∈ bqO n, okV 1004 q.2 = true ∧ (q.1, some q.2) ∈ bqH.zip l1 := by
    rintro l1 rfl q hq
    simp only [bqO, List.mem_cons, List.not_mem_nil, or_false] at hq
    rcases hq with rfl | rfl | rfl <;> exact ⟨rfl, by simp⟩
   refine ⟨fun c1 => ⟨fun c2 => ⟨fun c3 => ?_, fun c3 => ⟨fun c4 => ?_, fun c4 => ?_⟩⟩, fun c2 => ?_⟩, fun c1 => ?_⟩
   · have hN' : k < N := by rw [hN] at c1; simpa using c1
     have hlt : k < n := by simpa using c2
     rw [bq_e] at c3
     have e : bqQ c f (k + 1) = bqQ c f k := vqL_no (by simpa using c3)
     refine ⟨?_, (fun q hq => by cases hq), by dsimp only; omega, rfl, .inl ⟨rfl, k + 1, (by show k + 1 ≤ min n N; omega), by show min n N - (k + 1) < min n N - k; omega, ?_, BL.refl (bqB c n f), 1004, bqM (bqQ c f k).length (bqG c f k), ?_, .inl rfl, .head _, ?_⟩⟩
     · simp only [allT, List.forall_mem_cons, bq_e, c1, c2, c3]
       simp [inb_arr, hlt]
     · dsimp only; rw [bq_w (by omega)]; rfl
     · dsimp only; rw [e]; rfl
     · have eg : bqG c f (k + 1) = bqG c f k := by funext j; show (bqQ c f (k + 1)).getD j vz0 = _; rw [e]
       dsimp only; rw [e, eg]; exact BEq.refl _
   · have hN' : k < N := by rw [hN] at c1; simpa using c1
     have hlt : k < n := by simpa using c2
     rw [bq_e] at c3 c4
     have e : bqQ c f (k + 1) = bqQ c f k ++ [rfV c.np] := vqL_f (by simpa using c3) (by simpa using c4)
     have el : (bqQ c f (k + 1)).length = (bqQ c f k).length + 1 := by rw [e]; simp
     refine ⟨?_, (fun q hq => by cases hq), by dsimp only; omega, rfl, .inl ⟨rfl, k + 1, (by show k + 1 ≤ min n N; omega), by show min n N - (k + 1) < min n N - k; omega, ?_, BL.refl (bqB c n f), 1000000000000000000000000000000000000000032, _, ?_, .inr ⟨by decide, by decide⟩, .tail _ (.tail _ (.head _)), ?_⟩⟩
     · have hp' := hp k hlt
       have hv : isVw (vwL (f k).u) = true := isVw_cells _
       simp only [allT, List.forall_mem_cons, bq_e, c1, c2, c3, c4, qmP_eq, qfP_eq, hp', hv, cfgK_t]
       simp [inb_arr, hlt, h8]
       exact Nat.le_trans (Nat.mul_le_mul_right 50 (Nat.succ_le_succ hle)) (by omega)
     · dsimp only; rw [bq_w (by omega)]; rfl
     · dsimp only; rw [el]; rfl
     · dsimp only; rw [el]
       refine ⟨rfl, rfl, rfl, rfl, .inr (.inl ⟨_, _, _, rfl, rfl, fun i hi => ?_⟩)⟩
       split
       · rename_i h
         have eg : bqG c f (k + 1) i = bqG c f k i := by show (bqQ c f (k + 1)).getD i vz0 = _; rw [e, getD_snoc_lo _ _ h]
         show _ = List.map AC.v (bqG c f (k + 1) i).cells
         rw [eg]
       · obtain rfl : i = (bqQ c f k).length := by omega
         have eg : bqG c f (k + 1) (bqQ c f k).length = rfV c.np := by show (bqQ c f (k + 1)).getD _ vz0 = _; rw [e, getD_snoc_hi]
         show _ = List.map AC.v (bqG c f (k + 1) (bqQ c f k).length).cells
         rw [eg]
         simp [elt]
         rfl
   · have hN' : k < N := by rw [hN] at c1; simpa using c1
     have hlt : k < n := by simpa using c2
     rw [bq_e] at c3 c4
     have e : bqQ c f (k + 1) = bqQ c f k ++ [(f k).u] := vqL_t (by simpa using c3) (by simpa using c4)
     have el : (bqQ c f (k + 1)).length = (bqQ c f k).length + 1 := by rw [e]; simp
     refine ⟨?_, (fun q hq => by cases hq), by dsimp only; omega, rfl, .inl ⟨rfl, k + 1, (by show k + 1 ≤ min n N; omega), by show min n N - (k + 1) < min n N - k; omega, ?_, BL.refl (bqB c n f), 1000000000000000000000000000000000000000030, _, ?_, .inr ⟨by decide, by decide⟩, .tail _ (.head _), ?_⟩⟩
     · have hp' := hp k hlt
       have hv : isVw (vwL (f k).u) = true := isVw_cells _
       simp only [allT, List.forall_mem_cons, bq_e, c1, c2, c3, c4, qmP_eq, qfP_eq, hp', hv, cfgK_t]
       simp [inb_arr, hlt, h8]
       exact Nat.le_trans (Nat.mul_le_mul_right 50 (Nat.succ_le_succ hle)) (by omega)
     · dsimp only; rw [bq_w (by omega)]; rfl
     · dsimp only; rw [el]; rfl
     · dsimp only; rw [el]
       refine ⟨rfl, rfl, rfl, rfl, .inr (.inl ⟨_, _, _, rfl, rfl, fun i hi => ?_⟩)⟩
       split
       · rename_i h
         have eg : bqG c f (k + 1) i = bqG c f k i := by show (bqQ c f (k + 1)).getD i vz0 = _; rw [e, getD_snoc_lo _ _ h]
         show _ = List.map AC.v (bqG c f (k + 1) i).cells
         rw [eg]
       · obtain rfl : i = (bqQ c f k).length := by omega
         have eg : bqG c f (k + 1) (bqQ c f k).length = (f k).u := by show (bqQ c f (k + 1)).getD _ vz0 = _; rw [e, getD_snoc_hi]
         show _ = List.map AC.v (bqG c f (k + 1) (bqQ c f k).length).cells
         rw [eg]
         simp only [bq_e]
         simp [elt]
         rfl
   · have hge : ¬ k < n := by simpa using c2
     obtain rfl := hend (.inl hge)
     refine ⟨by simp only [allT, List.forall_mem_cons, c1, c2]; simp, (fun q hq => by cases hq), by dsimp only; omega, rfl, .inr ⟨by simp, rfl, hout _ rfl, mf_all (by kernel_rfl) (bqB_low (by omega)) rfl, 1004, _, rfl, .inl rfl, .head _, BEq.refl _⟩⟩
   · have hge : ¬ k < N := by rw [hN] at c1; simpa using c1
     obtain rfl := hend (.inr hge)
     refine ⟨by simp only [allT, List.forall_mem_cons, c1]; simp, (fun q hq => by cases hq), by dsimp only; omega, rfl, .inr ⟨by simp, rfl, hout _ rfl, mf_all (by kernel_rfl) (bqB_low (by omega)) rfl, 1004, _, rfl, .inl rfl, .head _, BEq.refl _⟩⟩
end Go.Proofs.YtgdoojlfbebaaaaDoor
end
/- sennitref22.Base: its contract. -/
section
namespace Go.Proofs.YtgdoojlfbebaaaaDoor
open Go.RowKit
theorem hq_view {l : List AC} (h : flatB Held.ks l = true) : ∃ v : Vw, v.Ok ∧ vwA l = vwL v ∧ vwL (hqA l).u = vwA l := by
 obtain ⟨x, hx, e1, e2⟩ := hq_flat h
 refine ⟨vwI x.cell.view, vwI_ok hx.2.2.2, by rw [e1]; rfl, ?_⟩
 have : vwA (hqL (hqA l)) = vwL (hqA l).u := rfl
 rw [← this, e2]
theorem pos_ok {v : Vw} (h : v.Ok) : posL (vwL v) = true := (posL_iff v).2 fun i hi => ⟨(h.miss i hi).1, (h.good i hi).1, (h.score i hi).1⟩
def rbV (c : Cfg) (n : Nat) (F : Nat → List AC) : Vw := vwOf (baseA (rmayB c.np) (vwL (rfV c.np)) (min n c.nodes.toNat) F)
def rbsR : CfgHS → AV := fun s => .agg (vwL (rbV s.c s.n s.f))
def rbsP : CfgHS → Bool := fun s => decide (s.c.np ≤ 8) && (decide (0 ≤ s.c.nodes) && (decide (s.n ≤ 1000) && heldsB s.n s.f))
theorem bvS_cells (c : Cfg) (n N : Nat) (F : Nat → List AC) (hF : heldsB n F = true) (hN : N ≤ n) : vwL (bvS (bqG c (fun k => hqA (F k)) N) (rfV c.np) (bqQ c (fun k => hqA (F k)) N).length (bqQ c (fun k => hqA (F k)) N).length).1 = baseA (rmayB c.np) (vwL (rfV c.np)) N F := by
 rw [bvS_base, vs_getD]
 unfold baseA
 rw [vqL_views (rmayB c.np) (rfV c.np) (fun k => (hqA (F k)).is) (fun k => (hqA (F k)).u) F N fun k hk => ?_]
 obtain ⟨_, _, _, e⟩ := hq_view (heldsB_at hF (show k < n by omega))
 exact ⟨rfl, e.symm⟩
theorem base_plain (may : List AC → Bool) (np n : Nat) (F : Nat → List AC) (hF : heldsB n F = true) (N : Nat) (hN : N ≤ n) : ∃ v : Vw, baseA may (vwL (rfV np)) N F = vwL v := by
 have h := bvS_base (fun j => (vqL may (rfV np) (fun k => (hqA (F k)).is) (fun k => (hqA (F k)).u) N).getD j vz0) (rfV np) (vqL may (rfV np) (fun k => (hqA (F k)).is) (fun k => (hqA (F k)).u) N).length
 rw [vs_getD, ← vqL_views may (rfV np) (fun k => (hqA (F k)).is) (fun k => (hqA (F k)).u) F N fun k hk => ?_] at h
 · exact ⟨_, h.symm⟩
 · obtain ⟨_, _, _, e⟩ := hq_view (heldsB_at hF (show k < n by omega))
   exact ⟨rfl, e.symm⟩
theorem rbV_eq (c : Cfg) (n : Nat) (F : Nat → List AC) (hF : heldsB n F = true) : vwL (rbV c n F) = baseA (rmayB c.np) (vwL (rfV c.np)) (min n c.nodes.toNat) F := by
 obtain ⟨v, hv⟩ := base_plain (rmayB c.np) c.np n F hF (min n c.nodes.toNat) (Nat.min_le_left _ _)
 unfold rbV
 rw [hv]
 rfl
set_option maxRecDepth 100000 in
theorem bq_run (s : CfgHS) (hs : rbsP s = true) : ∃ p lp r, bqF Tryd.prog s.c s.n (fun k => hqA (s.f k)) p lp = some r ∧ GoodF (rbsR s) r := by
 obtain ⟨c, n, F⟩ := s
 simp only [rbsP, Bool.and_eq_true, decide_eq_true_eq] at hs
 obtain ⟨h8, h0, hn, hF⟩ := hs
 obtain ⟨N, hN⟩ := Int.eq_ofNat_of_zero_le h0
 have hp : ∀ k, k < n → posL (vwL (hqA (F k)).u) = true := fun k hk => by
  obtain ⟨v, hv, e1, e2⟩ := hq_view (heldsB_at hF hk)
  rw [e2, e1]
  exact pos_ok hv
 have S0 := bq0_sum c n N (fun k => hqA (F k)) hN hn h8 hp (eblks := (bqB c n fun k => hqA (F k)).map some) (BL.refl _)
 have hle : (bqQ c (fun k => hqA (F k)) (min n N)).length ≤ min n N := vqL_le ..
 have S1 := bq1_sum (bqQ c (fun k => hqA (F k)) (min n N)).length (bqG c (fun k => hqA (F k)) (min n N)) (rfV c.np) (by omega) (eblks := (bwB (bqQ c (fun k => hqA (F k)) (min n N)).length (bqG c (fun k => hqA (F k)) (min n N)) (rfV c.np)).map some) (BL.refl _)
 have hR := bvS_cells c n (min n N) F hF (Nat.min_le_left _ _)
 refine (?_ : (∃ p r, bqF Tryd.prog c n (fun k => hqA (F k)) p _ = some r ∧ _) → _) (bqT c n (fun k => hqA (F k)) (bqQ c (fun k => hqA (F k)) (min n N)).length (bqG c (fun k => hqA (F k)) (min n N)) (bvS (bqG c (fun k => hqA (F k)) (min n N)) (rfV c.np) (bqQ c (fun k => hqA (F k)) (min n N)).length (bqQ c (fun k => hqA (F k)) (min n N)).length).1 (GoodF (rbsR ⟨c, n, F⟩)) ?_)
 · rintro ⟨p, r, r1, r2⟩
   exact ⟨p, _, r, r1, r2⟩
 · refine ⟨?_, (by first | (unfold lim; omega) | (dsimp only; unfold lim; omega)), ?_, fun u hu => ?_⟩
   · dsimp only
     rw [hR]
     unfold rbsR
     rw [rbV_eq c n F hF]
     simp only [hN]
     rfl
   · simp only [allT, List.forall_mem_cons, qfP_eq, cfgK_t]
     simp [h8]
   · simp only [List.mem_cons, List.not_mem_nil, or_false] at hu
     rcases hu with rfl | rfl
     · exact S1
     · exact S0
def ctRBase : CtF := ctRd (cfgHRd 66) rbsR rbsP
theorem ct_rbase : CtOk Tryd.prog 21 ctRBase :=
 ctRd_ofE (E := EBq Tryd.prog) hEBq (cfgHRd 66) (fuel := 300) (str := 10000000000000000000000000000000000000000) ⟨_, _, Tryd.func21, rfl⟩ (fun s => plain_map _) fun s hs => bq_run s hs
end Go.Proofs.YtgdoojlfbebaaaaDoor
end
